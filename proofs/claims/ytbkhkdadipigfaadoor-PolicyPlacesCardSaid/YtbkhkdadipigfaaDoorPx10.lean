/- For functions of this seat: a plain Lean function each, and the proof that the call answers so; written by a program of this session out of the translation. No condition beyond those that stand in each theorem. -/
import Derived.Test.YtbkhkdadipigfaaDoorPx0
import Derived.Test.YtbkhkdadipigfaaDoorPx8
import Derived.Test.YtbkhkdadipigfaaDoorPx9
namespace Go.Proofs.YtbkhkdadipigfaaDoor.P
open Go.RowKit Go.Proofs.YtbkhkdadipigfaaDoorW.PrintWords Go.Proofs.YtbkhkdadipigfaaDoorW.PrintLast Go.Proofs.YtbkhkdadipigfaaDoorW.PrintMore
attribute [local go_sem] max2_int min2_int max_two min_two max_three min_three max_four min_four   -- for this text's walks alone
set_option linter.unusedVariables false
set_option linter.unusedSimpArgs false

/-! ### messuagelaw20_alive: function 39 -/
def messuagelaw20_alive.f (k : Nat)  : Option (Bool) := (policy_Child.f k (⟨#[47, 108, 105, 98, 47, 97, 46, 115, 111]⟩ : ByteArray) (⟨#[47, 108, 105, 98]⟩ : ByteArray)).bind fun t319 => (if t319 = true then ((policy_Child.f k (⟨#[47, 108, 105, 98, 47, 120, 47, 97, 46, 115, 111]⟩ : ByteArray) (⟨#[47, 108, 105, 98]⟩ : ByteArray)).bind fun t320 => (if t320 = true then (some false) else ((policy_Under.f (⟨#[47, 108, 105, 98, 47, 120, 47, 97, 46, 115, 111]⟩ : ByteArray) (⟨#[47, 108, 105, 98]⟩ : ByteArray)).bind fun t321 => (if t321 = true then ((policy_Under.f (⟨#[47, 97, 46, 97, 112, 107, 33, 47, 108, 105, 98, 47, 120, 46, 115, 111]⟩ : ByteArray) (⟨#[47]⟩ : ByteArray)).bind fun t322 => (if t322 = true then ((policy_Child.f k (⟨#[47, 97, 46, 97, 112, 107, 33, 47, 108, 105, 98, 47, 120, 46, 115, 111]⟩ : ByteArray) (⟨#[47, 97, 46, 97, 112, 107, 33, 47, 108, 105, 98]⟩ : ByteArray)).bind fun t323 => (if t323 = true then ((policy_Right.f k 0 0 ([] : List ByteArray) 0 (⟨#[]⟩ : ByteArray) 0 0).bind fun t324 => (some (t324 == 83))) else (some false))) else (some false))) else (some false))))) else (some false))
theorem messuagelaw20_alive.mono : ∀ k, LeO (messuagelaw20_alive.f k ) (messuagelaw20_alive.f (k + 1) ) := by
  intro  k
  unfold messuagelaw20_alive.f
  repeat' first
      | (with_reducible exact policy_Child.mono _ _ _)
      | (with_reducible exact policy_Right.mono _ _ _ _ _ _ _ _)
      | (with_reducible exact LeO.refl _)
      | (with_reducible exact LeO.none _)
      | (with_reducible refine LeO.ite ?_ ?_)
      | (with_reducible refine LeO.bind ?_ (fun _ => ?_))
      | exact policy_Child.mono _ _ _
      | exact policy_Right.mono _ _ _ _ _ _ _ _
      | exact LeO.none _
      | refine LeO.ite ?_ ?_
      | refine LeO.bind ?_ (fun _ => ?_)
set_option maxHeartbeats 8000000 in
set_option maxRecDepth 100000 in
theorem messuagelaw20_alive.calls (k : Nat)  (r : Bool) (w : World) (hsh : SH w) (h : messuagelaw20_alive.f k  = some r) :
    Calls Tryd.prog 39 #[] w fun e w' => e = .returned (.bool r) ∧ Below w.heap.size w w' := by
  have hu44 := Tryd.underlying44
  have HSH := Aside0.mk hsh
  clear hsh
  have HB := Aside0.mk (Below.refl w.heap.size w)
  have H : ((policy_Child.f k (⟨#[47, 108, 105, 98, 47, 97, 46, 115, 111]⟩ : ByteArray) (⟨#[47, 108, 105, 98]⟩ : ByteArray)).bind fun t319 => (if t319 = true then ((policy_Child.f k (⟨#[47, 108, 105, 98, 47, 120, 47, 97, 46, 115, 111]⟩ : ByteArray) (⟨#[47, 108, 105, 98]⟩ : ByteArray)).bind fun t320 => (if t320 = true then (some false) else ((policy_Under.f (⟨#[47, 108, 105, 98, 47, 120, 47, 97, 46, 115, 111]⟩ : ByteArray) (⟨#[47, 108, 105, 98]⟩ : ByteArray)).bind fun t321 => (if t321 = true then ((policy_Under.f (⟨#[47, 97, 46, 97, 112, 107, 33, 47, 108, 105, 98, 47, 120, 46, 115, 111]⟩ : ByteArray) (⟨#[47]⟩ : ByteArray)).bind fun t322 => (if t322 = true then ((policy_Child.f k (⟨#[47, 97, 46, 97, 112, 107, 33, 47, 108, 105, 98, 47, 120, 46, 115, 111]⟩ : ByteArray) (⟨#[47, 97, 46, 97, 112, 107, 33, 47, 108, 105, 98]⟩ : ByteArray)).bind fun t323 => (if t323 = true then ((policy_Right.f k 0 0 ([] : List ByteArray) 0 (⟨#[]⟩ : ByteArray) 0 0).bind fun t324 => (some (t324 == 83))) else (some false))) else (some false))) else (some false))))) else (some false))) = some r := h
  clear h
  replace H := Option.bind_eq_some_iff.mp H
  obtain ⟨t319, A10, H⟩ := H
  replace H : (if t319 = true then ((policy_Child.f k (⟨#[47, 108, 105, 98, 47, 120, 47, 97, 46, 115, 111]⟩ : ByteArray) (⟨#[47, 108, 105, 98]⟩ : ByteArray)).bind fun t320 => (if t320 = true then (some false) else ((policy_Under.f (⟨#[47, 108, 105, 98, 47, 120, 47, 97, 46, 115, 111]⟩ : ByteArray) (⟨#[47, 108, 105, 98]⟩ : ByteArray)).bind fun t321 => (if t321 = true then ((policy_Under.f (⟨#[47, 97, 46, 97, 112, 107, 33, 47, 108, 105, 98, 47, 120, 46, 115, 111]⟩ : ByteArray) (⟨#[47]⟩ : ByteArray)).bind fun t322 => (if t322 = true then ((policy_Child.f k (⟨#[47, 97, 46, 97, 112, 107, 33, 47, 108, 105, 98, 47, 120, 46, 115, 111]⟩ : ByteArray) (⟨#[47, 97, 46, 97, 112, 107, 33, 47, 108, 105, 98]⟩ : ByteArray)).bind fun t323 => (if t323 = true then ((policy_Right.f k 0 0 ([] : List ByteArray) 0 (⟨#[]⟩ : ByteArray) 0 0).bind fun t324 => (some (t324 == 83))) else (some false))) else (some false))) else (some false))))) else (some false)) = some r := H
  have A1 := Aside0.mk A10
  clear A10
  by_cases c2 : t319 = true
  · subst c2
    have H1 : ((policy_Child.f k (⟨#[47, 108, 105, 98, 47, 120, 47, 97, 46, 115, 111]⟩ : ByteArray) (⟨#[47, 108, 105, 98]⟩ : ByteArray)).bind fun t320 => (if t320 = true then (some false) else ((policy_Under.f (⟨#[47, 108, 105, 98, 47, 120, 47, 97, 46, 115, 111]⟩ : ByteArray) (⟨#[47, 108, 105, 98]⟩ : ByteArray)).bind fun t321 => (if t321 = true then ((policy_Under.f (⟨#[47, 97, 46, 97, 112, 107, 33, 47, 108, 105, 98, 47, 120, 46, 115, 111]⟩ : ByteArray) (⟨#[47]⟩ : ByteArray)).bind fun t322 => (if t322 = true then ((policy_Child.f k (⟨#[47, 97, 46, 97, 112, 107, 33, 47, 108, 105, 98, 47, 120, 46, 115, 111]⟩ : ByteArray) (⟨#[47, 97, 46, 97, 112, 107, 33, 47, 108, 105, 98]⟩ : ByteArray)).bind fun t323 => (if t323 = true then ((policy_Right.f k 0 0 ([] : List ByteArray) 0 (⟨#[]⟩ : ByteArray) 0 0).bind fun t324 => (some (t324 == 83))) else (some false))) else (some false))) else (some false))))) = some r := by rw [if_pos rfl] at H; exact H
    clear H
    have H := H1
    clear H1
    replace H := Option.bind_eq_some_iff.mp H
    obtain ⟨t320, A30, H⟩ := H
    replace H : (if t320 = true then (some false) else ((policy_Under.f (⟨#[47, 108, 105, 98, 47, 120, 47, 97, 46, 115, 111]⟩ : ByteArray) (⟨#[47, 108, 105, 98]⟩ : ByteArray)).bind fun t321 => (if t321 = true then ((policy_Under.f (⟨#[47, 97, 46, 97, 112, 107, 33, 47, 108, 105, 98, 47, 120, 46, 115, 111]⟩ : ByteArray) (⟨#[47]⟩ : ByteArray)).bind fun t322 => (if t322 = true then ((policy_Child.f k (⟨#[47, 97, 46, 97, 112, 107, 33, 47, 108, 105, 98, 47, 120, 46, 115, 111]⟩ : ByteArray) (⟨#[47, 97, 46, 97, 112, 107, 33, 47, 108, 105, 98]⟩ : ByteArray)).bind fun t323 => (if t323 = true then ((policy_Right.f k 0 0 ([] : List ByteArray) 0 (⟨#[]⟩ : ByteArray) 0 0).bind fun t324 => (some (t324 == 83))) else (some false))) else (some false))) else (some false)))) = some r := H
    have A3 := Aside0.mk A30
    clear A30
    by_cases c4 : t320 = true
    · subst c4
      have H1 : (some false) = some r := by rw [if_pos rfl] at H; exact H
      clear H
      have H := H1
      clear H1
      obtain rfl := Option.some.inj H
      go_enter Tryd.func39, Tryd.ntmps39
      go_wp2_with (first | ((with_reducible refine gate_callee (f := 35) rfl ?_); refine goesL_ (some 1) rfl rfl Tryd.func35 (by kernel_rfl) rfl #[.string (⟨#[47, 108, 105, 98, 47, 97, 46, 115, 111]⟩ : ByteArray), .string (⟨#[47, 108, 105, 98]⟩ : ByteArray)] rfl (by (try simp only [List.map_toArray, List.map_cons, List.map_nil]); first | done | rfl | (simp only [List.length_drop, List.length_take]; rfl)) ?_; (with_reducible refine (policy_Child.calls k (⟨#[47, 108, 105, 98, 47, 97, 46, 115, 111]⟩ : ByteArray) (⟨#[47, 108, 105, 98]⟩ : ByteArray) true _ ?side1 A1.out).mono ?_); (case side1 => exact SH.below HSH.out (by repeat (first | (with_reducible first | exact HB.out | apply below_alloc | apply pw_below_drewN | apply below_drew1) | exact HB.out))); rintro e w5 ⟨rfl, hb⟩; refine ⟨_, rfl, ?_⟩; have n0_ := Aside0.mk (below_step (by repeat (first | (with_reducible first | exact HB.out | apply below_alloc | apply pw_below_drewN | apply below_drew1) | exact HB.out)) hb); clear HB; have HB := n0_; clear n0_; (try clear hb); (try clear hb2); (try clear hk); (try clear hi)) | (go_at_call 35; (with_reducible refine (policy_Child.calls k (⟨#[47, 108, 105, 98, 47, 120, 47, 97, 46, 115, 111]⟩ : ByteArray) (⟨#[47, 108, 105, 98]⟩ : ByteArray) true _ ?side1 A3.out).mono ?_); (case side1 => exact SH.below HSH.out (by repeat (first | (with_reducible first | exact HB.out | apply below_alloc | apply pw_below_drewN | apply below_drew1) | exact HB.out))); rintro e w6 ⟨rfl, hb⟩; have n0_ := Aside0.mk (below_step (by repeat (first | (with_reducible first | exact HB.out | apply below_alloc | apply pw_below_drewN | apply below_drew1) | exact HB.out)) hb); clear HB; have HB := n0_; clear n0_; (try clear hb); (try clear hb2); (try clear hk); (try clear hi)))
      go_ret
      exact ⟨by first | rfl | (simp [errW_none, errW_some] <;> rfl) | (simp [*, errW_none, errW_some] <;> rfl), by repeat (first | (with_reducible first | exact HB.out | apply below_alloc | apply pw_below_drewN | apply below_drew1) | exact HB.out)⟩
    · replace c4 := Bool.eq_false_iff.mpr c4
      subst c4
      have H1 : ((policy_Under.f (⟨#[47, 108, 105, 98, 47, 120, 47, 97, 46, 115, 111]⟩ : ByteArray) (⟨#[47, 108, 105, 98]⟩ : ByteArray)).bind fun t321 => (if t321 = true then ((policy_Under.f (⟨#[47, 97, 46, 97, 112, 107, 33, 47, 108, 105, 98, 47, 120, 46, 115, 111]⟩ : ByteArray) (⟨#[47]⟩ : ByteArray)).bind fun t322 => (if t322 = true then ((policy_Child.f k (⟨#[47, 97, 46, 97, 112, 107, 33, 47, 108, 105, 98, 47, 120, 46, 115, 111]⟩ : ByteArray) (⟨#[47, 97, 46, 97, 112, 107, 33, 47, 108, 105, 98]⟩ : ByteArray)).bind fun t323 => (if t323 = true then ((policy_Right.f k 0 0 ([] : List ByteArray) 0 (⟨#[]⟩ : ByteArray) 0 0).bind fun t324 => (some (t324 == 83))) else (some false))) else (some false))) else (some false))) = some r := by rw [if_neg (show ¬ (false = true) by decide)] at H; exact H
      clear H
      have H := H1
      clear H1
      replace H := Option.bind_eq_some_iff.mp H
      obtain ⟨t321, A70, H⟩ := H
      replace H : (if t321 = true then ((policy_Under.f (⟨#[47, 97, 46, 97, 112, 107, 33, 47, 108, 105, 98, 47, 120, 46, 115, 111]⟩ : ByteArray) (⟨#[47]⟩ : ByteArray)).bind fun t322 => (if t322 = true then ((policy_Child.f k (⟨#[47, 97, 46, 97, 112, 107, 33, 47, 108, 105, 98, 47, 120, 46, 115, 111]⟩ : ByteArray) (⟨#[47, 97, 46, 97, 112, 107, 33, 47, 108, 105, 98]⟩ : ByteArray)).bind fun t323 => (if t323 = true then ((policy_Right.f k 0 0 ([] : List ByteArray) 0 (⟨#[]⟩ : ByteArray) 0 0).bind fun t324 => (some (t324 == 83))) else (some false))) else (some false))) else (some false)) = some r := H
      have A7 := Aside0.mk A70
      clear A70
      by_cases c8 : t321 = true
      · subst c8
        have H1 : ((policy_Under.f (⟨#[47, 97, 46, 97, 112, 107, 33, 47, 108, 105, 98, 47, 120, 46, 115, 111]⟩ : ByteArray) (⟨#[47]⟩ : ByteArray)).bind fun t322 => (if t322 = true then ((policy_Child.f k (⟨#[47, 97, 46, 97, 112, 107, 33, 47, 108, 105, 98, 47, 120, 46, 115, 111]⟩ : ByteArray) (⟨#[47, 97, 46, 97, 112, 107, 33, 47, 108, 105, 98]⟩ : ByteArray)).bind fun t323 => (if t323 = true then ((policy_Right.f k 0 0 ([] : List ByteArray) 0 (⟨#[]⟩ : ByteArray) 0 0).bind fun t324 => (some (t324 == 83))) else (some false))) else (some false))) = some r := by rw [if_pos rfl] at H; exact H
        clear H
        have H := H1
        clear H1
        replace H := Option.bind_eq_some_iff.mp H
        obtain ⟨t322, A90, H⟩ := H
        replace H : (if t322 = true then ((policy_Child.f k (⟨#[47, 97, 46, 97, 112, 107, 33, 47, 108, 105, 98, 47, 120, 46, 115, 111]⟩ : ByteArray) (⟨#[47, 97, 46, 97, 112, 107, 33, 47, 108, 105, 98]⟩ : ByteArray)).bind fun t323 => (if t323 = true then ((policy_Right.f k 0 0 ([] : List ByteArray) 0 (⟨#[]⟩ : ByteArray) 0 0).bind fun t324 => (some (t324 == 83))) else (some false))) else (some false)) = some r := H
        have A9 := Aside0.mk A90
        clear A90
        by_cases c10 : t322 = true
        · subst c10
          have H1 : ((policy_Child.f k (⟨#[47, 97, 46, 97, 112, 107, 33, 47, 108, 105, 98, 47, 120, 46, 115, 111]⟩ : ByteArray) (⟨#[47, 97, 46, 97, 112, 107, 33, 47, 108, 105, 98]⟩ : ByteArray)).bind fun t323 => (if t323 = true then ((policy_Right.f k 0 0 ([] : List ByteArray) 0 (⟨#[]⟩ : ByteArray) 0 0).bind fun t324 => (some (t324 == 83))) else (some false))) = some r := by rw [if_pos rfl] at H; exact H
          clear H
          have H := H1
          clear H1
          replace H := Option.bind_eq_some_iff.mp H
          obtain ⟨t323, A110, H⟩ := H
          replace H : (if t323 = true then ((policy_Right.f k 0 0 ([] : List ByteArray) 0 (⟨#[]⟩ : ByteArray) 0 0).bind fun t324 => (some (t324 == 83))) else (some false)) = some r := H
          have A11 := Aside0.mk A110
          clear A110
          by_cases c12 : t323 = true
          · subst c12
            have H1 : ((policy_Right.f k 0 0 ([] : List ByteArray) 0 (⟨#[]⟩ : ByteArray) 0 0).bind fun t324 => (some (t324 == 83))) = some r := by rw [if_pos rfl] at H; exact H
            clear H
            have H := H1
            clear H1
            replace H := Option.bind_eq_some_iff.mp H
            obtain ⟨t324, A130, H⟩ := H
            replace H : (some (t324 == 83)) = some r := H
            have A13 := Aside0.mk A130
            clear A130
            obtain rfl := Option.some.inj H
            go_enter Tryd.func39, Tryd.ntmps39
            go_wp2_with (first | ((with_reducible refine gate_callee (f := 35) rfl ?_); refine goesL_ (some 1) rfl rfl Tryd.func35 (by kernel_rfl) rfl #[.string (⟨#[47, 108, 105, 98, 47, 97, 46, 115, 111]⟩ : ByteArray), .string (⟨#[47, 108, 105, 98]⟩ : ByteArray)] rfl (by (try simp only [List.map_toArray, List.map_cons, List.map_nil]); first | done | rfl | (simp only [List.length_drop, List.length_take]; rfl)) ?_; (with_reducible refine (policy_Child.calls k (⟨#[47, 108, 105, 98, 47, 97, 46, 115, 111]⟩ : ByteArray) (⟨#[47, 108, 105, 98]⟩ : ByteArray) true _ ?side1 A1.out).mono ?_); (case side1 => exact SH.below HSH.out (by repeat (first | (with_reducible first | exact HB.out | apply below_alloc | apply pw_below_drewN | apply below_drew1) | exact HB.out))); rintro e w14 ⟨rfl, hb⟩; refine ⟨_, rfl, ?_⟩; have n0_ := Aside0.mk (below_step (by repeat (first | (with_reducible first | exact HB.out | apply below_alloc | apply pw_below_drewN | apply below_drew1) | exact HB.out)) hb); clear HB; have HB := n0_; clear n0_; (try clear hb); (try clear hb2); (try clear hk); (try clear hi)) | (go_at_call 35; (with_reducible refine (policy_Child.calls k (⟨#[47, 108, 105, 98, 47, 120, 47, 97, 46, 115, 111]⟩ : ByteArray) (⟨#[47, 108, 105, 98]⟩ : ByteArray) false _ ?side1 A3.out).mono ?_); (case side1 => exact SH.below HSH.out (by repeat (first | (with_reducible first | exact HB.out | apply below_alloc | apply pw_below_drewN | apply below_drew1) | exact HB.out))); rintro e w15 ⟨rfl, hb⟩; have n0_ := Aside0.mk (below_step (by repeat (first | (with_reducible first | exact HB.out | apply below_alloc | apply pw_below_drewN | apply below_drew1) | exact HB.out)) hb); clear HB; have HB := n0_; clear n0_; (try clear hb); (try clear hb2); (try clear hk); (try clear hi)) | (go_at_call 37; (with_reducible refine (policy_Under.calls (⟨#[47, 108, 105, 98, 47, 120, 47, 97, 46, 115, 111]⟩ : ByteArray) (⟨#[47, 108, 105, 98]⟩ : ByteArray) true _ ?side1 A7.out).mono ?_); (case side1 => exact SH.below HSH.out (by repeat (first | (with_reducible first | exact HB.out | apply below_alloc | apply pw_below_drewN | apply below_drew1) | exact HB.out))); rintro e w16 ⟨rfl, hb⟩; have n0_ := Aside0.mk (below_step (by repeat (first | (with_reducible first | exact HB.out | apply below_alloc | apply pw_below_drewN | apply below_drew1) | exact HB.out)) hb); clear HB; have HB := n0_; clear n0_; (try clear hb); (try clear hb2); (try clear hk); (try clear hi)) | (go_at_call 37; (with_reducible refine (policy_Under.calls (⟨#[47, 97, 46, 97, 112, 107, 33, 47, 108, 105, 98, 47, 120, 46, 115, 111]⟩ : ByteArray) (⟨#[47]⟩ : ByteArray) true _ ?side1 A9.out).mono ?_); (case side1 => exact SH.below HSH.out (by repeat (first | (with_reducible first | exact HB.out | apply below_alloc | apply pw_below_drewN | apply below_drew1) | exact HB.out))); rintro e w17 ⟨rfl, hb⟩; have n0_ := Aside0.mk (below_step (by repeat (first | (with_reducible first | exact HB.out | apply below_alloc | apply pw_below_drewN | apply below_drew1) | exact HB.out)) hb); clear HB; have HB := n0_; clear n0_; (try clear hb); (try clear hb2); (try clear hk); (try clear hi)) | (go_at_call 35; (with_reducible refine (policy_Child.calls k (⟨#[47, 97, 46, 97, 112, 107, 33, 47, 108, 105, 98, 47, 120, 46, 115, 111]⟩ : ByteArray) (⟨#[47, 97, 46, 97, 112, 107, 33, 47, 108, 105, 98]⟩ : ByteArray) true _ ?side1 A11.out).mono ?_); (case side1 => exact SH.below HSH.out (by repeat (first | (with_reducible first | exact HB.out | apply below_alloc | apply pw_below_drewN | apply below_drew1) | exact HB.out))); rintro e w18 ⟨rfl, hb⟩; have n0_ := Aside0.mk (below_step (by repeat (first | (with_reducible first | exact HB.out | apply below_alloc | apply pw_below_drewN | apply below_drew1) | exact HB.out)) hb); clear HB; have HB := n0_; clear n0_; (try clear hb); (try clear hb2); (try clear hk); (try clear hi)) | (go_at_call 61; (refine (policy_Right.calls k 0 0 _ _ ([] : List ByteArray) 0 (⟨#[]⟩ : ByteArray) 0 0 t324 _ ?side1 ?side2 ?side3 A13.out).mono ?_); (case side1 => exact SH.below HSH.out (by repeat (first | (with_reducible first | exact HB.out | apply below_alloc | apply pw_below_drewN | apply below_drew1) | exact HB.out))); (case side2 => exact Kd.C_nil _ _); (case side3 => exact Nat.le_refl _); rintro e w19 ⟨rfl, hb⟩; have n0_ := Aside0.mk (below_step (by repeat (first | (with_reducible first | exact HB.out | apply below_alloc | apply pw_below_drewN | apply below_drew1) | exact HB.out)) hb); clear HB; have HB := n0_; clear n0_; (try clear hb); (try clear hb2); (try clear hk); (try clear hi)))
            go_ret
            exact ⟨by first | rfl | (simp [errW_none, errW_some] <;> rfl) | (simp [*, errW_none, errW_some] <;> rfl), by repeat (first | (with_reducible first | exact HB.out | apply below_alloc | apply pw_below_drewN | apply below_drew1) | exact HB.out)⟩
          · replace c12 := Bool.eq_false_iff.mpr c12
            subst c12
            have H1 : (some false) = some r := by rw [if_neg (show ¬ (false = true) by decide)] at H; exact H
            clear H
            have H := H1
            clear H1
            obtain rfl := Option.some.inj H
            go_enter Tryd.func39, Tryd.ntmps39
            go_wp2_with (first | ((with_reducible refine gate_callee (f := 35) rfl ?_); refine goesL_ (some 1) rfl rfl Tryd.func35 (by kernel_rfl) rfl #[.string (⟨#[47, 108, 105, 98, 47, 97, 46, 115, 111]⟩ : ByteArray), .string (⟨#[47, 108, 105, 98]⟩ : ByteArray)] rfl (by (try simp only [List.map_toArray, List.map_cons, List.map_nil]); first | done | rfl | (simp only [List.length_drop, List.length_take]; rfl)) ?_; (with_reducible refine (policy_Child.calls k (⟨#[47, 108, 105, 98, 47, 97, 46, 115, 111]⟩ : ByteArray) (⟨#[47, 108, 105, 98]⟩ : ByteArray) true _ ?side1 A1.out).mono ?_); (case side1 => exact SH.below HSH.out (by repeat (first | (with_reducible first | exact HB.out | apply below_alloc | apply pw_below_drewN | apply below_drew1) | exact HB.out))); rintro e w20 ⟨rfl, hb⟩; refine ⟨_, rfl, ?_⟩; have n0_ := Aside0.mk (below_step (by repeat (first | (with_reducible first | exact HB.out | apply below_alloc | apply pw_below_drewN | apply below_drew1) | exact HB.out)) hb); clear HB; have HB := n0_; clear n0_; (try clear hb); (try clear hb2); (try clear hk); (try clear hi)) | (go_at_call 35; (with_reducible refine (policy_Child.calls k (⟨#[47, 108, 105, 98, 47, 120, 47, 97, 46, 115, 111]⟩ : ByteArray) (⟨#[47, 108, 105, 98]⟩ : ByteArray) false _ ?side1 A3.out).mono ?_); (case side1 => exact SH.below HSH.out (by repeat (first | (with_reducible first | exact HB.out | apply below_alloc | apply pw_below_drewN | apply below_drew1) | exact HB.out))); rintro e w21 ⟨rfl, hb⟩; have n0_ := Aside0.mk (below_step (by repeat (first | (with_reducible first | exact HB.out | apply below_alloc | apply pw_below_drewN | apply below_drew1) | exact HB.out)) hb); clear HB; have HB := n0_; clear n0_; (try clear hb); (try clear hb2); (try clear hk); (try clear hi)) | (go_at_call 37; (with_reducible refine (policy_Under.calls (⟨#[47, 108, 105, 98, 47, 120, 47, 97, 46, 115, 111]⟩ : ByteArray) (⟨#[47, 108, 105, 98]⟩ : ByteArray) true _ ?side1 A7.out).mono ?_); (case side1 => exact SH.below HSH.out (by repeat (first | (with_reducible first | exact HB.out | apply below_alloc | apply pw_below_drewN | apply below_drew1) | exact HB.out))); rintro e w22 ⟨rfl, hb⟩; have n0_ := Aside0.mk (below_step (by repeat (first | (with_reducible first | exact HB.out | apply below_alloc | apply pw_below_drewN | apply below_drew1) | exact HB.out)) hb); clear HB; have HB := n0_; clear n0_; (try clear hb); (try clear hb2); (try clear hk); (try clear hi)) | (go_at_call 37; (with_reducible refine (policy_Under.calls (⟨#[47, 97, 46, 97, 112, 107, 33, 47, 108, 105, 98, 47, 120, 46, 115, 111]⟩ : ByteArray) (⟨#[47]⟩ : ByteArray) true _ ?side1 A9.out).mono ?_); (case side1 => exact SH.below HSH.out (by repeat (first | (with_reducible first | exact HB.out | apply below_alloc | apply pw_below_drewN | apply below_drew1) | exact HB.out))); rintro e w23 ⟨rfl, hb⟩; have n0_ := Aside0.mk (below_step (by repeat (first | (with_reducible first | exact HB.out | apply below_alloc | apply pw_below_drewN | apply below_drew1) | exact HB.out)) hb); clear HB; have HB := n0_; clear n0_; (try clear hb); (try clear hb2); (try clear hk); (try clear hi)) | (go_at_call 35; (with_reducible refine (policy_Child.calls k (⟨#[47, 97, 46, 97, 112, 107, 33, 47, 108, 105, 98, 47, 120, 46, 115, 111]⟩ : ByteArray) (⟨#[47, 97, 46, 97, 112, 107, 33, 47, 108, 105, 98]⟩ : ByteArray) false _ ?side1 A11.out).mono ?_); (case side1 => exact SH.below HSH.out (by repeat (first | (with_reducible first | exact HB.out | apply below_alloc | apply pw_below_drewN | apply below_drew1) | exact HB.out))); rintro e w24 ⟨rfl, hb⟩; have n0_ := Aside0.mk (below_step (by repeat (first | (with_reducible first | exact HB.out | apply below_alloc | apply pw_below_drewN | apply below_drew1) | exact HB.out)) hb); clear HB; have HB := n0_; clear n0_; (try clear hb); (try clear hb2); (try clear hk); (try clear hi)))
            go_ret
            exact ⟨by first | rfl | (simp [errW_none, errW_some] <;> rfl) | (simp [*, errW_none, errW_some] <;> rfl), by repeat (first | (with_reducible first | exact HB.out | apply below_alloc | apply pw_below_drewN | apply below_drew1) | exact HB.out)⟩
        · replace c10 := Bool.eq_false_iff.mpr c10
          subst c10
          have H1 : (some false) = some r := by rw [if_neg (show ¬ (false = true) by decide)] at H; exact H
          clear H
          have H := H1
          clear H1
          obtain rfl := Option.some.inj H
          go_enter Tryd.func39, Tryd.ntmps39
          go_wp2_with (first | ((with_reducible refine gate_callee (f := 35) rfl ?_); refine goesL_ (some 1) rfl rfl Tryd.func35 (by kernel_rfl) rfl #[.string (⟨#[47, 108, 105, 98, 47, 97, 46, 115, 111]⟩ : ByteArray), .string (⟨#[47, 108, 105, 98]⟩ : ByteArray)] rfl (by (try simp only [List.map_toArray, List.map_cons, List.map_nil]); first | done | rfl | (simp only [List.length_drop, List.length_take]; rfl)) ?_; (with_reducible refine (policy_Child.calls k (⟨#[47, 108, 105, 98, 47, 97, 46, 115, 111]⟩ : ByteArray) (⟨#[47, 108, 105, 98]⟩ : ByteArray) true _ ?side1 A1.out).mono ?_); (case side1 => exact SH.below HSH.out (by repeat (first | (with_reducible first | exact HB.out | apply below_alloc | apply pw_below_drewN | apply below_drew1) | exact HB.out))); rintro e w25 ⟨rfl, hb⟩; refine ⟨_, rfl, ?_⟩; have n0_ := Aside0.mk (below_step (by repeat (first | (with_reducible first | exact HB.out | apply below_alloc | apply pw_below_drewN | apply below_drew1) | exact HB.out)) hb); clear HB; have HB := n0_; clear n0_; (try clear hb); (try clear hb2); (try clear hk); (try clear hi)) | (go_at_call 35; (with_reducible refine (policy_Child.calls k (⟨#[47, 108, 105, 98, 47, 120, 47, 97, 46, 115, 111]⟩ : ByteArray) (⟨#[47, 108, 105, 98]⟩ : ByteArray) false _ ?side1 A3.out).mono ?_); (case side1 => exact SH.below HSH.out (by repeat (first | (with_reducible first | exact HB.out | apply below_alloc | apply pw_below_drewN | apply below_drew1) | exact HB.out))); rintro e w26 ⟨rfl, hb⟩; have n0_ := Aside0.mk (below_step (by repeat (first | (with_reducible first | exact HB.out | apply below_alloc | apply pw_below_drewN | apply below_drew1) | exact HB.out)) hb); clear HB; have HB := n0_; clear n0_; (try clear hb); (try clear hb2); (try clear hk); (try clear hi)) | (go_at_call 37; (with_reducible refine (policy_Under.calls (⟨#[47, 108, 105, 98, 47, 120, 47, 97, 46, 115, 111]⟩ : ByteArray) (⟨#[47, 108, 105, 98]⟩ : ByteArray) true _ ?side1 A7.out).mono ?_); (case side1 => exact SH.below HSH.out (by repeat (first | (with_reducible first | exact HB.out | apply below_alloc | apply pw_below_drewN | apply below_drew1) | exact HB.out))); rintro e w27 ⟨rfl, hb⟩; have n0_ := Aside0.mk (below_step (by repeat (first | (with_reducible first | exact HB.out | apply below_alloc | apply pw_below_drewN | apply below_drew1) | exact HB.out)) hb); clear HB; have HB := n0_; clear n0_; (try clear hb); (try clear hb2); (try clear hk); (try clear hi)) | (go_at_call 37; (with_reducible refine (policy_Under.calls (⟨#[47, 97, 46, 97, 112, 107, 33, 47, 108, 105, 98, 47, 120, 46, 115, 111]⟩ : ByteArray) (⟨#[47]⟩ : ByteArray) false _ ?side1 A9.out).mono ?_); (case side1 => exact SH.below HSH.out (by repeat (first | (with_reducible first | exact HB.out | apply below_alloc | apply pw_below_drewN | apply below_drew1) | exact HB.out))); rintro e w28 ⟨rfl, hb⟩; have n0_ := Aside0.mk (below_step (by repeat (first | (with_reducible first | exact HB.out | apply below_alloc | apply pw_below_drewN | apply below_drew1) | exact HB.out)) hb); clear HB; have HB := n0_; clear n0_; (try clear hb); (try clear hb2); (try clear hk); (try clear hi)))
          go_ret
          exact ⟨by first | rfl | (simp [errW_none, errW_some] <;> rfl) | (simp [*, errW_none, errW_some] <;> rfl), by repeat (first | (with_reducible first | exact HB.out | apply below_alloc | apply pw_below_drewN | apply below_drew1) | exact HB.out)⟩
      · replace c8 := Bool.eq_false_iff.mpr c8
        subst c8
        have H1 : (some false) = some r := by rw [if_neg (show ¬ (false = true) by decide)] at H; exact H
        clear H
        have H := H1
        clear H1
        obtain rfl := Option.some.inj H
        go_enter Tryd.func39, Tryd.ntmps39
        go_wp2_with (first | ((with_reducible refine gate_callee (f := 35) rfl ?_); refine goesL_ (some 1) rfl rfl Tryd.func35 (by kernel_rfl) rfl #[.string (⟨#[47, 108, 105, 98, 47, 97, 46, 115, 111]⟩ : ByteArray), .string (⟨#[47, 108, 105, 98]⟩ : ByteArray)] rfl (by (try simp only [List.map_toArray, List.map_cons, List.map_nil]); first | done | rfl | (simp only [List.length_drop, List.length_take]; rfl)) ?_; (with_reducible refine (policy_Child.calls k (⟨#[47, 108, 105, 98, 47, 97, 46, 115, 111]⟩ : ByteArray) (⟨#[47, 108, 105, 98]⟩ : ByteArray) true _ ?side1 A1.out).mono ?_); (case side1 => exact SH.below HSH.out (by repeat (first | (with_reducible first | exact HB.out | apply below_alloc | apply pw_below_drewN | apply below_drew1) | exact HB.out))); rintro e w29 ⟨rfl, hb⟩; refine ⟨_, rfl, ?_⟩; have n0_ := Aside0.mk (below_step (by repeat (first | (with_reducible first | exact HB.out | apply below_alloc | apply pw_below_drewN | apply below_drew1) | exact HB.out)) hb); clear HB; have HB := n0_; clear n0_; (try clear hb); (try clear hb2); (try clear hk); (try clear hi)) | (go_at_call 35; (with_reducible refine (policy_Child.calls k (⟨#[47, 108, 105, 98, 47, 120, 47, 97, 46, 115, 111]⟩ : ByteArray) (⟨#[47, 108, 105, 98]⟩ : ByteArray) false _ ?side1 A3.out).mono ?_); (case side1 => exact SH.below HSH.out (by repeat (first | (with_reducible first | exact HB.out | apply below_alloc | apply pw_below_drewN | apply below_drew1) | exact HB.out))); rintro e w30 ⟨rfl, hb⟩; have n0_ := Aside0.mk (below_step (by repeat (first | (with_reducible first | exact HB.out | apply below_alloc | apply pw_below_drewN | apply below_drew1) | exact HB.out)) hb); clear HB; have HB := n0_; clear n0_; (try clear hb); (try clear hb2); (try clear hk); (try clear hi)) | (go_at_call 37; (with_reducible refine (policy_Under.calls (⟨#[47, 108, 105, 98, 47, 120, 47, 97, 46, 115, 111]⟩ : ByteArray) (⟨#[47, 108, 105, 98]⟩ : ByteArray) false _ ?side1 A7.out).mono ?_); (case side1 => exact SH.below HSH.out (by repeat (first | (with_reducible first | exact HB.out | apply below_alloc | apply pw_below_drewN | apply below_drew1) | exact HB.out))); rintro e w31 ⟨rfl, hb⟩; have n0_ := Aside0.mk (below_step (by repeat (first | (with_reducible first | exact HB.out | apply below_alloc | apply pw_below_drewN | apply below_drew1) | exact HB.out)) hb); clear HB; have HB := n0_; clear n0_; (try clear hb); (try clear hb2); (try clear hk); (try clear hi)))
        go_ret
        exact ⟨by first | rfl | (simp [errW_none, errW_some] <;> rfl) | (simp [*, errW_none, errW_some] <;> rfl), by repeat (first | (with_reducible first | exact HB.out | apply below_alloc | apply pw_below_drewN | apply below_drew1) | exact HB.out)⟩
  · replace c2 := Bool.eq_false_iff.mpr c2
    subst c2
    have H1 : (some false) = some r := by rw [if_neg (show ¬ (false = true) by decide)] at H; exact H
    clear H
    have H := H1
    clear H1
    obtain rfl := Option.some.inj H
    go_enter Tryd.func39, Tryd.ntmps39
    go_wp2_with (first | ((with_reducible refine gate_callee (f := 35) rfl ?_); refine goesL_ (some 1) rfl rfl Tryd.func35 (by kernel_rfl) rfl #[.string (⟨#[47, 108, 105, 98, 47, 97, 46, 115, 111]⟩ : ByteArray), .string (⟨#[47, 108, 105, 98]⟩ : ByteArray)] rfl (by (try simp only [List.map_toArray, List.map_cons, List.map_nil]); first | done | rfl | (simp only [List.length_drop, List.length_take]; rfl)) ?_; (with_reducible refine (policy_Child.calls k (⟨#[47, 108, 105, 98, 47, 97, 46, 115, 111]⟩ : ByteArray) (⟨#[47, 108, 105, 98]⟩ : ByteArray) false _ ?side1 A1.out).mono ?_); (case side1 => exact SH.below HSH.out (by repeat (first | (with_reducible first | exact HB.out | apply below_alloc | apply pw_below_drewN | apply below_drew1) | exact HB.out))); rintro e w32 ⟨rfl, hb⟩; refine ⟨_, rfl, ?_⟩; have n0_ := Aside0.mk (below_step (by repeat (first | (with_reducible first | exact HB.out | apply below_alloc | apply pw_below_drewN | apply below_drew1) | exact HB.out)) hb); clear HB; have HB := n0_; clear n0_; (try clear hb); (try clear hb2); (try clear hk); (try clear hi)))
    go_ret
    exact ⟨by first | rfl | (simp [errW_none, errW_some] <;> rfl) | (simp [*, errW_none, errW_some] <;> rfl), by repeat (first | (with_reducible first | exact HB.out | apply below_alloc | apply pw_below_drewN | apply below_drew1) | exact HB.out)⟩

/-! ### messuagelaw20_PolicyPlaces: function 9 -/
def messuagelaw20_PolicyPlaces.j0 : Nat → ByteArray → ByteArray → Bool → Option (Bool)
  | 0, _, _, _ => none
  | k + 1, x0, x1, x12 => if x12 = true then (some true) else ((policy_Child.f k x0 x1).bind fun t325 => ((messuageref20_Child.f k x0 x1).bind fun t326 => (if (t325 == t326) = true then ((policy_Under.f x0 x1).bind fun t327 => ((messuageref20_Under.f k x0 x1).bind fun t328 => (if (t327 == t328) = true then ((messuagelaw20_alive.f k).bind fun t329 => (some t329)) else (some false)))) else (some false))))
def messuagelaw20_PolicyPlaces.f (k : Nat) (a0 : ByteArray) (a1 : ByteArray) : Option (Bool) := if (a0.size : Int) > 4096 then (messuagelaw20_PolicyPlaces.j0 k a0 a1 true) else (messuagelaw20_PolicyPlaces.j0 k a0 a1 (decide ((a1.size : Int) > 4096)))
theorem messuagelaw20_PolicyPlaces.mono_l : ∀ k, (∀ y0 y1 y2, LeO (messuagelaw20_PolicyPlaces.j0 k y0 y1 y2) (messuagelaw20_PolicyPlaces.j0 (k + 1) y0 y1 y2))
  | 0 => fun _ _ _ r h => by simp [messuagelaw20_PolicyPlaces.j0] at h
  | k + 1 => by
    have ih0 := messuagelaw20_PolicyPlaces.mono_l k
    · intro y0 y1 y2
      unfold messuagelaw20_PolicyPlaces.j0
      repeat' first
      | (with_reducible exact ih0 _ _ _)
      | (with_reducible exact messuagelaw20_alive.mono _)
      | (with_reducible exact messuageref20_Child.mono _ _ _)
      | (with_reducible exact messuageref20_Under.mono _ _ _)
      | (with_reducible exact policy_Child.mono _ _ _)
      | (with_reducible exact LeO.refl _)
      | (with_reducible exact LeO.none _)
      | (with_reducible refine LeO.ite ?_ ?_)
      | (with_reducible refine LeO.bind ?_ (fun _ => ?_))
      | exact ih0 _ _ _
      | exact messuagelaw20_alive.mono _
      | exact messuageref20_Child.mono _ _ _
      | exact messuageref20_Under.mono _ _ _
      | exact policy_Child.mono _ _ _
      | exact LeO.none _
      | refine LeO.ite ?_ ?_
      | refine LeO.bind ?_ (fun _ => ?_)
theorem messuagelaw20_PolicyPlaces.mono : ∀ a0 a1 k, LeO (messuagelaw20_PolicyPlaces.f k a0 a1) (messuagelaw20_PolicyPlaces.f (k + 1) a0 a1) := by
  intro a0 a1 k
  have ih0 := messuagelaw20_PolicyPlaces.mono_l k
  unfold messuagelaw20_PolicyPlaces.f
  repeat' first
      | (with_reducible exact ih0 _ _ _)
      | (with_reducible exact messuagelaw20_alive.mono _)
      | (with_reducible exact messuageref20_Child.mono _ _ _)
      | (with_reducible exact messuageref20_Under.mono _ _ _)
      | (with_reducible exact policy_Child.mono _ _ _)
      | (with_reducible exact LeO.refl _)
      | (with_reducible exact LeO.none _)
      | (with_reducible refine LeO.ite ?_ ?_)
      | (with_reducible refine LeO.bind ?_ (fun _ => ?_))
      | exact ih0 _ _ _
      | exact messuagelaw20_alive.mono _
      | exact messuageref20_Child.mono _ _ _
      | exact messuageref20_Under.mono _ _ _
      | exact policy_Child.mono _ _ _
      | exact LeO.none _
      | refine LeO.ite ?_ ?_
      | refine LeO.bind ?_ (fun _ => ?_)
set_option maxHeartbeats 8000000 in
set_option maxRecDepth 100000 in
theorem messuagelaw20_PolicyPlaces.calls (k : Nat) (a0 : ByteArray) (a1 : ByteArray) (r : Bool) (w : World) (hsh : SH w) (h : messuagelaw20_PolicyPlaces.f k a0 a1 = some r) :
    Calls Tryd.prog 9 #[.string a0, .string a1] w fun e w' => e = .returned (.bool r) ∧ Below w.heap.size w w' := by
  have HSH := Aside0.mk hsh
  clear hsh
  have HB := Aside0.mk (Below.refl w.heap.size w)
  have H : (if (a0.size : Int) > 4096 then (messuagelaw20_PolicyPlaces.j0 k a0 a1 true) else (messuagelaw20_PolicyPlaces.j0 k a0 a1 (decide ((a1.size : Int) > 4096)))) = some r := h
  clear h
  have HC3 := Aside0.mk H
  clear H
  go_enter Tryd.func9, Tryd.ntmps9
  go_upto_region 1 with (fail)
  go_cut [12] (fun v12 wc => ∃ (kq : Nat) (x12_2 : Bool), v12 = .bool x12_2 ∧ Aside0 (messuagelaw20_PolicyPlaces.j0 kq a0 a1 x12_2 = some r) ∧ Aside0 (kq ≤ k) ∧ Aside0 (Below w.heap.size w wc))
  case first =>
    have H := HC3.out
    clear HC3
    by_cases c4 : (a0.size : Int) > 4096
    · rw [if_pos c4] at H
      have c4b0 : decide (4096 < (a0.size : Int)) = true := decide_eq_true c4
      have c4b1 : decide (4096 < a0.size) = true := decide_eq_true (by omega)
      clear c4
      (first | rw [c4b0] | (simp only [i64_w, i32_w]; rw [c4b0]) | skip)
      have H' := Aside0.mk H
      clear H
      go_wp2
      go_meet
      case rel => exact ⟨_, (true), (by first | rfl | (simp; done) | (simp [*]; done)), H', ⟨by first | omega | exact Nat.le_refl _⟩, ⟨by repeat (first | (with_reducible first | exact HB.out | apply below_alloc | apply pw_below_drewN | apply below_drew1) | exact HB.out)⟩⟩
    · rw [if_neg c4] at H
      have c4b0 : decide (4096 < (a0.size : Int)) = false := decide_eq_false c4
      have c4b1 : decide (4096 < a0.size) = false := decide_eq_false (by omega)
      clear c4
      (first | rw [c4b0] | (simp only [i64_w, i32_w]; rw [c4b0]) | skip)
      have H' := Aside0.mk H
      clear H
      go_wp2
      go_meet
      case rel => exact ⟨_, (decide ((a1.size : Int) > 4096)), (by first | rfl | (simp; done) | (simp [*]; done)), H', ⟨by first | omega | exact Nat.le_refl _⟩, ⟨by repeat (first | (with_reducible first | exact HB.out | apply below_alloc | apply pw_below_drewN | apply below_drew1) | exact HB.out)⟩⟩
  case rest =>
    clear HC3
    try clear p2
    try clear c4
    try clear c4b0
    try clear c4b1
    obtain ⟨kq, x12_2, rfl, HA, HJ2, HB⟩ := hcut
    cases kq with
    | zero => exact absurd HA.out (by simp [messuagelaw20_PolicyPlaces.j0])
    | succ kj2 =>
      have H := HA.out
      clear HA
      simp only [messuagelaw20_PolicyPlaces.j0] at H
      by_cases c5 : x12_2 = true
      · subst c5
        have H1 : (some true) = some r := by rw [if_pos rfl] at H; exact H
        clear H
        have H := H1
        clear H1
        obtain rfl := Option.some.inj H
        go_wp2
        go_ret
        exact ⟨by first | rfl | (simp [errW_none, errW_some] <;> rfl) | (simp [*, errW_none, errW_some] <;> rfl), by repeat (first | (with_reducible first | exact HB.out | apply below_alloc | apply pw_below_drewN | apply below_drew1) | exact HB.out)⟩
      · replace c5 := Bool.eq_false_iff.mpr c5
        subst c5
        have H1 : ((policy_Child.f kj2 a0 a1).bind fun t325 => ((messuageref20_Child.f kj2 a0 a1).bind fun t326 => (if (t325 == t326) = true then ((policy_Under.f a0 a1).bind fun t327 => ((messuageref20_Under.f kj2 a0 a1).bind fun t328 => (if (t327 == t328) = true then ((messuagelaw20_alive.f kj2).bind fun t329 => (some t329)) else (some false)))) else (some false)))) = some r := by rw [if_neg (show ¬ (false = true) by decide)] at H; exact H
        clear H
        have H := H1
        clear H1
        replace H := Option.bind_eq_some_iff.mp H
        obtain ⟨t325, A60, H⟩ := H
        replace H : ((messuageref20_Child.f kj2 a0 a1).bind fun t326 => (if (t325 == t326) = true then ((policy_Under.f a0 a1).bind fun t327 => ((messuageref20_Under.f kj2 a0 a1).bind fun t328 => (if (t327 == t328) = true then ((messuagelaw20_alive.f kj2).bind fun t329 => (some t329)) else (some false)))) else (some false))) = some r := H
        have A6 := Aside0.mk A60
        clear A60
        replace H := Option.bind_eq_some_iff.mp H
        obtain ⟨t326, A70, H⟩ := H
        replace H : (if (t325 == t326) = true then ((policy_Under.f a0 a1).bind fun t327 => ((messuageref20_Under.f kj2 a0 a1).bind fun t328 => (if (t327 == t328) = true then ((messuagelaw20_alive.f kj2).bind fun t329 => (some t329)) else (some false)))) else (some false)) = some r := H
        have A7 := Aside0.mk A70
        clear A70
        by_cases c8 : (t325 == t326) = true
        · rw [if_pos c8] at H
          have c8b0 : (t325 == t326) = true := c8
          (try (have c8b1 : decide (t325 = t326) = true := by simpa using c8))
          (try (have c8b2 : (t325 == t326) = true := by simpa using c8))
          clear c8
          replace H := Option.bind_eq_some_iff.mp H
          obtain ⟨t327, A90, H⟩ := H
          replace H : ((messuageref20_Under.f kj2 a0 a1).bind fun t328 => (if (t327 == t328) = true then ((messuagelaw20_alive.f kj2).bind fun t329 => (some t329)) else (some false))) = some r := H
          have A9 := Aside0.mk A90
          clear A90
          replace H := Option.bind_eq_some_iff.mp H
          obtain ⟨t328, A100, H⟩ := H
          replace H : (if (t327 == t328) = true then ((messuagelaw20_alive.f kj2).bind fun t329 => (some t329)) else (some false)) = some r := H
          have A10 := Aside0.mk A100
          clear A100
          by_cases c11 : (t327 == t328) = true
          · rw [if_pos c11] at H
            have c11b0 : (t327 == t328) = true := c11
            (try (have c11b1 : decide (t327 = t328) = true := by simpa using c11))
            (try (have c11b2 : (t327 == t328) = true := by simpa using c11))
            clear c11
            replace H := Option.bind_eq_some_iff.mp H
            obtain ⟨t329, A120, H⟩ := H
            replace H : (some t329) = some r := H
            have A12 := Aside0.mk A120
            clear A120
            obtain rfl := Option.some.inj H
            go_wp2_with (first | ((with_reducible refine gate_callee (f := 35) rfl ?_); refine goesL_ (some 15) rfl rfl Tryd.func35 (by kernel_rfl) rfl #[.string a0, .string a1] rfl (by (try simp only [List.map_toArray, List.map_cons, List.map_nil]); first | done | rfl | (simp only [List.length_drop, List.length_take]; rfl)) ?_; (with_reducible refine (policy_Child.calls kj2 a0 a1 t325 _ ?side1 A6.out).mono ?_); (case side1 => exact SH.below HSH.out (by repeat (first | (with_reducible first | exact HB.out | apply below_alloc | apply pw_below_drewN | apply below_drew1) | exact HB.out))); rintro e w13 ⟨rfl, hb⟩; refine ⟨_, rfl, ?_⟩; have n0_ := Aside0.mk (below_step (by repeat (first | (with_reducible first | exact HB.out | apply below_alloc | apply pw_below_drewN | apply below_drew1) | exact HB.out)) hb); clear HB; have HB := n0_; clear n0_; (try clear hb); (try clear hb2); (try clear hk); (try clear hi)) | ((with_reducible refine gate_callee (f := 36) rfl ?_); refine goesL_ (some 18) rfl rfl Tryd.func36 (by kernel_rfl) rfl #[.string a0, .string a1] rfl (by (try simp only [List.map_toArray, List.map_cons, List.map_nil]); first | done | rfl | (simp only [List.length_drop, List.length_take]; rfl)) ?_; (with_reducible refine (messuageref20_Child.calls kj2 a0 a1 t326 _ A7.out).mono ?_); rintro e w' ⟨rfl, ⟨nd, rfl⟩⟩; refine ⟨_, rfl, ?_⟩) | (go_at_call 37; (with_reducible refine (policy_Under.calls a0 a1 t327 _ ?side1 A9.out).mono ?_); (case side1 => exact SH.below HSH.out (by repeat (first | (with_reducible first | exact HB.out | apply below_alloc | apply pw_below_drewN | apply below_drew1) | exact HB.out))); rintro e w14 ⟨rfl, hb⟩; have n0_ := Aside0.mk (below_step (by repeat (first | (with_reducible first | exact HB.out | apply below_alloc | apply pw_below_drewN | apply below_drew1) | exact HB.out)) hb); clear HB; have HB := n0_; clear n0_; (try clear hb); (try clear hb2); (try clear hk); (try clear hi)) | (go_at_call 38; (with_reducible refine (messuageref20_Under.calls kj2 a0 a1 t328 _ A10.out).mono ?_); rintro e w' ⟨rfl, ⟨nd, rfl⟩⟩) | (go_at_call 39; (with_reducible refine (messuagelaw20_alive.calls kj2  t329 _ ?side1 A12.out).mono ?_); (case side1 => exact SH.below HSH.out (by repeat (first | (with_reducible first | exact HB.out | apply below_alloc | apply pw_below_drewN | apply below_drew1) | exact HB.out))); rintro e w15 ⟨rfl, hb⟩; have n0_ := Aside0.mk (below_step (by repeat (first | (with_reducible first | exact HB.out | apply below_alloc | apply pw_below_drewN | apply below_drew1) | exact HB.out)) hb); clear HB; have HB := n0_; clear n0_; (try clear hb); (try clear hb2); (try clear hk); (try clear hi)))
            go_ret
            exact ⟨by first | rfl | (simp [errW_none, errW_some] <;> rfl) | (simp [*, errW_none, errW_some] <;> rfl), by repeat (first | (with_reducible first | exact HB.out | apply below_alloc | apply pw_below_drewN | apply below_drew1) | exact HB.out)⟩
          · rw [if_neg c11] at H
            have c11b0 : (t327 == t328) = false := by simpa using c11
            (try (have c11b1 : decide (t327 = t328) = false := by simpa using c11))
            (try (have c11b2 : (t327 == t328) = false := by simpa using c11))
            (try (have c11b3 : ¬ (t327 = t328) := by simpa using c11))
            clear c11
            obtain rfl := Option.some.inj H
            go_wp2_with (first | ((with_reducible refine gate_callee (f := 35) rfl ?_); refine goesL_ (some 15) rfl rfl Tryd.func35 (by kernel_rfl) rfl #[.string a0, .string a1] rfl (by (try simp only [List.map_toArray, List.map_cons, List.map_nil]); first | done | rfl | (simp only [List.length_drop, List.length_take]; rfl)) ?_; (with_reducible refine (policy_Child.calls kj2 a0 a1 t325 _ ?side1 A6.out).mono ?_); (case side1 => exact SH.below HSH.out (by repeat (first | (with_reducible first | exact HB.out | apply below_alloc | apply pw_below_drewN | apply below_drew1) | exact HB.out))); rintro e w16 ⟨rfl, hb⟩; refine ⟨_, rfl, ?_⟩; have n0_ := Aside0.mk (below_step (by repeat (first | (with_reducible first | exact HB.out | apply below_alloc | apply pw_below_drewN | apply below_drew1) | exact HB.out)) hb); clear HB; have HB := n0_; clear n0_; (try clear hb); (try clear hb2); (try clear hk); (try clear hi)) | ((with_reducible refine gate_callee (f := 36) rfl ?_); refine goesL_ (some 18) rfl rfl Tryd.func36 (by kernel_rfl) rfl #[.string a0, .string a1] rfl (by (try simp only [List.map_toArray, List.map_cons, List.map_nil]); first | done | rfl | (simp only [List.length_drop, List.length_take]; rfl)) ?_; (with_reducible refine (messuageref20_Child.calls kj2 a0 a1 t326 _ A7.out).mono ?_); rintro e w' ⟨rfl, ⟨nd, rfl⟩⟩; refine ⟨_, rfl, ?_⟩) | (go_at_call 37; (with_reducible refine (policy_Under.calls a0 a1 t327 _ ?side1 A9.out).mono ?_); (case side1 => exact SH.below HSH.out (by repeat (first | (with_reducible first | exact HB.out | apply below_alloc | apply pw_below_drewN | apply below_drew1) | exact HB.out))); rintro e w17 ⟨rfl, hb⟩; have n0_ := Aside0.mk (below_step (by repeat (first | (with_reducible first | exact HB.out | apply below_alloc | apply pw_below_drewN | apply below_drew1) | exact HB.out)) hb); clear HB; have HB := n0_; clear n0_; (try clear hb); (try clear hb2); (try clear hk); (try clear hi)) | (go_at_call 38; (with_reducible refine (messuageref20_Under.calls kj2 a0 a1 t328 _ A10.out).mono ?_); rintro e w' ⟨rfl, ⟨nd, rfl⟩⟩))
            go_ret
            exact ⟨by first | rfl | (simp [errW_none, errW_some] <;> rfl) | (simp [*, errW_none, errW_some] <;> rfl), by repeat (first | (with_reducible first | exact HB.out | apply below_alloc | apply pw_below_drewN | apply below_drew1) | exact HB.out)⟩
        · rw [if_neg c8] at H
          have c8b0 : (t325 == t326) = false := by simpa using c8
          (try (have c8b1 : decide (t325 = t326) = false := by simpa using c8))
          (try (have c8b2 : (t325 == t326) = false := by simpa using c8))
          (try (have c8b3 : ¬ (t325 = t326) := by simpa using c8))
          clear c8
          obtain rfl := Option.some.inj H
          go_wp2_with (first | ((with_reducible refine gate_callee (f := 35) rfl ?_); refine goesL_ (some 15) rfl rfl Tryd.func35 (by kernel_rfl) rfl #[.string a0, .string a1] rfl (by (try simp only [List.map_toArray, List.map_cons, List.map_nil]); first | done | rfl | (simp only [List.length_drop, List.length_take]; rfl)) ?_; (with_reducible refine (policy_Child.calls kj2 a0 a1 t325 _ ?side1 A6.out).mono ?_); (case side1 => exact SH.below HSH.out (by repeat (first | (with_reducible first | exact HB.out | apply below_alloc | apply pw_below_drewN | apply below_drew1) | exact HB.out))); rintro e w18 ⟨rfl, hb⟩; refine ⟨_, rfl, ?_⟩; have n0_ := Aside0.mk (below_step (by repeat (first | (with_reducible first | exact HB.out | apply below_alloc | apply pw_below_drewN | apply below_drew1) | exact HB.out)) hb); clear HB; have HB := n0_; clear n0_; (try clear hb); (try clear hb2); (try clear hk); (try clear hi)) | ((with_reducible refine gate_callee (f := 36) rfl ?_); refine goesL_ (some 18) rfl rfl Tryd.func36 (by kernel_rfl) rfl #[.string a0, .string a1] rfl (by (try simp only [List.map_toArray, List.map_cons, List.map_nil]); first | done | rfl | (simp only [List.length_drop, List.length_take]; rfl)) ?_; (with_reducible refine (messuageref20_Child.calls kj2 a0 a1 t326 _ A7.out).mono ?_); rintro e w' ⟨rfl, ⟨nd, rfl⟩⟩; refine ⟨_, rfl, ?_⟩))
          go_ret
          exact ⟨by first | rfl | (simp [errW_none, errW_some] <;> rfl) | (simp [*, errW_none, errW_some] <;> rfl), by repeat (first | (with_reducible first | exact HB.out | apply below_alloc | apply pw_below_drewN | apply below_drew1) | exact HB.out)⟩

/-- THE ONE PURE STATEMENT of messuagelaw20_PolicyPlaces: yours. -/
def messuagelaw20_PolicyPlaces.Pure : Prop := ∀ (a0 : ByteArray) (a1 : ByteArray), a0.size ≤ 140737488351232 → a1.size ≤ 140737488351232 → ∃ k, messuagelaw20_PolicyPlaces.f k a0 a1 = some true
theorem messuagelaw20_PolicyPlaces.walk (P : messuagelaw20_PolicyPlaces.Pure) (a0 : ByteArray) (a1 : ByteArray) (w : World) (hsh : SH w) (w0 : a0.size ≤ 140737488351232) (w1 : a1.size ≤ 140737488351232) :
    Calls Tryd.prog 9 #[.string a0, .string a1] w fun e w' => e = .returned (.bool true) ∧ Below w.heap.size w w' := by
  obtain ⟨k, h⟩ := P a0 a1 w0 w1
  refine (messuagelaw20_PolicyPlaces.calls k a0 a1 true w hsh h).mono ?_
  rintro e w' ⟨rfl, hd⟩
  exact ⟨rfl, hd⟩

end Go.Proofs.YtbkhkdadipigfaaDoor.P
