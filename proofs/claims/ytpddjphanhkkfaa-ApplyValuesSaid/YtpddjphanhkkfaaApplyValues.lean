/-
  The value that the program lays down is the reference's, at every kind, symbol, addend and base. No condition beyond the kinds of the numbers.
-/
import Derived.Test.YtpddjphanhkkfaaRows
import Derived.Test.YtpddjphanhkkfaaPApplyValuesx1
import Derived.IntWalk
import Derived.WalkKit
import Derived.ProofKit
import Derived.OpenShut
import Derived.ShutString
import Derived.ChangeOld
import Derived.Below
import Derived.SizedLaws
import Derived.Lib.SmallJoins
import Derived.Carry
namespace Go.Proofs.Ytpddjphanhkkfaa.pureApplyValues
open Go.RowKit Go.Proofs.Ytpddjphanhkkfaa.PApplyValues Go.Proofs.YtpddjphanhkkfaaW.PrintWords Go.Proofs.YtpddjphanhkkfaaW.PrintLast

theorem intel_eq (k : Nat) (t : Int) (hk : 0 < k) : apply_intel.f k t = some (if t = 1 then (1, true) else if t = 6 ∨ t = 7 then (3, true) else if t = 8 then (2, true) else (0, false)) := by
  obtain ⟨k, rfl⟩ : ∃ n, k = n + 1 := ⟨k - 1, by omega⟩
  unfold apply_intel.f
  simp only [apply_intel.j0, beq_iff_eq]
  by_cases h1 : t = 1
  · rw [if_pos h1, if_pos h1]
  · rw [if_neg h1, if_neg h1]
    by_cases h6 : t = 6
    · rw [if_pos h6, if_pos h6, if_pos (Or.inl h6)]
    · rw [if_neg h6]
      by_cases h7 : t = 7
      · rw [if_pos h7, if_pos (Or.inr h7)]
      · rw [if_neg h7, if_neg (show ¬ (t = 6 ∨ t = 7) from fun h => h.elim h6 h7)]
        split <;> rfl

theorem alive_eq (k : Nat) (hk : 0 < k) : messuagelaw15_alive.f k = some true := by
  unfold messuagelaw15_alive.f apply_Of.f
  rw [intel_eq k 8 hk]
  rfl

theorem u64_eq {a b : Int} (h : a % 18446744073709551616 = b % 18446744073709551616) : IntKind.u64.wrap a = IntKind.u64.wrap b := by
  rw [IntKind.wrap_u64, IntKind.wrap_u64]; exact h
theorem rng_i {a : Int} (h : (Lit.int .i64 a).wf = true) : -9223372036854775808 ≤ a ∧ a ≤ 9223372036854775807 := by
  simpa [Lit.wf, IntKind.min, IntKind.max, IntKind.bits, IntKind.signed] using h
theorem rng_u {a : Int} (h : (Lit.int .u64 a).wf = true) : 0 ≤ a ∧ a ≤ 18446744073709551615 := by
  simpa [Lit.wf, IntKind.min, IntKind.max, IntKind.bits, IntKind.signed] using h

theorem ref_eq (k : Nat) (a s d b : Int) (hk : 1 < k) (_ : -9223372036854775808 ≤ d ∧ d ≤ 9223372036854775807) : messuageref15_Value.f k a s d b = apply_Value.f a s d b := by
  obtain ⟨k, rfl⟩ : ∃ n, k = n + 2 := ⟨k - 2, by omega⟩
  have key : ∀ x : Int, (if d < 0 then (some (IntKind.u64.wrap ((IntKind.u64.wrap (x - (IntKind.u64.wrap (wrap64 (-(wrap64 (d + 1))))))) - 1))) else (some (IntKind.u64.wrap (x + (IntKind.u64.wrap (d)))))) = some (IntKind.u64.wrap (x + (IntKind.u64.wrap d))) := by
    intro x
    split
    · congr 1
      simp only [IntKind.wrap_u64]
      unfold wrap64
      omega
    · rfl
  unfold messuageref15_Value.f apply_Value.f
  simp only [messuageref15_Value.j0, messuageref15_Value.j1, key]
  by_cases h1 : a = 1
  · subst h1; simp
  · by_cases h2 : a = 2
    · subst h2; simp
    · by_cases h3 : a = 3
      · subst h3; simp
      · simp [h1, h2, h3]

theorem walk (a0 a1 a2 a3 : Int) (w : World) (w0 : (Lit.int .i64 a0).wf = true) (w1 : (Lit.int .u64 a1).wf = true) (w2 : (Lit.int .i64 a2).wf = true) (w3 : (Lit.int .u64 a3).wf = true) :
    Calls Try.prog 3 #[.agg #[.int .i64 a0, .int .u64 a1, .int .i64 a2, .int .u64 a3]] w fun e w' => e = .returned (.bool true) ∧ Below w.heap.size w w' := by
  have _ := w0
  have _ := w1
  have _ := w3
  have h : messuagelaw15_ApplyValues.f 2 a0 a1 a2 a3 = some true := by
    unfold messuagelaw15_ApplyValues.f
    rw [ref_eq 2 a0 a1 a2 a3 (by omega) (rng_i w2), alive_eq 2 (by omega)]
    obtain ⟨r, hr⟩ : ∃ r, apply_Value.f a0 a1 a2 a3 = some r := by
      unfold apply_Value.f
      split
      · exact ⟨_, rfl⟩
      · split
        · exact ⟨_, rfl⟩
        · split <;> exact ⟨_, rfl⟩
    rw [hr]
    simp
  exact messuagelaw15_ApplyValues.calls 2 a0 a1 a2 a3 true w h
end Go.Proofs.Ytpddjphanhkkfaa.pureApplyValues
namespace Go.Proofs.Ytpddjphanhkkfaa.applyValues
open Go.ChangeShapes Go.WideShapes Go.ChangeAt Go.RowKit Go.Joins
open Go.ChangeMaps (open_string shut_string)
theorem own : ownKnob Try.prog.godebug = none := by kernel_rfl
theorem laidOut : laidOutB Try.prog = true := by kernel_rfl
set_option maxRecDepth 100000 in
theorem lifted (os : Os) (started : os.Started) (H : Type) (enc : TypeId × Value → H) :
    ReturnsInHanded {} Try.checked os 3 .any (Rows.applyValuesSpec.pre6 enc Try.prog Try.f3 Rows.applyValuesRow.domain false) (Rows.applyValuesSpec.post enc Try.prog Try.f3 false true false false) := by
  refine returnsInHanded_of_change_sized (C := Try.checked) own started (by kernel_rfl) Try.func3
    (ChangeSpec.witness6 (enc := enc) (C := Try.checked) false ⟨#[], #[.agg #[.int .i64 0, .int .u64 0, .int .i64 0, .int .u64 0]], []⟩ 8 (by kernel_rfl) (by kernel_rfl) (by kernel_rfl) (by kernel_rfl)) ?_
  intro W base args ds gs before hval0 hW hcnd hsz0 _
  have hval : ∀ (j : Nat) t v, Try.f3.params[j]? = some t → args[j]? = some v → Value.okWide Try.prog W .any base t v := hval0
  have hW' := hW
  obtain ⟨p, q, hA0, hV, rfl, hfz, hnd⟩ := hW
  have hA : DataW.TrodAll enc Try.prog W 0 (fun _ => true) true Try.f3.params.toList args.toList ds p := hA0
  rw [Try.params3] at hA hval
  obtain ⟨v0, vs0, d0, ds0, p0, q0, hargs, rfl, rfl, h0, r0⟩ := trodAll_cons hA
  obtain ⟨rfl, rfl, rfl⟩ := trodAll_nil r0
  obtain rfl : args = #[v0] := by cases args; simp_all
  obtain ⟨rfl, rfl⟩ := trodVars_none hV
  have k0 := h0
  have lt0 : ∀ x ∈ p0, x.block < W.heap.size := by obtain ⟨m, hm⟩ := k0; exact DataW.trod_lt m _ _ _ hm
  obtain ⟨u0, u1, u2, u3, y0, y1, y2, y3, m, rfl, hd, hp, t0, t1, t2, t3⟩ := open_agg4 Try.underlying25 (by kernel_rfl) (by kernel_rfl) (hval 0 25 v0 rfl rfl) h0
  obtain ⟨a0, e0, _, w0⟩ := DataW.trod_int Try.underlying22 t0
  obtain ⟨a1, e1, _, w1⟩ := DataW.trod_int Try.underlying23 t1
  obtain ⟨a2, e2, _, w2⟩ := DataW.trod_int Try.underlying2 t2
  obtain ⟨a3, e3, _, w3⟩ := DataW.trod_int Try.underlying23 t3
  simp only [List.cons.injEq, and_true] at e0 e1 e2 e3
  subst e0 e1 e2 e3
  clear hA0 hval0 hsz0
  refine (pureApplyValues.walk a0 a1 a2 a3 W w0 w1 w2 w3).mono fun e W' ⟨he, bel⟩ => ?_
  subst he
  exact ⟨_, rfl, _, _, _, [], _, [], hW', trodAll_mk1 (shut_bool Try.underlying4 _), (trodAll_cons_mk (Below.trod laidOut (by kernel_rfl) (of_decide_eq_true (by kernel_rfl)) k0 bel lt0) trodAll_mk0), rfl, bel.frame _, fun h => by cases h⟩
theorem over : Rows.applyValuesRow.holds Try.pinned (OpenSpec.ofChange Rows.applyValuesSpec) :=
  OpenClaim.holds_of_wide 3 Try.f3 rfl rfl rfl rfl rfl rfl rfl ⟨rfl, rfl, rfl, rfl, rfl⟩ rfl rfl rfl rfl rfl (by kernel_rfl) Try.func3 (by kernel_rfl)
    (of_decide_eq_true (by kernel_rfl)) (by unfold Func.isWrapper; first | (rw [if_pos (by decide +kernel)]; kernel_rfl) | (rw [if_neg (by decide +kernel)]; exact ⟨rfl, rfl⟩))
    (fun os started H enc _ => lifted os started H enc)
end Go.Proofs.Ytpddjphanhkkfaa.applyValues
namespace Go.Proofs.Ytpddjphanhkkfaa
theorem applyValues_holds : Rows.ApplyValuesSaid := applyValues.over
#print axioms applyValues_holds
end Go.Proofs.Ytpddjphanhkkfaa
