/- le.Part: so many bytes from a place on, in new memory, or the error. No condition but that the argument is a slice of bytes. -/
import Derived.Test.YtmpahimeljbliaaBx1
import Derived.Test.YtmpahimeljbliaaBuf
namespace Go.Proofs.Ytmpahimeljbliaa.ZipPart
open Go.RowKit Go.Proofs Go.Proofs.Ytmpahimeljbliaa.B Go.Proofs.Ytmpahimeljbliaa.Buf Go.Proofs.YtmpahimeljbliaaW.PrintWords Go.Proofs.YtmpahimeljbliaaW.PrintLast Go.Proofs.YtmpahimeljbliaaW.PrintMore

/-- What le.Part hands back. -/
def partOf (l : List Int) (a n : Int) : List Int × Int := if a + n ≤ l.length then ((l.drop a.toNat).take n.toNat, 0) else ([], 20)
theorem inside_at (x y L : Int) (hx : 0 ≤ x) (hx2 : x < 18446744073709551616) (hy : 0 ≤ y) (hL : 0 ≤ L) (hL2 : L ≤ 4611686018427387904) : num_Inside.f x y 0 L = some (decide (x + y ≤ L)) := by
  unfold num_Inside.f num_Sub.f
  rw [if_neg (by omega), Buf.wrap_small (x - 0) (by omega) (by omega)]
  simp only [Option.bind_some, if_true, Int.sub_zero]
  by_cases h : x ≤ L
  · rw [if_pos h, Buf.wrap_small (L - x) (by omega) (by omega)]
    congr 1
    exact decide_eq_decide.2 ⟨fun _ => by omega, fun _ => by omega⟩
  · rw [if_neg h]
    congr 1
    exact (decide_eq_false (by omega)).symm
set_option maxRecDepth 100000 in
set_option maxHeartbeats 1000000 in
theorem part_in (A0 : Option Addr) (c0 : Nat) (l : List Int) (a n : Int) (w : World) (hr0 : ReadsInt w .u8 A0 l.length l) (hc0 : l.length ≤ c0) (hlen : l.length ≤ 140737488355328) (ha : 0 ≤ a) (ha2 : a < 18446744073709551616) (hn : 0 ≤ n) (hn2 : n < 18446744073709551616) :
    Calls Try.prog 71 #[.slice A0 l.length c0, .int .u64 a, .int .u64 n] w fun e w' => ∃ v0_ : Value, e = .returned (.tuple #[v0_, .int .i64 (partOf l a n).2]) ∧ w'.ownsRow w.heap.size 5 1 v0_ (partOf l a n).1.length (nums .u8 (partOf l a n).1) ∧ Below w.heap.size w w' := by
  have HR := Aside0.mk hr0
  have HC := Aside0.mk hc0
  clear hr0 hc0
  have hw : IntKind.u64.wrap (l.length : Int) = (l.length : Int) := Buf.wrap_small _ (by omega) (by omega)
  have hi := inside_at a n (l.length : Int) ha ha2 hn (by omega) (by omega)
  by_cases h : a + n ≤ l.length
  · rw [decide_eq_true h] at hi
    have HI := Aside0.mk hi
    have hp : partOf l a n = ((l.drop a.toNat).take n.toNat, 0) := if_pos h
    rw [hp]
    clear hi hp
    go_enter Try.func71, Try.ntmps71
    have fin : ∀ (A1 : Option Addr) (c1 : Nat), A1 = A0 → True := fun _ _ _ => trivial
    rcases A0 with _ | ad
    · have h0 : l.length = 0 := by
        rcases Nat.eq_zero_or_pos l.length with e | e
        · exact e
        · obtain ⟨ad, e2, -⟩ := HR.out.2.2 e
          cases e2
      obtain rfl : a = 0 := by omega
      obtain rfl : n = 0 := by omega
      obtain rfl : l = [] := List.eq_nil_of_length_eq_zero h0
      go_wp2_with (go_at_call 73; (try rw [hw]); refine (num_Inside.calls _ _ _ _ true w HI.out).mono ?_; rintro e W ⟨rfl, m, rfl⟩)
      go_ret2
      exact ⟨_, rfl, World.ownsRow_nil _ _ _ _, pw_below_drewN (Below.refl _ _) m⟩
    have hrd : ∀ m, ReadsInt (w.drewN m) .u8 (if (a + n).toNat = a.toNat then some ad else some (ad.add a.toNat)) n.toNat ((l.drop a.toNat).take n.toNat) := by
      intro m
      refine ReadsInt.drewN ⟨by rw [List.length_take, List.length_drop]; omega, by omega, fun hp => ?_⟩ m
      rw [if_neg (by omega)]
      refine ⟨_, rfl, fun j hj => ?_⟩
      obtain ⟨ad', e2, hc⟩ := HR.out.2.2 (by omega)
      cases e2
      have := hc (a.toNat + j) (by omega)
      have e3 : (ad.add a.toNat).add j = ad.add (a.toNat + j) := by unfold Addr.add; split <;> split <;> simp_all <;> omega
      rw [e3, this]
      simp [List.getD_eq_getElem?_getD, List.getElem?_drop, hj]
    have ecn : (a + n).toNat - a.toNat = n.toNat := by omega
    have f1 : 0 ≤ a + n ∧ a + n ≤ (c0 : Int) := ⟨by omega, by have := HC.out; omega⟩
    have f2 : 0 ≤ a ∧ a ≤ a + n := ⟨ha, by omega⟩
    go_wp2_with (first | (go_at_call 73; (try rw [hw]); refine (num_Inside.calls _ _ _ _ true w HI.out).mono ?_; rintro e W ⟨rfl, m, rfl⟩) | (at_builtin; refine print_append_row (w0 := w) w.heap.size rfl _ _ 22 5 .u8 1 rfl Try.underlying22 infoE (by decide) (.slice none 0 0) [] ((l.drop a.toNat).take n.toNat) _ _ _ rfl rfl (World.ownsRow_nil _ _ _ _) (hrd m) (pw_below_drewN (Below.refl _ _) m) (below_size (pw_below_drewN (Below.refl _ _) m)) (by simp; omega) ?_; intro v1 w1 ho hb1 _ _; have HO := Aside0.mk ho; have HB1 := Aside0.mk hb1; clear ho hb1))
    all_goals first
      | (go_ret2; exact ⟨_, rfl, by simpa using HO.out, HB1.out⟩)
      | (exfalso; omega)
  · rw [decide_eq_false h] at hi
    have HI := Aside0.mk hi
    have hp : partOf l a n = ([], 20) := if_neg h
    rw [hp]
    clear hi hp
    go_enter Try.func71, Try.ntmps71
    go_wp2_with (go_at_call 73; (try rw [hw]); refine (num_Inside.calls _ _ _ _ false w HI.out).mono ?_; rintro e W ⟨rfl, m, rfl⟩)
    go_ret2
    exact ⟨_, rfl, World.ownsRow_nil _ _ _ _, pw_below_drewN (Below.refl _ _) m⟩
end Go.Proofs.Ytmpahimeljbliaa.ZipPart
