/- What may be done with pages is turned. No condition but that the space lies in memory as told. -/
import Derived.Test.YtmpahimeljbliaaVmMay
import Derived.Test.YtmpahimeljbliaaVmUpd
namespace Go.Proofs.Ytmpahimeljbliaa.Vm
open Go.RowKit Go.Proofs Go.Proofs.YtmpahimeljbliaaW.PrintWords

/-- The world w' is w, but for what lies from base on and is owned. -/
structure Kp (own : Nat → Option Role) (base : Nat) (w w' : World) : Prop where
  bel : Below base w w'
  kp : ∀ k, k < w.heap.size → own k = none → w'.heap[k]? = w.heap[k]?
theorem Kp.refl (own : Nat → Option Role) (base : Nat) (w : World) : Kp own base w w := ⟨Below.refl _ _, fun _ _ _ => rfl⟩
theorem Kp.below {own : Nat → Option Role} {base : Nat} {w w1 w2 : World} (h : Kp own base w w1) (hb : base ≤ w1.heap.size) (k : Below w1.heap.size w1 w2) : Kp own base w w2 :=
  ⟨below_then h.bel hb k, fun i hi ho => (k.block i (Nat.lt_of_lt_of_le hi h.bel.size)).trans (h.kp i hi ho)⟩
theorem Kp.set {own : Nat → Option Role} {base : Nat} {w w1 : World} (h : Kp own base w w1) {b : Nat} (hb : base ≤ b) (ho : own b ≠ none) (j : Nat) (v : Value) : Kp own base w (w1.setCell ⟨b, j, none⟩ v) :=
  ⟨h.bel.setCell hb v, fun i hi hn => (Below.heap_setCell w1 ⟨b, j, none⟩ v i (fun e => ho (by subst e; exact hn))).trans (h.kp i hi hn)⟩
theorem whole_in (x : Nat) (w : World) (hx : x ≤ 18446744073709551615) : Calls Try.prog 78 #[.int .u64 x] w fun e w' => e = .returned (.bool (decide (x % 256 = 0))) ∧ w = w' := by
  have h : ((x : Int) % 256 == 0) = decide (x % 256 = 0) := by rw [Bool.eq_iff_iff]; simp; omega
  have H := Aside0.mk h
  clear h
  go_enter Try.func78, Try.ntmps78
  go_wp2
  go_ret
  exact ⟨by rw [← H.out]; rfl, rfl⟩
theorem prot_in (p : Int) (w : World) (hp : -9223372036854775808 ≤ p) (hp2 : p ≤ 9223372036854775807) : Calls Try.prog 79 #[.int .i64 p] w fun e w' => e = .returned (.bool (decide (0 ≤ p ∧ p ≤ 7))) ∧ w = w' := by
  by_cases c : 0 ≤ p
  · by_cases c2 : p ≤ 7
    · rw [decide_eq_true ⟨c, c2⟩]
      go_enter Try.func79, Try.ntmps79
      go_wp2
      go_ret
      exact ⟨by first | rfl | simp [c, c2], rfl⟩
    · rw [decide_eq_false (fun h => c2 h.2)]
      go_enter Try.func79, Try.ntmps79
      go_wp2
      go_ret
      exact ⟨by first | rfl | simp [c, c2], rfl⟩
  · rw [decide_eq_false (fun h => c h.1)]
    have cb : decide (0 ≤ p) = false := decide_eq_false c
    go_enter Try.func79, Try.ntmps79
    go_wp2
    go_ret
    exact ⟨by first | rfl | simp [c], rfl⟩
def setProt (p : Nat) (_ : Nat) (g : Pg) : Pg := { g with prot := p }
def protF (s : Sp) (x z : Nat) (p : Int) : Sp × Int :=
  if x % 256 = 0 then
    if 0 ≤ p ∧ p ≤ 7 then
      match allF s.rs x z with
      | none => (s, 52)
      | some y => (s.mods y.1 y.2.1 (setProt p.toNat) (y.2.2 - y.2.1), 0)
    else (s, 54)
  else (s, 11)
set_option maxRecDepth 100000 in
set_option maxHeartbeats 2000000 in
theorem prot_do {w : World} {own : Nat → Option Role} {base a : Nat} {v : Value} {s : Sp} (h : Holds w own base a v s) (x z : Nat) (p : Int) (hx : x ≤ 18446744073709551615) (hz : z ≤ 18446744073709551615) (hp : -9223372036854775808 ≤ p) (hp2 : p ≤ 9223372036854775807) :
    Calls Try.prog 56 #[.pointer (some ⟨a, 0, none⟩), .int .u64 x, .int .u64 z, .int .i64 p] w fun e w' => e = .returned (.int .i64 (protF s x z p).2) ∧ Holds w' own base a v (protF s x z p).1 ∧ Kp own base w w' := by
  have HQ1 := whole_in x w hx
  have HQ2 := prot_in p w hp hp2
  have HQ3 := all_in h x z hx hz
  have hbs : base ≤ w.heap.size := by have := h.lt a (by rw [h.osp]; simp); omega
  obtain ⟨S, hS⟩ : ∃ S, S = (protF s x z p).1 := ⟨_, rfl⟩
  obtain ⟨E, hE⟩ : ∃ E, E = (protF s x z p).2 := ⟨_, rfl⟩
  rw [← hS, ← hE]
  have HH := Aside0.mk h
  by_cases c1 : x % 256 = 0
  · rw [decide_eq_true c1] at HQ1
    by_cases c2 : 0 ≤ p ∧ p ≤ 7
    · rw [decide_eq_true c2] at HQ2
      cases ha : allF s.rs x z with
      | none =>
        rw [show allVal s.rs x z = .tuple #[.slice none 0 0, .int .i64 52] from by unfold allVal; rw [ha]] at HQ3
        have HR := Aside0.mk (show S = s ∧ E = 52 from by rw [hS, hE]; unfold protF; rw [if_pos c1, if_pos c2, ha]; exact ⟨rfl, rfl⟩)
        clear hS hE ha c1 c2 h
        go_enter Try.func56, Try.ntmps56
        go_wp2_with (first | (go_at_call 78; (with_reducible refine HQ1.mono ?_); rintro _ _ ⟨rfl, rfl⟩; clear HQ1) | (go_at_call 79; (with_reducible refine HQ2.mono ?_); rintro _ _ ⟨rfl, rfl⟩; clear HQ2) | (go_at_call 82; (with_reducible refine HQ3.mono ?_); rintro _ W1 ⟨rfl, hB1⟩; have HB1 := Aside0.mk hB1; clear hB1 HQ3))
        go_ret
        exact ⟨by rw [HR.out.2]; rfl, by rw [HR.out.1]; exact HH.out.below HB1.out, (Kp.refl _ _ _).below hbs HB1.out⟩
      | some y =>
        obtain ⟨r, hr, h1, h2, h3⟩ := all_row ha
        rw [show allVal s.rs x z = .tuple #[rowVal s.rs y, .int .i64 0] from by unfold allVal; rw [ha]] at HQ3
        have HR := Aside0.mk (show S = s.mods y.1 y.2.1 (setProt p.toNat) (y.2.2 - y.2.1) ∧ E = 0 from by rw [hS, hE]; unfold protF; rw [if_pos c1, if_pos c2, ha]; exact ⟨rfl, rfl⟩)
        rcases h3 with ⟨h3, h4, h5⟩ | ⟨h3, h4, h5, h6, h7, h8⟩
        · have hrow : rowVal s.rs y = .slice none 0 0 := by unfold rowVal; rw [if_pos (by omega)]
          rw [hrow] at HQ3
          have HR2 := Aside0.mk (show S = s from by rw [HR.out.1, h4, h5]; rfl)
          clear hS hE ha c1 c2 h hrow h4 h5 h3 h1 h2 hr
          go_enter Try.func56, Try.ntmps56
          go_wp2_with (first | (go_at_call 78; (with_reducible refine HQ1.mono ?_); rintro _ _ ⟨rfl, rfl⟩; clear HQ1) | (go_at_call 79; (with_reducible refine HQ2.mono ?_); rintro _ _ ⟨rfl, rfl⟩; clear HQ2) | (go_at_call 82; (with_reducible refine HQ3.mono ?_); rintro _ W1 ⟨rfl, hB1⟩; have HB1 := Aside0.mk hB1; clear hB1 HQ3))
          go_loop [31] (fun i => i = .int .i64 0) (fun i => 0)
          case atStart => rfl
          case round =>
            subst hrel
            go_wp2
            go_ret
            exact ⟨by rw [HR.out.2]; rfl, by rw [HR2.out]; exact HH.out.below HB1.out, (Kp.refl _ _ _).below hbs HB1.out⟩
        · have hrow : rowVal s.rs y = .slice (some ⟨r.ab, y.2.1, none⟩) (y.2.2 - y.2.1) (y.2.2 - y.2.1) := by unfold rowVal; rw [if_neg (by omega)]; simp only [hr]
          rw [hrow] at HQ3
          have hn := (h.good.rm r (List.mem_of_getElem? hr)).l2
          obtain ⟨j, lo, hi⟩ := y
          simp only [] at hr h6 h7 h8 HQ3 HR
          have HRm := Aside0.mk hr
          have HP := Aside0.mk h8
          have HC := Aside0.mk c2
          clear hS hE ha c1 c2 h hrow h4 h5 h3 h1 h2 hr h8
          obtain ⟨M, hM⟩ : ∃ M, M = hi - lo := ⟨_, rfl⟩
          rw [← hM] at HQ3 HR HP
          have hM1 : lo + M = hi := by omega
          clear hM
          go_enter Try.func56, Try.ntmps56
          go_wp2_with (first | (go_at_call 78; (with_reducible refine HQ1.mono ?_); rintro _ _ ⟨rfl, rfl⟩; clear HQ1) | (go_at_call 79; (with_reducible refine HQ2.mono ?_); rintro _ _ ⟨rfl, rfl⟩; clear HQ2) | (go_at_call 82; (with_reducible refine HQ3.mono ?_); rintro _ W1 ⟨rfl, hB1⟩; have HK1 := Aside0.mk ((Kp.refl own base w).below hbs hB1); have HH1 := Aside0.mk (HH.out.below hB1); clear hB1 HQ3))
          go_loopw [31] (fun i wr => ∃ k : Nat, i = .int .i64 k ∧ k ≤ M ∧ Aside0 (Holds wr own base a v (s.mods j lo (setProt p.toNat) k)) ∧ Aside0 (Kp own base w wr)) (fun i _ => M - (intOf i).toNat)
          case atStart => exact ⟨0, rfl, Nat.zero_le _, HH1, HK1⟩
          case round =>
            obtain ⟨k, rfl, hk, HW, HK⟩ := hrel
            by_cases hlt : k < M
            · obtain ⟨g, hgk⟩ := HP.out k hlt
              have hkl : lo + k < r.ps.length := by omega
              have hr2 := mods_room HRm.out lo (setProt p.toNat) k
              have hgk2 : (r.mods lo (setProt p.toNat) k).ps[lo + k]? = some (some g) := by rw [mods_at, if_neg (by omega)]; exact hgk
              have hp := HW.out.pp hr2 (k := lo + k) (by rw [(mods_parts r lo (setProt p.toNat) k).2.2.2]; exact hkl)
              rw [(List.getElem?_eq_some_iff.1 hgk2).2, (mods_parts r lo (setProt p.toNat) k).2.1] at hp
              have hp' : wr.cell? ⟨r.ab, lo + k, none⟩ = some (.pointer (some ⟨g.b, 0, none⟩)) := hp
              have hpg := HW.out.pg j _ hr2 _ g hgk2
              have hp1 := hpg.1.cell 1 _ rfl
              have hp2 := hpg.1.free 1
              have hnext := HW.out.mod (w' := wr.setCell ⟨g.b, 1, none⟩ (.int .i64 p)) hr2 hgk2 (f := setProt p.toNat k) (by
                have ho := (HW.out.good.rm _ (List.mem_of_getElem? hr2)).ok hgk2
                exact ⟨ho.at_, by have := HC.out; show p.toNat ≤ 7; omega, ho.len, ho.bytes⟩) rfl (by
                have := hpg.1.set 1 (.int .i64 p)
                rwa [show (cellsP g).setIfInBounds 1 (.int .i64 p) = cellsP (setProt p.toNat k g) from by simp [cellsP, setProt, Int.toNat_of_nonneg HC.out.1]] at this) (fun i hi => Below.heap_setCell wr _ _ i hi) (by simp [World.setCell])
              have HN := Aside0.mk hnext
              have HKN := Aside0.mk (HK.out.set (HW.out.lt g.b (by rw [hpg.2]; simp)).1 (by rw [hpg.2]; simp) 1 (.int .i64 p))
              clear hnext hr2 hgk2 hp hpg hgk HW HK
              go_wp2
              go_roundw
              case rel => exact ⟨k + 1, by go_num, by omega, HN, HKN⟩
              case measure => simp [intOf]; omega
            · obtain rfl : k = M := by omega
              go_wp2
              go_ret
              exact ⟨by rw [HR.out.2]; rfl, by rw [HR.out.1]; exact HW.out, HK.out⟩
    · rw [decide_eq_false c2] at HQ2
      have HR := Aside0.mk (show S = s ∧ E = 54 from by rw [hS, hE]; unfold protF; rw [if_pos c1, if_neg c2]; exact ⟨rfl, rfl⟩)
      clear hS hE c1 c2 h HQ3
      go_enter Try.func56, Try.ntmps56
      go_wp2_with (first | (go_at_call 78; (with_reducible refine HQ1.mono ?_); rintro _ _ ⟨rfl, rfl⟩; clear HQ1) | (go_at_call 79; (with_reducible refine HQ2.mono ?_); rintro _ _ ⟨rfl, rfl⟩; clear HQ2))
      go_ret
      exact ⟨by rw [HR.out.2]; rfl, by rw [HR.out.1]; exact HH.out, Kp.refl _ _ _⟩
  · rw [decide_eq_false c1] at HQ1
    have HR := Aside0.mk (show S = s ∧ E = 11 from by rw [hS, hE]; unfold protF; rw [if_neg c1]; exact ⟨rfl, rfl⟩)
    clear hS hE c1 h HQ3 HQ2
    go_enter Try.func56, Try.ntmps56
    go_wp2_with (go_at_call 78; (with_reducible refine HQ1.mono ?_); rintro _ _ ⟨rfl, rfl⟩; clear HQ1)
    go_ret
    exact ⟨by rw [HR.out.2]; rfl, by rw [HR.out.1]; exact HH.out, Kp.refl _ _ _⟩
end Go.Proofs.Ytmpahimeljbliaa.Vm
