/- Whether something may be done with all pages that a row of bytes touches. No condition but that the space lies in memory as told. -/
import Derived.Test.YtmpahimeljbliaaVmAll
namespace Go.Proofs.Ytmpahimeljbliaa.Vm
open Go.RowKit Go.Proofs Go.Proofs.YtmpahimeljbliaaW.PrintWords

/-- What is known of pages that were found. -/
theorem all_row {l : List Rm} {x z : Nat} {y : Nat × Nat × Nat} (h : allF l x z = some y) :
    ∃ r, l[y.1]? = some r ∧ r.at_ ≤ x ∧ x + z ≤ r.fin ∧ ((z = 0 ∧ y.2.1 = 0 ∧ y.2.2 = 0) ∨ (0 < z ∧ y.2.1 = loOf r x ∧ y.2.2 = hiOf r x z ∧ y.2.1 < y.2.2 ∧ y.2.2 ≤ r.ps.length ∧ ∀ q, q < y.2.2 - y.2.1 → ∃ p, r.ps[y.2.1 + q]? = some (some p))) := by
  unfold allF at h
  cases hf : findRoom l x z with
  | none => rw [hf] at h; cases h
  | some j =>
    obtain ⟨r, hr, h1, h2, h3⟩ := find_some hf
    rw [hf] at h
    simp only [hr] at h
    have hfin : x + z ≤ r.fin := by unfold Rm.fin; omega
    by_cases hz : z = 0
    · rw [if_pos hz] at h
      obtain rfl := Option.some.inj h
      exact ⟨r, hr, h1, hfin, .inl ⟨hz, rfl, rfl⟩⟩
    · rw [if_neg hz] at h
      split at h
      · next ha =>
        obtain rfl := Option.some.inj h
        have hlo : loOf r x < hiOf r x z := by unfold loOf hiOf pagesN; omega
        have hhi : hiOf r x z ≤ r.ps.length := by unfold hiOf pagesN; omega
        refine ⟨r, hr, h1, hfin, .inr ⟨by omega, rfl, rfl, hlo, hhi, fun q hq => ?_⟩⟩
        simp only [] at hq ⊢
        have hql : loOf r x + q < r.ps.length := by omega
        cases hg : r.ps[loOf r x + q] with
        | none => exact (all_none ha hg (by omega) hhi).elim
        | some p => exact ⟨p, by rw [List.getElem?_eq_getElem hql, hg]⟩
      · cases h
def mayVal (l : List Rm) (x z p : Nat) : Value :=
  match mayF l x z p with
  | .error e => .tuple #[.slice none 0 0, .int .i64 e]
  | .ok y => .tuple #[rowVal l y, .int .i64 0]
theorem pages_at {l : List Rm} {y : Nat × Nat × Nat} {r : Rm} (hr : l[y.1]? = some r) : pagesOf l y = (r.ps.take y.2.2).drop y.2.1 := by
  unfold pagesOf
  rw [hr]
theorem may_of {l : List Rm} {x z p : Nat} {y : Nat × Nat × Nat} (ha : allF l x z = some y) : mayVal l x z p = if (pagesOf l y).all (okB p) = true then .tuple #[rowVal l y, .int .i64 0] else .tuple #[.slice none 0 0, .int .i64 54] := by
  unfold mayVal mayF
  rw [ha]
  simp only []
  by_cases c : (pagesOf l y).all (okB p) = true
  · rw [if_pos c, if_pos c]
  · rw [if_neg c, if_neg c]
theorem bits_ok (a p : Nat) (ha : a ≤ 7) (hp : p = 2 ∨ p = 4) : (bits BinOp.and .i64 (a : Int) (p : Int) != (p : Int)) = !decide (a &&& p = p) := by
  have h : a = 0 ∨ a = 1 ∨ a = 2 ∨ a = 3 ∨ a = 4 ∨ a = 5 ∨ a = 6 ∨ a = 7 := by omega
  rcases hp with rfl | rfl <;> rcases h with rfl | rfl | rfl | rfl | rfl | rfl | rfl | rfl <;> decide
set_option maxRecDepth 100000 in
set_option maxHeartbeats 2000000 in
theorem may_in {w : World} {own : Nat → Option Role} {base a : Nat} {v : Value} {s : Sp} (h : Holds w own base a v s) (x z p : Nat) (hx : x ≤ 18446744073709551615) (hz : z ≤ 18446744073709551615) (hp : p = 2 ∨ p = 4) :
    Calls Try.prog 61 #[.pointer (some ⟨a, 0, none⟩), .int .u64 x, .int .u64 z, .int .i64 p] w fun e w' => e = .returned (mayVal s.rs x z p) ∧ Below w.heap.size w w' := by
  have HQ := all_in h x z hx hz
  obtain ⟨R, hR⟩ : ∃ R, R = mayVal s.rs x z p := ⟨_, rfl⟩
  rw [← hR]
  cases ha : allF s.rs x z with
  | none =>
    have HR := Aside0.mk (show R = .tuple #[.slice none 0 0, .int .i64 52] from by rw [hR]; unfold mayVal mayF; rw [ha])
    rw [show allVal s.rs x z = .tuple #[.slice none 0 0, .int .i64 52] from by unfold allVal; rw [ha]] at HQ
    clear hR ha h
    go_enter Try.func61, Try.ntmps61
    go_wp2_with (go_at_call 82; (with_reducible refine HQ.mono ?_); rintro _ W1 ⟨rfl, hB1⟩; have HB1 := Aside0.mk hB1; clear hB1 HQ)
    go_ret2
    exact ⟨by rw [HR.out]; rfl, HB1.out⟩
  | some y =>
    obtain ⟨r, hr, h1, h2, h3⟩ := all_row ha
    rw [show allVal s.rs x z = .tuple #[rowVal s.rs y, .int .i64 0] from by unfold allVal; rw [ha]] at HQ
    rcases h3 with ⟨h3, h4, h5⟩ | ⟨h3, h4, h5, h6, h7, h8⟩
    · have hrow : rowVal s.rs y = .slice none 0 0 := by unfold rowVal; rw [if_pos (by omega)]
      have HR := Aside0.mk (show R = .tuple #[.slice none 0 0, .int .i64 0] from by rw [hR]; unfold mayVal mayF; rw [ha]; simp only [pages_at hr]; rw [h4, h5]; simp [hrow])
      rw [hrow] at HQ
      clear hR ha h hr hrow h4 h5 h3 h1 h2
      go_enter Try.func61, Try.ntmps61
      go_wp2_with (go_at_call 82; (with_reducible refine HQ.mono ?_); rintro _ W1 ⟨rfl, hB1⟩; have HB1 := Aside0.mk hB1; clear hB1 HQ)
      go_loop [26] (fun i => i = .int .i64 0) (fun i => 0)
      case atStart => rfl
      case round =>
        subst hrel
        go_wp2
        go_ret2
        exact ⟨by rw [HR.out]; rfl, HB1.out⟩
    · have hrow : rowVal s.rs y = .slice (some ⟨r.ab, y.2.1, none⟩) (y.2.2 - y.2.1) (y.2.2 - y.2.1) := by unfold rowVal; rw [if_neg (by omega)]; simp only [hr]
      have HE := Aside0.mk (show R = if ((r.ps.take y.2.2).drop y.2.1).all (okB p) = true then .tuple #[rowVal s.rs y, .int .i64 0] else .tuple #[.slice none 0 0, .int .i64 54] from by rw [hR, may_of ha, pages_at hr])
      rw [hrow] at HQ HE
      have hg := (h.good.rm r (List.mem_of_getElem? hr)).pg
      have hn := (h.good.rm r (List.mem_of_getElem? hr)).l2
      obtain ⟨j, lo, hi⟩ := y
      simp only [] at hr h6 h7 h8 HQ HE
      have HH := Aside0.mk h
      have HR := Aside0.mk hr
      have HG := Aside0.mk hg
      have HP := Aside0.mk h8
      clear hR ha h hr hrow h4 h5 h3 h1 h2 hg h8
      obtain ⟨M, hM⟩ : ∃ M, M = hi - lo := ⟨_, rfl⟩
      rw [← hM] at HQ HE HP
      have HM := Aside0.mk hM
      have hM1 : lo + M = hi := by omega
      clear hM
      go_enter Try.func61, Try.ntmps61
      go_wp2_with (go_at_call 82; (with_reducible refine HQ.mono ?_); rintro _ W1 ⟨rfl, hB1⟩; have HB1 := Aside0.mk hB1; have HH1 := Aside0.mk (HH.out.below hB1); clear hB1 HQ)
      go_loop [26] (fun i => ∃ k : Nat, i = .int .i64 k ∧ k ≤ M ∧ Aside0 (∀ q, q < k → ∃ g, r.ps[lo + q]? = some (some g) ∧ g.prot &&& p = p)) (fun i => M - (intOf i).toNat)
      case atStart => exact ⟨0, rfl, Nat.zero_le _, ⟨fun q hq => by omega⟩⟩
      case round =>
        obtain ⟨k, rfl, hk, HA⟩ := hrel
        by_cases hlt : k < M
        · obtain ⟨g, hgk⟩ := HP.out k hlt
          have hkl : lo + k < r.ps.length := by omega
          have hp := HH1.out.pp HR.out hkl
          have he : r.ps[lo + k] = some g := by rw [List.getElem?_eq_getElem hkl] at hgk; exact Option.some.inj hgk
          rw [he] at hp
          have hp' : W1.cell? ⟨r.ab, lo + k, none⟩ = some (.pointer (some ⟨g.b, 0, none⟩)) := hp
          have hp1 := HH1.out.p1 HR.out hgk
          have hpr := (HG.out _ g hgk).2.1
          have HK := Aside0.mk hgk
          clear hp he hgk
          have hbit := bits_ok g.prot p hpr hp
          by_cases c : g.prot &&& p = p
          · rw [decide_eq_true c] at hbit
            have HA' := Aside0.mk (show ∀ q, q < k + 1 → ∃ g, r.ps[lo + q]? = some (some g) ∧ g.prot &&& p = p from fun q hq => by
              rcases Nat.lt_or_ge q k with c1 | c1
              · exact HA.out q c1
              · obtain rfl : q = k := by omega
                exact ⟨g, HK.out, c⟩)
            clear HA c
            go_wp2
            go_round
            case rel => exact ⟨k + 1, by go_num, by omega, HA'⟩
            case measure => simp [intOf]; omega
          · rw [decide_eq_false c] at hbit
            have HZ := Aside0.mk (show R = .tuple #[.slice none 0 0, .int .i64 54] from by
              rw [HE.out, if_neg]
              intro hall
              have hm : some g ∈ (r.ps.take hi).drop lo := by
                rw [List.mem_iff_getElem?]
                exact ⟨k, by rw [List.getElem?_drop, List.getElem?_take_of_lt (by omega), HK.out]⟩
              exact c (of_decide_eq_true (List.all_eq_true.1 hall _ hm)))
            clear c
            go_wp2
            go_ret2
            exact ⟨by rw [HZ.out]; rfl, HB1.out⟩
        · have HZ := Aside0.mk (show R = .tuple #[.slice (some ⟨r.ab, lo, none⟩) M M, .int .i64 0] from by
            rw [HE.out, if_pos]
            rw [List.all_eq_true]
            intro u hu
            obtain ⟨q, hq⟩ := List.mem_iff_getElem?.1 hu
            rw [List.getElem?_drop] at hq
            rcases Nat.lt_or_ge (lo + q) hi with c | c
            · rw [List.getElem?_take_of_lt c] at hq
              obtain ⟨g, h1, h2⟩ := HA.out q (by omega)
              rw [h1] at hq
              rw [← Option.some.inj hq]
              exact decide_eq_true h2
            · rw [List.getElem?_eq_none (by rw [List.length_take]; omega)] at hq
              cases hq)
          go_wp2
          go_ret2
          exact ⟨by rw [HZ.out]; rfl, HB1.out⟩
end Go.Proofs.Ytmpahimeljbliaa.Vm
