/- The pages that a row of bytes touches, looked for, and what may be done with them. No condition but that the space lies in memory as told. -/
import Derived.Test.YtmpahimeljbliaaVmRoom
namespace Go.Proofs.Ytmpahimeljbliaa.Vm
open Go.RowKit Go.Proofs Go.Proofs.YtmpahimeljbliaaW.PrintWords

theorem add_at (b o k : Nat) : (⟨b, o, none⟩ : Addr).add k = ⟨b, o + k, none⟩ := by
  unfold Addr.add
  split
  · next h => rw [h, Nat.add_zero]
  · rfl
theorem info126 : (Try.prog.info? 126).map (fun i => (i.zero, i.size, i.bytes)) = some (some (.pointer none), 1, 8) := by kernel_rfl
theorem cut_lh (ab n lo hi : Nat) (h1 : lo < hi) (h2 : hi ≤ n) : ∀ W : World, (Instr.slice 123 (.slice (some ⟨ab, 0, none⟩) n n) (some (.int .i64 lo)) (some (.int .i64 hi)) none).run Try.prog W = .ok (.slice (some ⟨ab, lo, none⟩) (hi - lo) (n - lo)) W := by
  obtain ⟨i, hi0, _, hsz, _⟩ := info_parts info126
  have := cut_mid (P := Try.prog) 123 126 .i64 .i64 Try.underlying123 hi0 1 hsz (some ⟨ab, 0, none⟩) n n (lo : Int) (hi : Int) (by omega) (by omega) (by omega) (Nat.le_refl _)
  intro W
  rw [this W, Int.toNat_natCast, Int.toNat_natCast, if_neg (by omega), Option.map_some, add_at, Nat.zero_add, Nat.mul_one]
theorem cut_lhm (ab n lo hi : Nat) (h1 : lo < hi) (h2 : hi ≤ n) : ∀ W : World, (Instr.slice 123 (.slice (some ⟨ab, 0, none⟩) n n) (some (.int .i64 lo)) (some (.int .i64 hi)) (some (.int .i64 hi))).run Try.prog W = .ok (.slice (some ⟨ab, lo, none⟩) (hi - lo) (hi - lo)) W := by
  obtain ⟨i, hi0, _, hsz, _⟩ := info_parts info126
  intro W
  have hel : Try.prog.elem 123 = 126 := by kernel_rfl
  have hu : Try.prog.underlying 123 = some (.slice (Try.prog.elem 123)) := by rw [hel]; exact Try.underlying123
  rw [run_slice_lhm W 123 (some ⟨ab, 0, none⟩) n n hu .i64 .i64 .i64 (lo : Int) (hi : Int) (hi : Int) (by omega) (by omega) (by omega) (by omega), hel]
  simp [sizeOf, typeInfo, hi0, hsz, sliced, Result.andThen, add_at, Nat.ne_of_gt h1]
/-- What the pages are told by. -/
def rowVal (l : List Rm) (y : Nat × Nat × Nat) : Value :=
  if y.2.2 = y.2.1 then .slice none 0 0 else match l[y.1]? with
    | none => .slice none 0 0
    | some r => .slice (some ⟨r.ab, y.2.1, none⟩) (y.2.2 - y.2.1) (y.2.2 - y.2.1)
def allVal (l : List Rm) (x z : Nat) : Value :=
  match allF l x z with
  | none => .tuple #[.slice none 0 0, .int .i64 52]
  | some y => .tuple #[rowVal l y, .int .i64 0]
theorem find_some {l : List Rm} {x z j : Nat} (h : findRoom l x z = some j) : ∃ r, l[j]? = some r ∧ r.at_ ≤ x ∧ x - r.at_ ≤ r.ps.length * 256 ∧ z ≤ r.ps.length * 256 - (x - r.at_) := by
  unfold findRoom at h
  split at h
  · cases h
  · next i _ =>
    split at h
    · cases h
    · next r hr =>
      split at h
      · next hin =>
        obtain rfl := Option.some.inj h
        exact ⟨r, hr, of_decide_eq_true hin⟩
      · cases h
theorem all_none {ps : List (Option Pg)} {lo hi k : Nat} (h : ((ps.take hi).drop lo).all Option.isSome = true) {hk : lo + k < ps.length} (hg : ps[lo + k] = none) (h1 : lo + k < hi) (_h2 : hi ≤ ps.length) : False := by
  have hm : ps[lo + k] ∈ (ps.take hi).drop lo := by
    rw [List.mem_iff_getElem?]
    exact ⟨k, by rw [List.getElem?_drop, List.getElem?_take_of_lt h1, List.getElem?_eq_getElem hk]⟩
  have := List.all_eq_true.1 h _ hm
  rw [hg] at this
  cases this
theorem all_some {ps : List (Option Pg)} {lo hi : Nat} (h : ∀ q, q < hi - lo → ∃ p, ps[lo + q]? = some (some p)) (_h2 : hi ≤ ps.length) : ((ps.take hi).drop lo).all Option.isSome = true := by
  rw [List.all_eq_true]
  intro x hx
  obtain ⟨q, hq⟩ := List.mem_iff_getElem?.1 hx
  rw [List.getElem?_drop] at hq
  rcases Nat.lt_or_ge (lo + q) hi with c | c
  · rw [List.getElem?_take_of_lt c] at hq
    obtain ⟨p, hp⟩ := h q (by omega)
    rw [hp] at hq
    rw [← Option.some.inj hq]
    rfl
  · rw [List.getElem?_eq_none (by rw [List.length_take]; omega)] at hq
    cases hq
set_option maxRecDepth 100000 in
set_option maxHeartbeats 2000000 in
theorem all_in {w : World} {own : Nat → Option Role} {base a : Nat} {v : Value} {s : Sp} (h : Holds w own base a v s) (x z : Nat) (hx : x ≤ 18446744073709551615) (hz : z ≤ 18446744073709551615) :
    Calls Try.prog 82 #[.pointer (some ⟨a, 0, none⟩), .int .u64 x, .int .u64 z] w fun e w' => e = .returned (allVal s.rs x z) ∧ Below w.heap.size w w' := by
  have HQ := room_in h x z hx hz
  obtain ⟨R, hR⟩ : ∃ R, R = allVal s.rs x z := ⟨_, rfl⟩
  rw [← hR]
  cases hf : findRoom s.rs x z with
  | none =>
    have HR := Aside0.mk (show R = .tuple #[.slice none 0 0, .int .i64 52] from by rw [hR]; unfold allVal allF; rw [hf])
    rw [show roomPtr s.rs x z = .pointer none from by unfold roomPtr; rw [hf]] at HQ
    clear hR hf h
    go_enter Try.func82, Try.ntmps82
    go_wp2_with (go_at_call 80; (with_reducible refine HQ.mono ?_); rintro _ W1 ⟨rfl, hB1⟩; have HB1 := Aside0.mk hB1; clear hB1 HQ)
    go_ret2
    exact ⟨by rw [HR.out]; rfl, HB1.out⟩
  | some j =>
    obtain ⟨r, hr, h1, h2, h3⟩ := find_some hf
    have hg := h.good.rm r (List.mem_of_getElem? hr)
    have hn := hg.l2
    have hal : allF s.rs x z = if z = 0 then some (j, 0, 0) else if ((r.ps.take (hiOf r x z)).drop (loOf r x)).all Option.isSome = true then some (j, loOf r x, hiOf r x z) else none := by unfold allF; rw [hf]; simp only [hr]
    rw [show roomPtr s.rs x z = .pointer (some ⟨r.b, 0, none⟩) from by unfold roomPtr; rw [hf]; simp only [hr]; rfl] at HQ
    have HH := Aside0.mk h
    have HR := Aside0.mk hr
    have HAL := Aside0.mk hal
    clear hf hal hg h
    by_cases hz0 : z = 0
    · have HZ := Aside0.mk (show R = .tuple #[.slice none 0 0, .int .i64 0] from by rw [hR]; unfold allVal; rw [HAL.out, if_pos hz0]; rfl)
      have HS := Aside0.mk (fun (W : World) (hw : W.cell? ⟨r.b, 0, none⟩ = some (.int .u64 r.at_)) => span_in r x z W hw h1 (by omega))
      have hzb : ((z : Int) == 0) = true := beq_iff_eq.2 (by omega)
      clear hR hr hz0
      go_enter Try.func82, Try.ntmps82
      go_wp2_with (first
        | (go_at_call 80; (with_reducible refine HQ.mono ?_); rintro _ W1 ⟨rfl, hB1⟩; have HB1 := Aside0.mk hB1; have HH1 := Aside0.mk (HH.out.below hB1); clear hB1 HQ)
        | (go_at_call 81; (with_reducible refine (HS.out W1 (HH1.out.r0 HR.out)).mono ?_); rintro _ _ ⟨rfl, n1, rfl⟩))
      go_ret2
      exact ⟨by rw [HZ.out]; rfl, pw_then HB1.out⟩
    · have hlo : loOf r x < hiOf r x z := by unfold loOf hiOf pagesN; omega
      have hhi : hiOf r x z ≤ r.ps.length := by unfold hiOf pagesN; omega
      have HS := Aside0.mk (fun (W : World) (hw : W.cell? ⟨r.b, 0, none⟩ = some (.int .u64 r.at_)) => span_in r x z W hw h1 (by omega))
      obtain ⟨lo, hlo0⟩ : ∃ lo, lo = loOf r x := ⟨_, rfl⟩
      obtain ⟨hi, hhi0⟩ : ∃ hi, hi = hiOf r x z := ⟨_, rfl⟩
      rw [← hlo0, ← hhi0] at HAL HS
      rw [← hlo0, ← hhi0] at hlo
      rw [← hhi0] at hhi
      have hzb : ((z : Int) == 0) = false := beq_eq_false_iff_ne.2 (by omega)
      have hcut := cut_lh r.ab r.ps.length lo hi hlo hhi
      have hcut2 := cut_lhm r.ab r.ps.length lo hi hlo hhi
      have HRR := Aside0.mk hR
      have HZ0 := Aside0.mk hz0
      clear hlo0 hhi0 hR hr hz0
      obtain ⟨M, hM⟩ : ∃ M, M = hi - lo := ⟨_, rfl⟩
      rw [← hM] at hcut hcut2
      have HM := Aside0.mk hM
      have hM1 : lo + M = hi := by omega
      clear hM
      go_enter Try.func82, Try.ntmps82
      go_wp2_with (first
        | (go_at_call 80; (with_reducible refine HQ.mono ?_); rintro _ W1 ⟨rfl, hB1⟩; have HB1 := Aside0.mk hB1; have HH1 := Aside0.mk (HH.out.below hB1); clear hB1 HQ; have hr1 := HH1.out.r1 HR.out)
        | (go_at_call 81; (with_reducible refine (HS.out W1 (HH1.out.r0 HR.out)).mono ?_); rintro _ _ ⟨rfl, n1, rfl⟩))
      go_loop [36] (fun i => ∃ k : Nat, i = .int .i64 k ∧ k ≤ M ∧ Aside0 (∀ q, q < k → ∃ p, r.ps[lo + q]? = some (some p))) (fun i => M - (intOf i).toNat)
      case atStart => exact ⟨0, rfl, Nat.zero_le _, ⟨fun q hq => by omega⟩⟩
      case round =>
        obtain ⟨k, rfl, hk, HA⟩ := hrel
        by_cases hlt : k < M
        · have hkl : lo + k < r.ps.length := by omega
          have hp := HH1.out.pp HR.out hkl
          cases hg : r.ps[lo + k] with
          | none =>
            rw [hg] at hp
            have hp' : W1.cell? ⟨r.ab, lo + k, none⟩ = some (.pointer none) := hp
            have HZ := Aside0.mk (show R = .tuple #[.slice none 0 0, .int .i64 52] from by rw [HRR.out]; unfold allVal; rw [HAL.out, if_neg HZ0.out, if_neg (fun h => all_none h hg (by omega) (by omega))])
            clear hp hg
            go_wp2
            go_ret2
            exact ⟨by rw [HZ.out]; rfl, pw_then HB1.out⟩
          | some p =>
            rw [hg] at hp
            have hp' : W1.cell? ⟨r.ab, lo + k, none⟩ = some (.pointer (some ⟨p.b, 0, none⟩)) := hp
            have HA' := Aside0.mk (show ∀ q, q < k + 1 → ∃ p, r.ps[lo + q]? = some (some p) from fun q hq => by
              rcases Nat.lt_or_ge q k with c | c
              · exact HA.out q c
              · obtain rfl : q = k := by omega
                exact ⟨p, by rw [List.getElem?_eq_getElem hkl, hg]⟩)
            clear hp hg HA
            go_wp2
            go_round
            case rel => exact ⟨k + 1, by go_num, by omega, HA'⟩
            case measure => simp [intOf]; omega
        · have HZ := Aside0.mk (show R = .tuple #[.slice (some ⟨r.ab, lo, none⟩) M M, .int .i64 0] from by
            rw [HRR.out]
            unfold allVal
            rw [HAL.out, if_neg HZ0.out, if_pos (all_some (fun q hq => HA.out q (by omega)) (by omega)), HM.out]
            unfold rowVal
            simp only [HR.out]
            rw [if_neg (by omega)])
          go_wp2
          go_ret2
          exact ⟨by rw [HZ.out]; rfl, pw_then HB1.out⟩
end Go.Proofs.Ytmpahimeljbliaa.Vm
