/- The room of a place, the pages of a row of bytes: looked for. No condition but that the space lies in memory as told. -/
import Derived.Test.YtmpahimeljbliaaVmRead
namespace Go.Proofs.Ytmpahimeljbliaa.Vm
open Go.RowKit Go.Proofs Go.Proofs.YtmpahimeljbliaaW.PrintWords

def roomPtr (l : List Rm) (x z : Nat) : Value :=
  match findRoom l x z with
  | none => .pointer none
  | some j => match l[j]? with
    | none => .pointer none
    | some r => ptrR r
theorem pw_then {w W : World} {n : Nat} (h : Below w.heap.size w W) : Below w.heap.size w (W.drewN n) := pw_below_drewN h n
set_option maxRecDepth 100000 in
set_option maxHeartbeats 2000000 in
theorem room_in {w : World} {own : Nat → Option Role} {base a : Nat} {v : Value} {s : Sp} (h : Holds w own base a v s) (x z : Nat) (hx : x ≤ 18446744073709551615) (hz : z ≤ 18446744073709551615) :
    Calls Try.prog 80 #[.pointer (some ⟨a, 0, none⟩), .int .u64 x, .int .u64 z] w fun e w' => e = .returned (roomPtr s.rs x z) ∧ Below w.heap.size w w' := by
  have HQ := behind_in h x hx
  have hb := behind_le x s.rs
  have hl := h.good.len
  rcases hbe : behind x s.rs with _ | j
  · have HP := Aside0.mk (show roomPtr s.rs x z = .pointer none from by unfold roomPtr findRoom; rw [hbe])
    rw [hbe] at HQ
    clear hb hbe h
    go_enter Try.func80, Try.ntmps80
    go_wp2_with (go_at_call 77; (with_reducible refine HQ.mono ?_); rintro _ W1 ⟨rfl, hB1⟩; have HB1 := Aside0.mk hB1; clear hB1 HQ)
    go_ret
    exact ⟨by rw [HP.out]; rfl, HB1.out⟩
  · rw [hbe] at HQ hb
    have hj : j < s.rs.length := by omega
    obtain ⟨r, hr⟩ : ∃ r, s.rs[j]? = some r := ⟨_, List.getElem?_eq_getElem hj⟩
    have hle := behind_lt x s.rs j r (by omega) hr
    have hg := h.good.rm r (List.mem_of_getElem? hr)
    have hfin : r.at_ + r.ps.length * 256 = r.fin := rfl
    have hhi := hg.hi
    have hin : Aside0 (findRoom s.rs x z = if inRoom r x z = true then some j else none) := ⟨by unfold findRoom; rw [hbe]; simp only [hr]⟩
    have HH := Aside0.mk h
    have HR := Aside0.mk hr
    clear h hr hbe hg hb
    obtain ⟨T, hT⟩ : ∃ T, T = r.at_ := ⟨_, rfl⟩
    obtain ⟨F, hF⟩ : ∃ F, F = r.fin := ⟨_, rfl⟩
    obtain ⟨N, hN⟩ : ∃ N, N = r.ps.length * 256 := ⟨_, rfl⟩
    have hI : Aside0 (inRoom r x z = decide (T ≤ x ∧ x - T ≤ N ∧ z ≤ N - (x - T))) := ⟨by rw [hT, hN]; rfl⟩
    rw [← hT] at hle
    rw [← hT, ← hF, ← hN] at hfin
    rw [← hF] at hhi
    have HT := Aside0.mk hT
    have HF := Aside0.mk hF
    clear hT hF hN
    cases hd : decide (T ≤ x ∧ x - T ≤ N ∧ z ≤ N - (x - T)) with
    | true =>
      have HP := Aside0.mk (show roomPtr s.rs x z = .pointer (some ⟨r.b, 0, none⟩) from by unfold roomPtr; rw [hin.out, hI.out, hd, if_pos rfl]; simp only [HR.out]; rfl)
      rw [hd] at hI
      have HD := Aside0.mk hd
      clear hd
      go_enter Try.func80, Try.ntmps80
      go_wp2_with (go_at_call 77; (with_reducible refine HQ.mono ?_); rintro _ W1 ⟨rfl, hB1⟩; have HB1 := Aside0.mk hB1; have HH1 := Aside0.mk (HH.out.below hB1); clear hB1 HQ; obtain ⟨A, c, hv, hc⟩ := HH1.out.slice; subst hv; have hs2 := HH1.out.s2; obtain ⟨ad, hA, hp⟩ := HH1.out.rows.2 j r HR.out; subst hA; have hr0 := HH1.out.r0 HR.out; rw [← HT.out] at hr0)
      have K1 := Aside0.mk (fun n : Nat => Calls.quiet_of (w := W1) (n := n) (by have HQ := end_in r (W1.drewN n) ((HH1.out.drewN n).r0 HR.out) ((HH1.out.drewN n).r1 HR.out) (by rw [← HF.out]; exact hhi); rw [← HF.out] at HQ; exact HQ))
      have K2 := Aside0.mk (fun n : Nat => Calls.quiet_of (w := W1) (n := n) (by have HQ := inside_in x z T N (W1.drewN n) hx hz (by omega) (by omega); rw [HD.out] at HQ; exact HQ))
      have e34 : IntKind.u64.wrap ((F : Int) - (T : Int)) = (N : Int) := by rw [show (F : Int) - (T : Int) = (N : Int) from by omega]; exact IntWalk.u64_in _ ⟨by omega, by omega⟩
      go_quiet (first | (go_at_call 92; exact K1.out _) | (go_at_call 73; exact K2.out _))
      clear e34
      go_wp2
      go_ret
      exact ⟨by rw [HP.out]; rfl, pw_then HB1.out⟩
    | false =>
      have HP := Aside0.mk (show roomPtr s.rs x z = .pointer none from by unfold roomPtr; rw [hin.out, hI.out, hd, if_neg (by decide)])
      rw [hd] at hI
      have HD := Aside0.mk hd
      clear hd
      go_enter Try.func80, Try.ntmps80
      go_wp2_with (go_at_call 77; (with_reducible refine HQ.mono ?_); rintro _ W1 ⟨rfl, hB1⟩; have HB1 := Aside0.mk hB1; have HH1 := Aside0.mk (HH.out.below hB1); clear hB1 HQ; obtain ⟨A, c, hv, hc⟩ := HH1.out.slice; subst hv; have hs2 := HH1.out.s2; obtain ⟨ad, hA, hp⟩ := HH1.out.rows.2 j r HR.out; subst hA; have hr0 := HH1.out.r0 HR.out; rw [← HT.out] at hr0)
      have K1 := Aside0.mk (fun n : Nat => Calls.quiet_of (w := W1) (n := n) (by have HQ := end_in r (W1.drewN n) ((HH1.out.drewN n).r0 HR.out) ((HH1.out.drewN n).r1 HR.out) (by rw [← HF.out]; exact hhi); rw [← HF.out] at HQ; exact HQ))
      have K2 := Aside0.mk (fun n : Nat => Calls.quiet_of (w := W1) (n := n) (by have HQ := inside_in x z T N (W1.drewN n) hx hz (by omega) (by omega); rw [HD.out] at HQ; exact HQ))
      have e34 : IntKind.u64.wrap ((F : Int) - (T : Int)) = (N : Int) := by rw [show (F : Int) - (T : Int) = (N : Int) from by omega]; exact IntWalk.u64_in _ ⟨by omega, by omega⟩
      go_quiet (first | (go_at_call 92; exact K1.out _) | (go_at_call 73; exact K2.out _))
      clear e34
      go_wp2
      go_ret
      exact ⟨by rw [HP.out]; rfl, pw_then HB1.out⟩
set_option maxRecDepth 100000 in
theorem span_in (r : Rm) (x z : Nat) (w : World) (h0 : w.cell? ⟨r.b, 0, none⟩ = some (.int .u64 r.at_)) (hle : r.at_ ≤ x) (hf : x - r.at_ + z ≤ 1099511627776) :
    Calls Try.prog 81 #[.pointer (some ⟨r.b, 0, none⟩), .int .u64 x, .int .u64 z] w fun e w' => e = .returned (.tuple #[.int .i64 (loOf r x), .int .i64 (hiOf r x z)]) ∧ ∃ n, w' = w.drewN n := by
  obtain ⟨T, hT⟩ : ∃ T, T = r.at_ := ⟨_, rfl⟩
  rw [← hT] at h0 hle hf
  have HL := Aside0.mk (show ((x - T) / 256 : Nat) = loOf r x from by rw [hT]; rfl)
  have HI := Aside0.mk (show pagesN (x - T + z) = hiOf r x z from by rw [hT]; rfl)
  clear hT
  have HQ := pages_in (x - T + z) w (by omega)
  rw [show ((x - T + z : Nat) : Int) = (x : Int) - (T : Int) + (z : Int) from by omega, HI.out] at HQ
  have hp : hiOf r x z ≤ 4294967297 := by rw [← HI.out]; unfold pagesN; omega
  go_enter Try.func81, Try.ntmps81
  go_wp2_with (go_at_call 95; (with_reducible refine HQ.mono ?_); rintro _ _ ⟨rfl, n, rfl⟩; clear HQ)
  go_ret2
  exact ⟨by rw [← HL.out, show (((x - T) / 256 : Nat) : Int) = ((x : Int) - (T : Int)) / 256 from by omega]; rfl, _, rfl⟩
set_option maxRecDepth 100000 in
set_option maxHeartbeats 1000000 in
theorem gap_in {w : World} {own : Nat → Option Role} {base a : Nat} {v : Value} {s : Sp} (h : Holds w own base a v s) (x z : Nat) (hx : x ≤ 1099511627776) (hz : z ≤ 16384) :
    Calls Try.prog 76 #[.pointer (some ⟨a, 0, none⟩), .int .u64 x, .int .u64 z] w fun e w' => e = .returned (.tuple #[.int .u64 (gap z s.rs x), .bool (decide (gap z s.rs x ≤ 1099511627776 - z))]) ∧ ∃ n, w' = w.drewN n := by
  obtain ⟨A, c, rfl, hc⟩ := h.slice
  have h2 := h.s2
  have hl := h.good.len
  obtain ⟨g, hg⟩ : ∃ g, g = gap z s.rs x := ⟨_, rfl⟩
  rw [← hg]
  have HG := Aside0.mk hg
  have HH := Aside0.mk h
  clear hg h hc
  obtain ⟨N, hN⟩ : ∃ N, N = s.rs.length := ⟨_, rfl⟩
  rw [← hN] at h2 hl
  have HN := Aside0.mk hN
  clear hN
  go_enter Try.func76, Try.ntmps76
  go_wp2
  go_loopw [1, 15] (fun y i wr => ∃ (k q n : Nat), i = .int .i64 k ∧ y = .int .u64 q ∧ k ≤ N ∧ q ≤ 1099511627776 ∧ Aside0 (g = gap z (s.rs.drop k) q) ∧ wr = w.drewN n) (fun _ i _ => N - (intOf i).toNat)
  case atStart => exact ⟨0, x, 0, rfl, rfl, by omega, hx, HG, rfl⟩
  case round =>
    obtain ⟨k, q, n, rfl, rfl, hk, hq, HK, rfl⟩ := hrel
    clear h2
    by_cases hlt : k < N
    · have hks : k < s.rs.length := by rw [← HN.out]; exact hlt
      obtain ⟨r, hr⟩ : ∃ r, s.rs[k]? = some r := ⟨_, List.getElem?_eq_getElem hks⟩
      have HS := Aside0.mk (show g = gap z (r :: s.rs.drop (k + 1)) q from by rw [HK.out, List.drop_eq_getElem_cons hks]; rw [List.getElem?_eq_getElem hks] at hr; rw [Option.some.inj hr])
      have hgd := HH.out.good.rm r (List.mem_of_getElem? hr)
      have hfin : r.at_ + r.ps.length * 256 = r.fin := rfl
      have hhi := hgd.hi
      obtain ⟨ad, hA, hp⟩ := HH.out.rows.2 k r hr
      subst hA
      have hr0 := HH.out.r0 hr
      have hQ : ∀ m : Nat, Calls Try.prog 92 #[.pointer (some ⟨r.b, 0, none⟩)] (w.drewN m) fun e w' => e = .returned (.int .u64 r.fin) ∧ ∃ n, w' = (w.drewN m).drewN n := fun m => end_in r (w.drewN m) ((HH.out.drewN m).r0 hr) ((HH.out.drewN m).r1 hr) hhi
      have HR := Aside0.mk hr
      clear hr hgd
      obtain ⟨T, hT⟩ : ∃ T, T = r.at_ := ⟨_, rfl⟩
      obtain ⟨F, hF⟩ : ∃ F, F = r.fin := ⟨_, rfl⟩
      rw [← hT] at hr0 hfin
      rw [← hF] at hfin hhi hQ
      have hTF : T ≤ F := by omega
      have HE := Aside0.mk (show gap z (r :: s.rs.drop (k + 1)) q = if F ≤ q then gap z (s.rs.drop (k + 1)) q else if q ≤ T ∧ z ≤ T - q then q else gap z (s.rs.drop (k + 1)) F from by rw [hT, hF]; rfl)
      have HQ := Aside0.mk hQ
      clear hT hF hfin hQ
      by_cases c1 : F ≤ q
      · have HZ := Aside0.mk (show g = gap z (s.rs.drop (k + 1)) q from by rw [HS.out, HE.out, if_pos c1])
        go_wp2_with (go_at_call 92; (with_reducible refine (HQ.out _).mono ?_); rintro _ _ ⟨rfl, n', rfl⟩)
        go_roundw
        case rel => exact ⟨k + 1, q, n + n', by go_num, rfl, by omega, hq, HZ, rfl⟩
        case measure => simp [intOf]; omega
      · by_cases c2 : q ≤ T
        · by_cases c3 : z ≤ T - q
          · have HZ := Aside0.mk (show g = q from by rw [HS.out, HE.out, if_neg c1, if_pos ⟨c2, c3⟩])
            have c4 : (z : Int) ≤ (T : Int) - (q : Int) := by omega
            go_wp2_with (go_at_call 92; (with_reducible refine (HQ.out _).mono ?_); rintro _ _ ⟨rfl, n', rfl⟩)
            go_ret2
            exact ⟨by rw [HZ.out]; show Ending.returned (.tuple #[.int .u64 (q : Int), .bool (decide ((q : Int) ≤ 1099511627776 - (z : Int)))]) = _; rw [show decide ((q : Int) ≤ 1099511627776 - (z : Int)) = decide (q ≤ 1099511627776 - z) from decide_eq_decide.2 (by omega)], _, rfl⟩
          · have HZ := Aside0.mk (show g = gap z (s.rs.drop (k + 1)) F from by rw [HS.out, HE.out, if_neg c1, if_neg (fun h => c3 h.2)])
            have c4 : (T : Int) - (q : Int) < (z : Int) := by omega
            go_wp2_with (go_at_call 92; (with_reducible refine (HQ.out _).mono ?_); rintro _ _ ⟨rfl, n', rfl⟩)
            go_roundw
            case rel => exact ⟨k + 1, F, _, by go_num, rfl, by omega, hhi, HZ, rfl⟩
            case measure => simp [intOf]; omega
        · have HZ := Aside0.mk (show g = gap z (s.rs.drop (k + 1)) F from by rw [HS.out, HE.out, if_neg c1, if_neg (fun h => c2 h.1)])
          go_wp2_with (go_at_call 92; (with_reducible refine (HQ.out _).mono ?_); rintro _ _ ⟨rfl, n', rfl⟩)
          go_roundw
          case rel => exact ⟨k + 1, F, _, by go_num, rfl, by omega, hhi, HZ, rfl⟩
          case measure => simp [intOf]; omega
    · have HZ := Aside0.mk (show g = q from by rw [HK.out, List.drop_of_length_le (by rw [← HN.out]; omega)]; rfl)
      go_wp2
      go_ret2
      exact ⟨by rw [HZ.out]; show Ending.returned (.tuple #[.int .u64 (q : Int), .bool (decide ((q : Int) ≤ 1099511627776 - (z : Int)))]) = _; rw [show decide ((q : Int) ≤ 1099511627776 - (z : Int)) = decide (q ≤ 1099511627776 - z) from decide_eq_decide.2 (by omega)], _, rfl⟩
end Go.Proofs.Ytmpahimeljbliaa.Vm
