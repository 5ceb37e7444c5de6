/- The document's List of an archive: the walk. No condition but that the argument is a slice of bytes. -/
import Derived.Test.YtmpahimeljbliaaZipRefL
import Derived.Outline
namespace Go.Proofs.Ytmpahimeljbliaa.ZipWalk
open Go.RowKit Go.Proofs Go.Proofs.Ytmpahimeljbliaa.B Go.Proofs.Ytmpahimeljbliaa.Buf Go.Proofs.YtmpahimeljbliaaW.PrintWords Go.Proofs.YtmpahimeljbliaaW.PrintLast Go.Proofs.YtmpahimeljbliaaW.PrintMore
open ZipPure (numAt U Bytes endAt endFrom endMarks listFrom listOf longAt Ent entAt)
open ZipEnd (endOk num2_lt num4_lt)
open ZipNumB (w64 w64i w64' ref_n)

theorem info33 : (Try.prog.info? 33).map (fun i => (i.zero, i.size, i.bytes)) = some (some (.agg #[.string ⟨#[]⟩, .int .i64 0, .int .u64 0, .int .u64 0, .int .u64 0]), 5, 48) := by kernel_rfl
theorem last_calls (A0 : Option Addr) (c0 : Nat) (l : List Int) (w : World) (hr : ReadsInt w .u8 A0 l.length l) (hc : l.length ≤ c0) (hl : Bytes l) (hlen : l.length ≤ 140737488355328) :
    Calls Try.prog 40 #[.slice A0 l.length c0] w fun e w' => e = .returned (.tuple #[.int .i64 (lastRes (endAt l)).1, .bool (lastRes (endAt l)).2]) ∧ Below w.heap.size w w' := by
  have h := last_l0 l hl hlen 65536 22 131100 (by omega) (by omega) (by omega)
  have hf : messuageref07_Last.f 131100 l = some (lastRes (endAt l)) := by
    rw [messuageref07_Last.f, w64' _ (by omega) (by omega)]
    exact h
  exact (messuageref07_Last.calls 131100 A0 c0 l _ _ w (Kd.C_of_reads hr) hc hf).mono fun _ _ h => ⟨h.1, by first | exact h.2 | (obtain ⟨m, rfl⟩ := h.2.out; exact pw_below_drewN (Below.refl _ _) m)⟩

set_option maxRecDepth 100000 in
set_option maxHeartbeats 2000000 in
theorem refList_in (A0 : Option Addr) (c0 : Nat) (l : List Int) (w : World) (hr : ReadsInt w .u8 A0 l.length l) (hc : l.length ≤ c0) (hl : Bytes l) (hlen : l.length ≤ 140737488355328) :
    Calls Try.prog 15 #[.slice A0 l.length c0] w (Listed 33 w (listRes l)) := by
  have HR := Aside0.mk hr
  have HC := Aside0.mk hc
  have HL := Aside0.mk hl
  clear hr hc hl
  obtain ⟨R, hR⟩ : ∃ R, R = listRes l := ⟨_, rfl⟩
  rw [← hR]
  have HRS := Aside0.mk hR
  clear hR
  have HF := Aside0.mk (last_calls A0 c0 l w HR.out HC.out HL.out hlen)
  by_cases hbig : 262144 < l.length
  · have hres : R = ([], 0, 70) := by
      rw [HRS.out, listRes, listOf, if_pos hbig]
    have HRES := Aside0.mk hres
    clear hres
    go_enter Try.func15, Try.ntmps15
    go_wp2_with (go_at_call 40; (with_reducible refine HF.out.mono ?_); rintro _ W1 ⟨rfl, hB1⟩; have HB1 := Aside0.mk hB1; have HR1 := Aside0.mk (HR.out.below hB1); clear hB1)
    go_ret3
    exact fin_list HRES.out HB1.out
  have hle : l.length ≤ 262144 := by omega
  clear hbig
  rcases hE : endAt l with _ | e
  · have hres : R = ([], 0, 70) := by
      rw [HRS.out, listRes, listOf, if_neg (by omega), hE]
    have HRES := Aside0.mk hres
    rw [hE] at HF
    simp only [lastRes] at HF
    clear hres hE
    go_enter Try.func15, Try.ntmps15
    go_wp2_with (go_at_call 40; (with_reducible refine HF.out.mono ?_); rintro _ W1 ⟨rfl, hB1⟩; have HB1 := Aside0.mk hB1; have HR1 := Aside0.mk (HR.out.below hB1); clear hB1)
    go_ret3
    exact fin_list HRES.out HB1.out
  rw [hE] at HF
  simp only [lastRes] at HF
  obtain ⟨N, hN⟩ := Int.eq_ofNat_of_zero_le (num2_lt l HL.out (e + 10)).1
  obtain ⟨S, hS⟩ := Int.eq_ofNat_of_zero_le (num4_lt l HL.out (e + 12)).1
  obtain ⟨C, hC⟩ := Int.eq_ofNat_of_zero_le (num4_lt l HL.out (e + 16)).1
  have bN : N < 65536 := by have := (num2_lt l HL.out (e + 10)).2; omega
  have bS : S < 4294967296 := by have := (num4_lt l HL.out (e + 12)).2; omega
  have bC : C < 4294967296 := by have := (num4_lt l HL.out (e + 16)).2; omega
  have hel := ZipPure.end_le l 65536 22 e hE
  have be : e ≤ 262144 := by omega
  obtain ⟨x4, hx4⟩ : ∃ n, n = numAt l (e + 4) 2 := ⟨_, rfl⟩
  obtain ⟨x6, hx6⟩ : ∃ n, n = numAt l (e + 6) 2 := ⟨_, rfl⟩
  obtain ⟨x8, hx8⟩ : ∃ n, n = numAt l (e + 8) 2 := ⟨_, rfl⟩
  have hok : endOk l e = ((x4 == 0) && ((x6 == 0) && ((x8 == (N : Int)) && decide ((C : Int) + (S : Int) ≤ (e : Int))))) := by
    unfold endOk
    rw [← hx4, ← hx6, ← hx8, hN, hS, hC]
  have hfalse : endOk l e = false → R = ([], 0, 70) := by
    intro hf
    rw [HRS.out, listRes, list_small l e hle hE N S C hN hS hC, if_neg (by rw [hf]; decide)]
  have htrue : endOk l e = true → R = match listFrom l N C S with | some r => (r.map eOf, (C : Int), 0) | none => ([], 0, 70) := by
    intro hf
    rw [HRS.out]
    exact res_of hle hE hN hS hC hf
  have HN := Aside0.mk hN.symm
  have HS := Aside0.mk hS.symm
  have HCC := Aside0.mk hC.symm
  have HX4 := Aside0.mk hx4
  have HX6 := Aside0.mk hx6
  have HX8 := Aside0.mk hx8
  have HOK := Aside0.mk hok
  have HFALSE := Aside0.mk hfalse
  have HTRUE := Aside0.mk htrue
  clear hN hS hC hx4 hx6 hx8 hok hfalse htrue hE
  have ue : IntKind.u64.wrap (e : Int) = (e : Int) := Buf.wrap_small _ (by omega) (by omega)
  by_cases h4 : x4 = 0
  · by_cases h6 : x6 = 0
    · by_cases h8 : x8 = (N : Int)
      · by_cases hCS : C + S ≤ e
        · have hres := HTRUE.out (by rw [HOK.out, h4, h6, h8]; simp; omega)
          have HRES := Aside0.mk hres
          subst h4
          subst h6
          subst h8
          clear hres
          have hcs2 : (C : Int) + (S : Int) ≤ (e : Int) := by omega
          go_enter Try.func15, Try.ntmps15
          go_wp2_with (first
            | (go_at_call 40; (with_reducible refine HF.out.mono ?_); rintro _ W1 ⟨rfl, hB1⟩; have HB1 := Aside0.mk hB1; have HR1 := Aside0.mk (HR.out.below hB1); clear hB1)
            | (go_at_call 41; have HQ := rn2 A0 c0 l ((e : Int) + 10) (e + 10) W1 rfl HR1.out HC.out HL.out hlen (by omega); rw [← HN.out] at HQ; (with_reducible refine HQ.mono ?_); clear HQ; rintro _ _ ⟨rfl, m1, rfl⟩)
            | (go_at_call 41; have HQ := rn4 A0 c0 l ((e : Int) + 12) (e + 12) (W1.drewN (m1)) rfl (HR1.out.drewN (m1)) HC.out HL.out hlen (by omega); rw [← HS.out] at HQ; (with_reducible refine HQ.mono ?_); clear HQ; rintro _ _ ⟨rfl, m2, rfl⟩)
            | (go_at_call 41; have HQ := rn4 A0 c0 l ((e : Int) + 16) (e + 16) (W1.drewN (m1 + m2)) rfl (HR1.out.drewN (m1 + m2)) HC.out HL.out hlen (by omega); rw [← HCC.out] at HQ; (with_reducible refine HQ.mono ?_); clear HQ; rintro _ _ ⟨rfl, m3, rfl⟩)
            | (go_at_call 41; have HQ := rn2 A0 c0 l ((e : Int) + 4) (e + 4) (W1.drewN (m1 + m2 + m3)) rfl (HR1.out.drewN (m1 + m2 + m3)) HC.out HL.out hlen (by omega); rw [← HX4.out] at HQ; (with_reducible refine HQ.mono ?_); clear HQ; rintro _ _ ⟨rfl, m4, rfl⟩)
            | (go_at_call 41; have HQ := rn2 A0 c0 l ((e : Int) + 6) (e + 6) (W1.drewN (m1 + m2 + m3 + m4)) rfl (HR1.out.drewN (m1 + m2 + m3 + m4)) HC.out HL.out hlen (by omega); rw [← HX6.out] at HQ; (with_reducible refine HQ.mono ?_); clear HQ; rintro _ _ ⟨rfl, m5, rfl⟩)
            | (go_at_call 41; have HQ := rn2 A0 c0 l ((e : Int) + 8) (e + 8) (W1.drewN (m1 + m2 + m3 + m4 + m5)) rfl (HR1.out.drewN (m1 + m2 + m3 + m4 + m5)) HC.out HL.out hlen (by omega); rw [← HX8.out] at HQ; (with_reducible refine HQ.mono ?_); clear HQ; rintro _ _ ⟨rfl, m6, rfl⟩))
          obtain ⟨W2, hW2⟩ : ∃ W, W = W1.drewN (m1 + m2 + m3 + m4 + m5 + m6) := ⟨_, rfl⟩
          rw [← hW2]
          have HB2 := Aside0.mk (show Below w.heap.size w W2 from hW2 ▸ pw_below_drewN HB1.out _)
          clear hW2
          go_loopw [11, 12, 13] (fun v at_ i wr => ∃ (j a left : Nat) (acc : List Ent), i = .int .u64 (j : Int) ∧ at_ = .int .u64 (a : Int) ∧ j ≤ N ∧ a + left = C + S ∧ acc.length = j ∧ Kd.R kE 33 wr w.heap.size (fun _ => True) v (acc.map eOf) ∧ Below w.heap.size w wr ∧ listFrom l N C S = (listFrom l (N - j) a left).map (acc ++ ·)) (fun _ _ i _ => N - (intOf i).toNat)
          case atStart => exact ⟨0, C, S, [], rfl, rfl, Nat.zero_le _, rfl, rfl, Kd.R_nil _ _ _ _ _, HB2.out, by simp⟩
          case round =>
            obtain ⟨j, a, left, acc, rfl, rfl, hj, hal, hacc, hV, hB, hE⟩ := hrel
            obtain ⟨rows, hrows⟩ : ∃ rows, rows = acc.map eOf := ⟨_, rfl⟩
            rw [← hrows] at hV
            have hrl : rows.length = j := by rw [hrows, List.length_map, hacc]
            have HROWS := Aside0.mk hrows
            have HV := Aside0.mk hV
            have HB := Aside0.mk hB
            have HE := Aside0.mk hE
            have HACC := Aside0.mk hacc
            have HRL := Aside0.mk hrl
            have HRR := Aside0.mk (HR.out.below hB)
            clear hV hB hE hacc hrows hrl
            have hleft : (C : Int) + (S : Int) - (a : Int) = (left : Int) := by omega
            have ba : a ≤ 262144 := by omega
            have bl : left ≤ 262144 := by omega
            have HAL := Aside0.mk hal
            have haL : a ≤ C + S := by omega
            clear hal
            by_cases hlt : j < N
            · obtain ⟨d, hd⟩ : ∃ d, N - j = d + 1 := ⟨N - j - 1, by omega⟩
              have hnone : listFrom l (d + 1) a left = none → R = ([], 0, 70) := by
                intro h
                rw [HRES.out, HE.out, hd, h]
                rfl
              have HNONE := Aside0.mk hnone
              have HD := Aside0.mk hd
              clear hnone hd
              have hlong := long_eq l HL.out a
              obtain ⟨n28, h28⟩ : ∃ n, n = numAt l (a + 28) 2 := ⟨_, rfl⟩
              obtain ⟨n30, h30⟩ : ∃ n, n = numAt l (a + 30) 2 := ⟨_, rfl⟩
              obtain ⟨n32, h32⟩ : ∃ n, n = numAt l (a + 32) 2 := ⟨_, rfl⟩
              obtain ⟨x0, hx0⟩ : ∃ x, x = numAt l a 4 := ⟨_, rfl⟩
              rw [← h28, ← h30, ← h32] at hlong
              obtain ⟨b28, d28⟩ : 0 ≤ n28 ∧ n28 < 65536 := h28 ▸ num2_lt l HL.out _
              obtain ⟨b30, d30⟩ : 0 ≤ n30 ∧ n30 < 65536 := h30 ▸ num2_lt l HL.out _
              obtain ⟨b32, d32⟩ : 0 ≤ n32 ∧ n32 < 65536 := h32 ▸ num2_lt l HL.out _
              have HX0 := Aside0.mk hx0
              have H28 := Aside0.mk h28
              have H30 := Aside0.mk h30
              have H32 := Aside0.mk h32
              have HLONG := Aside0.mk hlong
              clear h28 h30 h32 hx0 hlong
              by_cases h46 : left < 46
              · have hres := HNONE.out (by rw [listFrom, if_pos (.inl h46)])
                have HX := Aside0.mk hres
                clear hres
                go_wp2_with (first
                  | (go_at_call 41; have HQ := rn2 A0 c0 l ((a : Int) + 28) (a + 28) wr rfl HRR.out HC.out HL.out hlen (by omega); rw [← H28.out] at HQ; (with_reducible refine HQ.mono ?_); clear HQ; rintro _ _ ⟨rfl, m7, rfl⟩)
                  | (go_at_call 41; have HQ := rn2 A0 c0 l ((a : Int) + 30) (a + 30) (wr.drewN (m7)) rfl (HRR.out.drewN (m7)) HC.out HL.out hlen (by omega); rw [← H30.out] at HQ; (with_reducible refine HQ.mono ?_); clear HQ; rintro _ _ ⟨rfl, m8, rfl⟩)
                  | (go_at_call 41; have HQ := rn2 A0 c0 l ((a : Int) + 32) (a + 32) (wr.drewN (m7 + m8)) rfl (HRR.out.drewN (m7 + m8)) HC.out HL.out hlen (by omega); rw [← H32.out] at HQ; (with_reducible refine HQ.mono ?_); clear HQ; rintro _ _ ⟨rfl, m9, rfl⟩))
                go_ret3
                exact fin_list HX.out (pw_below_drewN HB.out _)
              by_cases hmk : x0 = 33639248
              · subst hmk
                by_cases hgt : longAt l a > left
                · have hres := HNONE.out (by rw [listFrom, if_neg (by rw [← HX0.out]; omega), if_pos hgt])
                  have HX := Aside0.mk hres
                  have hgt2 : (left : Int) < 46 + n28 + n30 + n32 := by have := HLONG.out; omega
                  clear hres hgt
                  go_wp2_with (first
                    | (go_at_call 41; have HQ := rn2 A0 c0 l ((a : Int) + 28) (a + 28) wr rfl HRR.out HC.out HL.out hlen (by omega); rw [← H28.out] at HQ; (with_reducible refine HQ.mono ?_); clear HQ; rintro _ _ ⟨rfl, m7, rfl⟩)
                    | (go_at_call 41; have HQ := rn2 A0 c0 l ((a : Int) + 30) (a + 30) (wr.drewN (m7)) rfl (HRR.out.drewN (m7)) HC.out HL.out hlen (by omega); rw [← H30.out] at HQ; (with_reducible refine HQ.mono ?_); clear HQ; rintro _ _ ⟨rfl, m8, rfl⟩)
                    | (go_at_call 41; have HQ := rn2 A0 c0 l ((a : Int) + 32) (a + 32) (wr.drewN (m7 + m8)) rfl (HRR.out.drewN (m7 + m8)) HC.out HL.out hlen (by omega); rw [← H32.out] at HQ; (with_reducible refine HQ.mono ?_); clear HQ; rintro _ _ ⟨rfl, m9, rfl⟩)
                    | (go_at_call 41; have HQ := rn4 A0 c0 l (a : Int) a (wr.drewN (m7 + m8 + m9)) rfl (HRR.out.drewN (m7 + m8 + m9)) HC.out HL.out hlen (by omega); rw [← HX0.out] at HQ; (with_reducible refine HQ.mono ?_); clear HQ; rintro _ _ ⟨rfl, m10, rfl⟩))
                  go_ret3
                  exact fin_list HX.out (pw_below_drewN HB.out _)
                · obtain ⟨L, hL⟩ : ∃ L, L = longAt l a := ⟨_, rfl⟩
                  rw [← hL] at hgt
                  have hLL : 46 + n28 + n30 + n32 = (L : Int) := by rw [hL]; exact HLONG.out.symm
                  have bL : L ≤ left := by omega
                  have HLE := Aside0.mk hL
                  have HLL := Aside0.mk hLL
                  clear hL hgt
                  have hsums : 46 + n28 + n30 + n32 ≤ (left : Int) := by omega
                  clear hLL
                  obtain ⟨i0, hi0, hz0, hz1, hz2⟩ := info_parts infoE
                  have hin : (a : Int) + 46 + n28 ≤ (l.length : Int) := by have := HAL.out; omega
                  obtain ⟨A', hrun, hrds, -⟩ := print_mid_of (P := Try.prog) (Value.int .u8) (0 : Int) 22 5 .u64 .u64 Try.underlying22 hi0 hz1 A0 c0 l ((a : Int) + 46) ((a : Int) + 46 + n28) (by omega) (by omega) hin HC.out
                  obtain ⟨pl, hpl⟩ : ∃ pl, pl = (l.take ((a : Int) + 46 + n28).toNat).drop ((a : Int) + 46).toNat := ⟨_, rfl⟩
                  rw [← hpl] at hrun hrds
                  have hpl2 : pl = (l.drop (a + 46)).take n28.toNat := by
                    rw [hpl, List.drop_take]
                    congr 1
                    omega
                  have HPL := Aside0.mk hpl2
                  clear hpl hpl2
                  have HRDS := Aside0.mk hrds
                  clear hrds
                  obtain ⟨st, hst⟩ : ∃ s, s = strOfNums pl := ⟨_, rfl⟩
                  obtain ⟨ca, hca⟩ : ∃ k, k = c0 - ((a : Int) + 46).toNat := ⟨_, rfl⟩
                  rw [← hca] at hrun
                  have hcv : ∀ m, (convert 22 9 (.slice A' pl.length ca)).run Try.prog (wr.drewN m) = .ok (.string st) (wr.drewN m) := fun m => hst ▸ string_of_reads (P := Try.prog) Try.underlying22 Try.underlying5 Try.underlying9 (HRDS.out _ (HRR.out.drewN m))
                  have HST := Aside0.mk hst
                  clear hst hca
                  obtain ⟨x10, h10⟩ : ∃ n, n = numAt l (a + 10) 2 := ⟨_, rfl⟩
                  obtain ⟨x24, h24⟩ : ∃ n, n = numAt l (a + 24) 4 := ⟨_, rfl⟩
                  obtain ⟨x20, h20⟩ : ∃ n, n = numAt l (a + 20) 4 := ⟨_, rfl⟩
                  obtain ⟨x42, h42⟩ : ∃ n, n = numAt l (a + 42) 4 := ⟨_, rfl⟩
                  obtain ⟨b10, d10⟩ : 0 ≤ x10 ∧ x10 < 65536 := h10 ▸ num2_lt l HL.out _
                  have H10 := Aside0.mk h10
                  have H24 := Aside0.mk h24
                  have H20 := Aside0.mk h20
                  have H42 := Aside0.mk h42
                  clear h10 h24 h20 h42
                  go_wp2_with (first
                    | (go_at_call 41; have HQ := rn2 A0 c0 l ((a : Int) + 28) (a + 28) wr rfl HRR.out HC.out HL.out hlen (by omega); rw [← H28.out] at HQ; (with_reducible refine HQ.mono ?_); clear HQ; rintro _ _ ⟨rfl, m7, rfl⟩)
                    | (go_at_call 41; have HQ := rn2 A0 c0 l ((a : Int) + 30) (a + 30) (wr.drewN (m7)) rfl (HRR.out.drewN (m7)) HC.out HL.out hlen (by omega); rw [← H30.out] at HQ; (with_reducible refine HQ.mono ?_); clear HQ; rintro _ _ ⟨rfl, m8, rfl⟩)
                    | (go_at_call 41; have HQ := rn2 A0 c0 l ((a : Int) + 32) (a + 32) (wr.drewN (m7 + m8)) rfl (HRR.out.drewN (m7 + m8)) HC.out HL.out hlen (by omega); rw [← H32.out] at HQ; (with_reducible refine HQ.mono ?_); clear HQ; rintro _ _ ⟨rfl, m9, rfl⟩)
                    | (go_at_call 41; have HQ := rn4 A0 c0 l (a : Int) a (wr.drewN (m7 + m8 + m9)) rfl (HRR.out.drewN (m7 + m8 + m9)) HC.out HL.out hlen (by omega); rw [← HX0.out] at HQ; (with_reducible refine HQ.mono ?_); clear HQ; rintro _ _ ⟨rfl, m10, rfl⟩)
                    | (go_at_call 41; have HQ := rn2 A0 c0 l ((a : Int) + 28) (a + 28) (wr.drewN (m7 + m8 + m9 + m10)) rfl (HRR.out.drewN (m7 + m8 + m9 + m10)) HC.out HL.out hlen (by omega); rw [← H28.out] at HQ; (with_reducible refine HQ.mono ?_); clear HQ; rintro _ _ ⟨rfl, m11, rfl⟩)
                    | (go_at_call 41; have HQ := rn2 A0 c0 l ((a : Int) + 10) (a + 10) (wr.drewN (m7 + m8 + m9 + m10 + m11)) rfl (HRR.out.drewN (m7 + m8 + m9 + m10 + m11)) HC.out HL.out hlen (by omega); rw [← H10.out] at HQ; (with_reducible refine HQ.mono ?_); clear HQ; rintro _ _ ⟨rfl, m12, rfl⟩)
                    | (go_at_call 41; have HQ := rn4 A0 c0 l ((a : Int) + 24) (a + 24) (wr.drewN (m7 + m8 + m9 + m10 + m11 + m12)) rfl (HRR.out.drewN (m7 + m8 + m9 + m10 + m11 + m12)) HC.out HL.out hlen (by omega); rw [← H24.out] at HQ; (with_reducible refine HQ.mono ?_); clear HQ; rintro _ _ ⟨rfl, m13, rfl⟩)
                    | (go_at_call 41; have HQ := rn4 A0 c0 l ((a : Int) + 20) (a + 20) (wr.drewN (m7 + m8 + m9 + m10 + m11 + m12 + m13)) rfl (HRR.out.drewN (m7 + m8 + m9 + m10 + m11 + m12 + m13)) HC.out HL.out hlen (by omega); rw [← H20.out] at HQ; (with_reducible refine HQ.mono ?_); clear HQ; rintro _ _ ⟨rfl, m14, rfl⟩)
                    | (go_at_call 41; have HQ := rn4 A0 c0 l ((a : Int) + 42) (a + 42) (wr.drewN (m7 + m8 + m9 + m10 + m11 + m12 + m13 + m14)) rfl (HRR.out.drewN (m7 + m8 + m9 + m10 + m11 + m12 + m13 + m14)) HC.out HL.out hlen (by omega); rw [← H42.out] at HQ; (with_reducible refine HQ.mono ?_); clear HQ; rintro _ _ ⟨rfl, m15, rfl⟩; obtain ⟨W6, hW6⟩ : ∃ W, W = wr.drewN (m7 + m8 + m9 + m10 + m11 + m12 + m13 + m14 + m15) := ⟨_, rfl⟩; (try rw [World.drewN_drewN]); rw [← hW6]; have HB6 := Aside0.mk (show Below w.heap.size w W6 from hW6 ▸ pw_below_drewN HB.out _); have HV6 := Aside0.mk (show Kd.R kE 33 W6 w.heap.size (fun _ => True) u11 rows from hW6 ▸ Kd.R_drewN HV.out _); clear hW6 hcv)
                    | (at_builtin; refine Kd.R_append kE (w0 := w) (W := W6) w.heap.size rfl (.tmp 121) (.tmp 141) 27 33 (.agg #[.string ⟨#[]⟩, .int .i64 0, .int .u64 0, .int .u64 0, .int .u64 0]) 48 rfl Try.underlying27 info33 rfl (by decide) (by decide) u11 rows (st, x10, x24, x20, x42) [.string st, .int .i64 x10, .int .u64 x24, .int .u64 x20, .int .u64 x42] (fun _ => True) (fun _ => False) rfl rfl (kE_M _ _ _ _ _ _ _ _) (fun _ h => h.elim) (fun _ _ => trivial) HV6.out HB6.out HB6.out.size (by have := HRL.out; omega) ?_; intro v1 w1 hR1 hB1 hG1 hA1; have HVW := Aside0.mk hR1; have HBW := Aside0.mk hB1; clear hR1 hB1 hG1 hA1))
                  go_roundw
                  case rel =>
                    have e1 : listFrom l (N - j) a left = (listFrom l (N - (j + 1)) (a + L) (left - L)).map (entAt l a :: ·) := by
                      rw [HD.out, show N - (j + 1) = d by have := HD.out; omega, listFrom, if_neg (by rw [← HX0.out]; omega), ← HLE.out, if_neg (by omega)]
                    have e2 : (acc ++ [entAt l a]).map eOf = rows ++ [(st, x10, x24, x20, x42)] := by
                      rw [List.map_append, HROWS.out, HST.out, HPL.out, H10.out, H24.out, H20.out, H42.out, H28.out]
                      rfl
                    refine ⟨j + 1, a + L, left - L, acc ++ [entAt l a], by go_num, congrArg (Value.int IntKind.u64) (by have := HLL.out; omega), by omega, by have := HAL.out; omega, by rw [List.length_append, List.length_singleton, HACC.out], ?_, ?_, ?_⟩
                    · rw [e2]
                      exact HVW.out
                    · exact HBW.out
                    · rw [HE.out, e1, Option.map_map]
                      congr 1
                      funext r
                      simp
                  case measure => simp [intOf]; omega
              · have hres := HNONE.out (by rw [listFrom, if_pos (.inr (by rw [← HX0.out]; exact hmk))])
                have HX := Aside0.mk hres
                have hne : (x0 != 33639248) = true := by simpa using hmk
                clear hres hmk
                go_wp2_with (first
                  | (go_at_call 41; have HQ := rn2 A0 c0 l ((a : Int) + 28) (a + 28) wr rfl HRR.out HC.out HL.out hlen (by omega); rw [← H28.out] at HQ; (with_reducible refine HQ.mono ?_); clear HQ; rintro _ _ ⟨rfl, m7, rfl⟩)
                  | (go_at_call 41; have HQ := rn2 A0 c0 l ((a : Int) + 30) (a + 30) (wr.drewN (m7)) rfl (HRR.out.drewN (m7)) HC.out HL.out hlen (by omega); rw [← H30.out] at HQ; (with_reducible refine HQ.mono ?_); clear HQ; rintro _ _ ⟨rfl, m8, rfl⟩)
                  | (go_at_call 41; have HQ := rn2 A0 c0 l ((a : Int) + 32) (a + 32) (wr.drewN (m7 + m8)) rfl (HRR.out.drewN (m7 + m8)) HC.out HL.out hlen (by omega); rw [← H32.out] at HQ; (with_reducible refine HQ.mono ?_); clear HQ; rintro _ _ ⟨rfl, m9, rfl⟩)
                  | (go_at_call 41; have HQ := rn4 A0 c0 l (a : Int) a (wr.drewN (m7 + m8 + m9)) rfl (HRR.out.drewN (m7 + m8 + m9)) HC.out HL.out hlen (by omega); rw [← HX0.out] at HQ; (with_reducible refine HQ.mono ?_); clear HQ; rintro _ _ ⟨rfl, m10, rfl⟩))
                go_ret3
                exact fin_list HX.out (pw_below_drewN HB.out _)
            · obtain rfl : j = N := by omega
              have h0 : j - j = 0 := by omega
              by_cases hl0 : left = 0
              · subst hl0
                have hres : R = (rows, (C : Int), 0) := by
                  rw [HRES.out, HE.out, h0, HROWS.out]
                  simp [listFrom]
                have HX := Aside0.mk hres
                have hac : (a : Int) = (C : Int) + (S : Int) := by omega
                have hne : ((a : Int) != (C : Int) + (S : Int)) = false := by simpa using hac
                clear hres h0 hlt hj hac hleft
                go_wp2
                go_ret3
                rw [HX.out]
                exact ⟨_, rfl, HV.out, HB.out⟩
              · have hres : R = ([], 0, 70) := by
                  rw [HRES.out, HE.out, h0, listFrom, if_neg hl0]
                  rfl
                have HX := Aside0.mk hres
                have hac : ¬ (a : Int) = (C : Int) + (S : Int) := by omega
                have hne : ((a : Int) != (C : Int) + (S : Int)) = true := by simpa using hac
                clear hres h0 hlt hj hl0 hac hleft
                go_wp2
                go_ret3
                exact fin_list HX.out HB.out
        · have hres := HFALSE.out (by rw [HOK.out, h4, h6, h8]; simp; omega)
          have HRES := Aside0.mk hres
          subst h4
          subst h6
          subst h8
          clear hres
          have hcs2 : (e : Int) < (C : Int) + (S : Int) := by omega
          go_enter Try.func15, Try.ntmps15
          go_wp2_with (first
            | (go_at_call 40; (with_reducible refine HF.out.mono ?_); rintro _ W1 ⟨rfl, hB1⟩; have HB1 := Aside0.mk hB1; have HR1 := Aside0.mk (HR.out.below hB1); clear hB1)
            | (go_at_call 41; have HQ := rn2 A0 c0 l ((e : Int) + 10) (e + 10) W1 rfl HR1.out HC.out HL.out hlen (by omega); rw [← HN.out] at HQ; (with_reducible refine HQ.mono ?_); clear HQ; rintro _ _ ⟨rfl, m1, rfl⟩)
            | (go_at_call 41; have HQ := rn4 A0 c0 l ((e : Int) + 12) (e + 12) (W1.drewN (m1)) rfl (HR1.out.drewN (m1)) HC.out HL.out hlen (by omega); rw [← HS.out] at HQ; (with_reducible refine HQ.mono ?_); clear HQ; rintro _ _ ⟨rfl, m2, rfl⟩)
            | (go_at_call 41; have HQ := rn4 A0 c0 l ((e : Int) + 16) (e + 16) (W1.drewN (m1 + m2)) rfl (HR1.out.drewN (m1 + m2)) HC.out HL.out hlen (by omega); rw [← HCC.out] at HQ; (with_reducible refine HQ.mono ?_); clear HQ; rintro _ _ ⟨rfl, m3, rfl⟩)
            | (go_at_call 41; have HQ := rn2 A0 c0 l ((e : Int) + 4) (e + 4) (W1.drewN (m1 + m2 + m3)) rfl (HR1.out.drewN (m1 + m2 + m3)) HC.out HL.out hlen (by omega); rw [← HX4.out] at HQ; (with_reducible refine HQ.mono ?_); clear HQ; rintro _ _ ⟨rfl, m4, rfl⟩)
            | (go_at_call 41; have HQ := rn2 A0 c0 l ((e : Int) + 6) (e + 6) (W1.drewN (m1 + m2 + m3 + m4)) rfl (HR1.out.drewN (m1 + m2 + m3 + m4)) HC.out HL.out hlen (by omega); rw [← HX6.out] at HQ; (with_reducible refine HQ.mono ?_); clear HQ; rintro _ _ ⟨rfl, m5, rfl⟩)
            | (go_at_call 41; have HQ := rn2 A0 c0 l ((e : Int) + 8) (e + 8) (W1.drewN (m1 + m2 + m3 + m4 + m5)) rfl (HR1.out.drewN (m1 + m2 + m3 + m4 + m5)) HC.out HL.out hlen (by omega); rw [← HX8.out] at HQ; (with_reducible refine HQ.mono ?_); clear HQ; rintro _ _ ⟨rfl, m6, rfl⟩))
          go_ret3
          exact fin_list HRES.out (pw_below_drewN HB1.out _)
      · have hres := HFALSE.out (by rw [HOK.out, h4, h6]; simp [h8])
        have HRES := Aside0.mk hres
        subst h4
        subst h6
        have hne : (x8 != (N : Int)) = true := by simpa using h8
        clear hres h8
        go_enter Try.func15, Try.ntmps15
        go_wp2_with (first
          | (go_at_call 40; (with_reducible refine HF.out.mono ?_); rintro _ W1 ⟨rfl, hB1⟩; have HB1 := Aside0.mk hB1; have HR1 := Aside0.mk (HR.out.below hB1); clear hB1)
          | (go_at_call 41; have HQ := rn2 A0 c0 l ((e : Int) + 10) (e + 10) W1 rfl HR1.out HC.out HL.out hlen (by omega); rw [← HN.out] at HQ; (with_reducible refine HQ.mono ?_); clear HQ; rintro _ _ ⟨rfl, m1, rfl⟩)
          | (go_at_call 41; have HQ := rn4 A0 c0 l ((e : Int) + 12) (e + 12) (W1.drewN (m1)) rfl (HR1.out.drewN (m1)) HC.out HL.out hlen (by omega); rw [← HS.out] at HQ; (with_reducible refine HQ.mono ?_); clear HQ; rintro _ _ ⟨rfl, m2, rfl⟩)
          | (go_at_call 41; have HQ := rn4 A0 c0 l ((e : Int) + 16) (e + 16) (W1.drewN (m1 + m2)) rfl (HR1.out.drewN (m1 + m2)) HC.out HL.out hlen (by omega); rw [← HCC.out] at HQ; (with_reducible refine HQ.mono ?_); clear HQ; rintro _ _ ⟨rfl, m3, rfl⟩)
          | (go_at_call 41; have HQ := rn2 A0 c0 l ((e : Int) + 4) (e + 4) (W1.drewN (m1 + m2 + m3)) rfl (HR1.out.drewN (m1 + m2 + m3)) HC.out HL.out hlen (by omega); rw [← HX4.out] at HQ; (with_reducible refine HQ.mono ?_); clear HQ; rintro _ _ ⟨rfl, m4, rfl⟩)
          | (go_at_call 41; have HQ := rn2 A0 c0 l ((e : Int) + 6) (e + 6) (W1.drewN (m1 + m2 + m3 + m4)) rfl (HR1.out.drewN (m1 + m2 + m3 + m4)) HC.out HL.out hlen (by omega); rw [← HX6.out] at HQ; (with_reducible refine HQ.mono ?_); clear HQ; rintro _ _ ⟨rfl, m5, rfl⟩)
          | (go_at_call 41; have HQ := rn2 A0 c0 l ((e : Int) + 8) (e + 8) (W1.drewN (m1 + m2 + m3 + m4 + m5)) rfl (HR1.out.drewN (m1 + m2 + m3 + m4 + m5)) HC.out HL.out hlen (by omega); rw [← HX8.out] at HQ; (with_reducible refine HQ.mono ?_); clear HQ; rintro _ _ ⟨rfl, m6, rfl⟩))
        go_ret3
        exact fin_list HRES.out (pw_below_drewN HB1.out _)
    · have hres := HFALSE.out (by rw [HOK.out, h4]; simp [h6])
      have HRES := Aside0.mk hres
      subst h4
      have hne : (x6 != 0) = true := by simpa using h6
      clear hres h6
      go_enter Try.func15, Try.ntmps15
      go_wp2_with (first
        | (go_at_call 40; (with_reducible refine HF.out.mono ?_); rintro _ W1 ⟨rfl, hB1⟩; have HB1 := Aside0.mk hB1; have HR1 := Aside0.mk (HR.out.below hB1); clear hB1)
        | (go_at_call 41; have HQ := rn2 A0 c0 l ((e : Int) + 10) (e + 10) W1 rfl HR1.out HC.out HL.out hlen (by omega); rw [← HN.out] at HQ; (with_reducible refine HQ.mono ?_); clear HQ; rintro _ _ ⟨rfl, m1, rfl⟩)
        | (go_at_call 41; have HQ := rn4 A0 c0 l ((e : Int) + 12) (e + 12) (W1.drewN (m1)) rfl (HR1.out.drewN (m1)) HC.out HL.out hlen (by omega); rw [← HS.out] at HQ; (with_reducible refine HQ.mono ?_); clear HQ; rintro _ _ ⟨rfl, m2, rfl⟩)
        | (go_at_call 41; have HQ := rn4 A0 c0 l ((e : Int) + 16) (e + 16) (W1.drewN (m1 + m2)) rfl (HR1.out.drewN (m1 + m2)) HC.out HL.out hlen (by omega); rw [← HCC.out] at HQ; (with_reducible refine HQ.mono ?_); clear HQ; rintro _ _ ⟨rfl, m3, rfl⟩)
        | (go_at_call 41; have HQ := rn2 A0 c0 l ((e : Int) + 4) (e + 4) (W1.drewN (m1 + m2 + m3)) rfl (HR1.out.drewN (m1 + m2 + m3)) HC.out HL.out hlen (by omega); rw [← HX4.out] at HQ; (with_reducible refine HQ.mono ?_); clear HQ; rintro _ _ ⟨rfl, m4, rfl⟩)
        | (go_at_call 41; have HQ := rn2 A0 c0 l ((e : Int) + 6) (e + 6) (W1.drewN (m1 + m2 + m3 + m4)) rfl (HR1.out.drewN (m1 + m2 + m3 + m4)) HC.out HL.out hlen (by omega); rw [← HX6.out] at HQ; (with_reducible refine HQ.mono ?_); clear HQ; rintro _ _ ⟨rfl, m5, rfl⟩)
        | (go_at_call 41; have HQ := rn2 A0 c0 l ((e : Int) + 8) (e + 8) (W1.drewN (m1 + m2 + m3 + m4 + m5)) rfl (HR1.out.drewN (m1 + m2 + m3 + m4 + m5)) HC.out HL.out hlen (by omega); rw [← HX8.out] at HQ; (with_reducible refine HQ.mono ?_); clear HQ; rintro _ _ ⟨rfl, m6, rfl⟩))
      go_ret3
      exact fin_list HRES.out (pw_below_drewN HB1.out _)
  · have hres := HFALSE.out (by rw [HOK.out]; simp [h4])
    have HRES := Aside0.mk hres
    have hne : (x4 != 0) = true := by simpa using h4
    clear hres h4
    go_enter Try.func15, Try.ntmps15
    go_wp2_with (first
      | (go_at_call 40; (with_reducible refine HF.out.mono ?_); rintro _ W1 ⟨rfl, hB1⟩; have HB1 := Aside0.mk hB1; have HR1 := Aside0.mk (HR.out.below hB1); clear hB1)
      | (go_at_call 41; have HQ := rn2 A0 c0 l ((e : Int) + 10) (e + 10) W1 rfl HR1.out HC.out HL.out hlen (by omega); rw [← HN.out] at HQ; (with_reducible refine HQ.mono ?_); clear HQ; rintro _ _ ⟨rfl, m1, rfl⟩)
      | (go_at_call 41; have HQ := rn4 A0 c0 l ((e : Int) + 12) (e + 12) (W1.drewN (m1)) rfl (HR1.out.drewN (m1)) HC.out HL.out hlen (by omega); rw [← HS.out] at HQ; (with_reducible refine HQ.mono ?_); clear HQ; rintro _ _ ⟨rfl, m2, rfl⟩)
      | (go_at_call 41; have HQ := rn4 A0 c0 l ((e : Int) + 16) (e + 16) (W1.drewN (m1 + m2)) rfl (HR1.out.drewN (m1 + m2)) HC.out HL.out hlen (by omega); rw [← HCC.out] at HQ; (with_reducible refine HQ.mono ?_); clear HQ; rintro _ _ ⟨rfl, m3, rfl⟩)
      | (go_at_call 41; have HQ := rn2 A0 c0 l ((e : Int) + 4) (e + 4) (W1.drewN (m1 + m2 + m3)) rfl (HR1.out.drewN (m1 + m2 + m3)) HC.out HL.out hlen (by omega); rw [← HX4.out] at HQ; (with_reducible refine HQ.mono ?_); clear HQ; rintro _ _ ⟨rfl, m4, rfl⟩)
      | (go_at_call 41; have HQ := rn2 A0 c0 l ((e : Int) + 6) (e + 6) (W1.drewN (m1 + m2 + m3 + m4)) rfl (HR1.out.drewN (m1 + m2 + m3 + m4)) HC.out HL.out hlen (by omega); rw [← HX6.out] at HQ; (with_reducible refine HQ.mono ?_); clear HQ; rintro _ _ ⟨rfl, m5, rfl⟩)
      | (go_at_call 41; have HQ := rn2 A0 c0 l ((e : Int) + 8) (e + 8) (W1.drewN (m1 + m2 + m3 + m4 + m5)) rfl (HR1.out.drewN (m1 + m2 + m3 + m4 + m5)) HC.out HL.out hlen (by omega); rw [← HX8.out] at HQ; (with_reducible refine HQ.mono ?_); clear HQ; rintro _ _ ⟨rfl, m6, rfl⟩))
    go_ret3
    exact fin_list HRES.out (pw_below_drewN HB1.out _)
end Go.Proofs.Ytmpahimeljbliaa.ZipWalk
