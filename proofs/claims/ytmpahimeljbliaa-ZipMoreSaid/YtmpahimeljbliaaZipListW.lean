/- zip.list: an archive's entries, and where the list begins. No condition but that the argument is a slice of bytes. -/
import Derived.Test.YtmpahimeljbliaaZipListS
import Derived.Test.YtmpahimeljbliaaZipEnd
import Derived.Test.YtmpahimeljbliaaZipPart
import Derived.Deep.AppendLies
import Derived.Outline
namespace Go.Proofs.Ytmpahimeljbliaa.ZipWalk
open Go.RowKit Go.Proofs Go.Proofs.Ytmpahimeljbliaa.B Go.Proofs.Ytmpahimeljbliaa.Buf Go.Proofs.YtmpahimeljbliaaW.PrintWords Go.Proofs.YtmpahimeljbliaaW.PrintLast Go.Proofs.YtmpahimeljbliaaW.PrintMore
open ZipPure (numAt U Bytes endAt listFrom listOf longAt Ent entAt)
open ZipEnd (endRes endOk num2 num4 num2_lt num4_lt end_in Ended)

theorem list_small (l : List Int) (e : Nat) (hle : l.length ≤ 262144) (hE : endAt l = some e) (N S C : Nat) (hN : numAt l (e + 10) 2 = (N : Int)) (hS : numAt l (e + 12) 4 = (S : Int)) (hC : numAt l (e + 16) 4 = (C : Int)) :
    listOf l = if endOk l e = true then (listFrom l N C S).map fun r => (r, C) else none := by
  have hle2 := ZipPure.end_le l 65536 22 e hE
  unfold listOf
  rw [if_neg (by omega), hE]
  have u : ∀ k n, k + n ≤ 22 → U l (e + k) n = numAt l (e + k) n := fun k n h => (ZipPure.numAt_in _ _ _ (by omega)).symm
  simp only [u 4 2 (by omega), u 6 2 (by omega), u 8 2 (by omega), u 10 2 (by omega), u 12 4 (by omega), u 16 4 (by omega), hN, hS, hC, Int.toNat_natCast]
  have hk : (numAt l (e + 4) 2 = 0 ∧ numAt l (e + 6) 2 = 0 ∧ numAt l (e + 8) 2 = (N : Int) ∧ (C : Int) + (S : Int) ≤ (e : Int)) ↔ endOk l e = true := by
    unfold endOk
    rw [hN, hS, hC]
    simp only [Bool.and_eq_true, beq_iff_eq, decide_eq_true_eq]
  by_cases h : endOk l e = true
  · rw [if_pos (hk.2 h), if_pos h]
  · rw [if_neg (fun q => h (hk.1 q)), if_neg h]
theorem res_of {l : List Int} {e : Nat} (hle : l.length ≤ 262144) (hE : endAt l = some e) {N S C : Nat} (hN : numAt l (e + 10) 2 = (N : Int)) (hS : numAt l (e + 12) 4 = (S : Int)) (hC : numAt l (e + 16) 4 = (C : Int)) (hok : endOk l e = true) :
    listRes l = match listFrom l N C S with | some r => (r.map eOf, (C : Int), 0) | none => ([], 0, 70) := by
  unfold listRes
  rw [list_small l e hle hE N S C hN hS hC, if_pos hok]
  cases listFrom l N C S <;> rfl
theorem fin_list {e : Nat} {w W : World} {R : List RowE × Int × Int} {n : Int} (h : R = ([], 0, n)) (hb : Below w.heap.size w W) : Listed e w R (.returned (.tuple #[.slice none 0 0, .int .u64 0, .int .i64 n])) W := by
  subst h
  exact ⟨_, rfl, Kd.R_nil _ _ _ _ _, hb⟩
theorem info32 : (Try.prog.info? 32).map (fun i => (i.zero, i.size, i.bytes)) = some (some (.agg #[.string ⟨#[]⟩, .int .i64 0, .int .u64 0, .int .u64 0, .int .u64 0]), 5, 48) := by kernel_rfl
theorem kE_M (W : World) (base : Nat) (ok : Nat → Prop) (s : ByteArray) (x1 x2 x3 x4 : Int) : kE.M W base ok (s, x1, x2, x3, x4) [.string s, .int .i64 x1, .int .u64 x2, .int .u64 x3, .int .u64 x4] :=
  ⟨[_], [_, _, _, _], rfl, rfl, [_], [_, _, _], rfl, rfl, [_], [_, _], rfl, rfl, [_], [_], rfl, rfl, rfl⟩
theorem conv_own {w : World} {base n c : Nat} {A : Option Addr} {xs : List Int} (h : w.ownsRow base 5 1 (.slice A n c) n (nums .u8 xs)) : (convert 22 9 (.slice A n c)).run Try.prog w = .ok (.string (strOfNums xs)) w :=
  own_string (P := Try.prog) Try.underlying22 Try.underlying5 Try.underlying9 h
theorem long_eq (l : List Int) (hl : Bytes l) (a : Nat) : ((longAt l a : Nat) : Int) = 46 + numAt l (a + 28) 2 + numAt l (a + 30) 2 + numAt l (a + 32) 2 := by
  have h1 := num2_lt l hl (a + 28)
  have h2 := num2_lt l hl (a + 30)
  have h3 := num2_lt l hl (a + 32)
  unfold longAt
  omega

set_option maxRecDepth 100000 in
set_option maxHeartbeats 2000000 in
theorem list_in (A0 : Option Addr) (c0 : Nat) (l : List Int) (w : World) (hr : ReadsInt w .u8 A0 l.length l) (hc : l.length ≤ c0) (hl : Bytes l) (hlen : l.length ≤ 140737488355328) :
    Calls Try.prog 39 #[.slice A0 l.length c0] w (Listed 32 w (listRes l)) := by
  have HR := Aside0.mk hr
  have HC := Aside0.mk hc
  have HL := Aside0.mk hl
  clear hr hc hl
  obtain ⟨R, hR⟩ : ∃ R, R = listRes l := ⟨_, rfl⟩
  rw [← hR]
  have HRS := Aside0.mk hR
  clear hR
  by_cases hbig : 262144 < l.length
  · have hres : R = ([], 0, 70) := by
      rw [HRS.out, listRes, listOf, if_pos hbig]
    have HRES := Aside0.mk hres
    clear hres
    go_enter Try.func39, Try.ntmps39
    go_wp2
    go_ret3
    exact fin_list HRES.out (Below.refl _ _)
  have hle : l.length ≤ 262144 := by omega
  clear hbig
  have HF := Aside0.mk (end_in A0 c0 l w HR.out HC.out HL.out hlen)
  rcases hE : endAt l with _ | e
  · have hres : R = ([], 0, 70) := by
      rw [HRS.out, listRes, listOf, if_neg (by omega), hE]
    have HRES := Aside0.mk hres
    have he : endRes l = (0, 0, 0, 0, false) := by unfold endRes; rw [hE]
    rw [he] at HF
    clear hres he hE
    go_enter Try.func39, Try.ntmps39
    go_wp2_with (go_at_call 69; (with_reducible refine HF.out.mono ?_); rintro _ W1 ⟨rfl, hB1⟩; have HB1 := Aside0.mk hB1; clear hB1)
    go_ret3
    exact fin_list HRES.out (below_then HB1.out HB1.out.size (below_alloc (Below.refl _ _) _))
  obtain ⟨N, hN⟩ := Int.eq_ofNat_of_zero_le (num2_lt l HL.out (e + 10)).1
  obtain ⟨S, hS⟩ := Int.eq_ofNat_of_zero_le (num4_lt l HL.out (e + 12)).1
  obtain ⟨C, hC⟩ := Int.eq_ofNat_of_zero_le (num4_lt l HL.out (e + 16)).1
  have bN : N < 65536 := by have := (num2_lt l HL.out (e + 10)).2; omega
  have bS : S < 4294967296 := by have := (num4_lt l HL.out (e + 12)).2; omega
  have bC : C < 4294967296 := by have := (num4_lt l HL.out (e + 16)).2; omega
  have hel := ZipPure.end_le l 65536 22 e hE
  have he : endRes l = ((e : Int), (N : Int), (S : Int), (C : Int), endOk l e) := by unfold endRes; rw [hE]; simp only [hN, hS, hC]
  rw [he] at HF
  clear he
  cases hok : endOk l e with
  | false =>
    have hres : R = ([], 0, 70) := by
      rw [HRS.out, listRes, list_small l e hle hE N S C hN hS hC, if_neg (by rw [hok]; decide)]
    have HRES := Aside0.mk hres
    rw [hok] at HF
    clear hres hE hN hS hC hok
    go_enter Try.func39, Try.ntmps39
    go_wp2_with (go_at_call 69; (with_reducible refine HF.out.mono ?_); rintro _ W1 ⟨rfl, hB1⟩; have HB1 := Aside0.mk hB1; clear hB1)
    go_ret3
    exact fin_list HRES.out (below_then HB1.out HB1.out.size (below_alloc (Below.refl _ _) _))
  | true =>
    have HRES := Aside0.mk (HRS.out.trans (res_of hle hE hN hS hC hok))
    have hCS : C + S ≤ e := by
      have := hok
      unfold endOk at this
      rw [hN, hS, hC] at this
      simp only [Bool.and_eq_true, beq_iff_eq, decide_eq_true_eq] at this
      omega
    rw [hok] at HF
    clear hE hN hS hC hok
    go_enter Try.func39, Try.ntmps39
    go_wp2_with (go_at_call 69; (with_reducible refine HF.out.mono ?_); rintro _ W1 ⟨rfl, hB1⟩; have HB1 := Aside0.mk hB1; clear hB1)
    go_quiet (fail)
    obtain ⟨g, hg⟩ : ∃ g, g = W1.heap.size := ⟨_, rfl⟩
    obtain ⟨W2, hW2⟩ : ∃ W, W = (W1.alloc (.cells #[.int .u64 (e : Int), .int .i64 (N : Int), .int .u64 (S : Int), .int .u64 (C : Int)] 141)).drewN nq := ⟨_, rfl⟩
    rw [← hg, ← hW2]
    have HB2 := Aside0.mk (show Below w.heap.size w W2 from hW2 ▸ pw_below_drewN (below_then HB1.out HB1.out.size (below_alloc (Below.refl _ _) _)) nq)
    have HK2 := Aside0.mk (show W2.heap[g]? = some (.cells #[.int .u64 (e : Int), .int .i64 (N : Int), .int .u64 (S : Int), .int .u64 (C : Int)] 141) from hW2 ▸ hg ▸ blk_drewN (blk_new _ _) nq)
    clear hW2 hg
    have hk20 : W2.cell? ⟨g, 0, none⟩ = some (.int .u64 (e : Int)) := (blk_cell HK2.out 0).trans rfl
    have hk21 : W2.cell? ⟨g, 1, none⟩ = some (.int .i64 (N : Int)) := (blk_cell HK2.out 1).trans rfl
    have hk22 : W2.cell? ⟨g, 2, none⟩ = some (.int .u64 (S : Int)) := (blk_cell HK2.out 2).trans rfl
    have hk23 : W2.cell? ⟨g, 3, none⟩ = some (.int .u64 (C : Int)) := (blk_cell HK2.out 3).trans rfl
    go_wp2
    go_loopw [7, 8, 9, 32] (fun v at_ lf i wr => ∃ (j a left : Nat) (acc : List Ent), i = .int .i64 (j : Int) ∧ at_ = .int .u64 (a : Int) ∧ lf = .int .u64 (left : Int) ∧ j ≤ N ∧ a + left ≤ l.length ∧ acc.length = j ∧ Kd.R kE 32 wr w.heap.size (fun _ => True) v (acc.map eOf) ∧ Below w.heap.size w wr ∧ wr.heap[g]? = some (.cells #[.int .u64 (e : Int), .int .i64 (N : Int), .int .u64 (S : Int), .int .u64 (C : Int)] 141) ∧ listFrom l N C S = (listFrom l (N - j) a left).map (acc ++ ·)) (fun _ _ _ i _ => N - (intOf i).toNat)
    case atStart => exact ⟨0, C, S, [], rfl, rfl, rfl, Nat.zero_le _, by omega, rfl, Kd.R_nil _ _ _ _ _, HB2.out, HK2.out, by simp⟩
    case round =>
      obtain ⟨j, a, left, acc, rfl, rfl, rfl, hj, hal, hacc, hV, hB, hK, hE⟩ := hrel
      obtain ⟨rows, hrows⟩ : ∃ rows, rows = acc.map eOf := ⟨_, rfl⟩
      rw [← hrows] at hV
      have hrl : rows.length = j := by rw [hrows, List.length_map, hacc]
      have HROWS := Aside0.mk hrows
      have HV := Aside0.mk hV
      have HB := Aside0.mk hB
      have HK := Aside0.mk hK
      have HE := Aside0.mk hE
      have HACC := Aside0.mk hacc
      have HRL := Aside0.mk hrl
      clear hV hB hK hE hacc hrows hrl
      clear hk20 hk21 hk22 hk23
      have hk30 : wr.cell? ⟨g, 0, none⟩ = some (.int .u64 (e : Int)) := (blk_cell HK.out 0).trans rfl
      have hk31 : wr.cell? ⟨g, 1, none⟩ = some (.int .i64 (N : Int)) := (blk_cell HK.out 1).trans rfl
      have hk32 : wr.cell? ⟨g, 2, none⟩ = some (.int .u64 (S : Int)) := (blk_cell HK.out 2).trans rfl
      have hk33 : wr.cell? ⟨g, 3, none⟩ = some (.int .u64 (C : Int)) := (blk_cell HK.out 3).trans rfl
      have hRr := HR.out.below HB.out
      have HRR := Aside0.mk hRr
      clear hRr
      have ba : a ≤ 262144 := by omega
      have bl : left ≤ 262144 := by omega
      by_cases hlt : j < N
      · obtain ⟨d, hd⟩ : ∃ d, N - j = d + 1 := ⟨N - j - 1, by omega⟩
        have hnone : listFrom l (d + 1) a left = none → R = ([], 0, 70) := by
          intro h
          rw [HRES.out, HE.out, hd, h]
          rfl
        have HNONE := Aside0.mk hnone
        have HD := Aside0.mk hd
        clear hnone hd
        by_cases h46 : left < 46
        · have hres := HNONE.out (by rw [listFrom, if_pos (.inl h46)])
          have HX := Aside0.mk hres
          clear hres
          go_wp2
          go_ret3
          exact fin_list HX.out HB.out
        obtain ⟨x0, hx0⟩ : ∃ x, x = numAt l a 4 := ⟨_, rfl⟩
        have HX0 := Aside0.mk hx0
        by_cases hmk : x0 = 33639248
        · subst hmk
          clear hx0
          have hlong := long_eq l HL.out a
          obtain ⟨n28, h28⟩ : ∃ n, n = numAt l (a + 28) 2 := ⟨_, rfl⟩
          obtain ⟨n30, h30⟩ : ∃ n, n = numAt l (a + 30) 2 := ⟨_, rfl⟩
          obtain ⟨n32, h32⟩ : ∃ n, n = numAt l (a + 32) 2 := ⟨_, rfl⟩
          rw [← h28, ← h30, ← h32] at hlong
          obtain ⟨b28, d28⟩ : 0 ≤ n28 ∧ n28 < 65536 := h28 ▸ num2_lt l HL.out _
          obtain ⟨b30, d30⟩ : 0 ≤ n30 ∧ n30 < 65536 := h30 ▸ num2_lt l HL.out _
          obtain ⟨b32, d32⟩ : 0 ≤ n32 ∧ n32 < 65536 := h32 ▸ num2_lt l HL.out _
          have H28 := Aside0.mk h28
          have H30 := Aside0.mk h30
          have H32 := Aside0.mk h32
          have HLONG := Aside0.mk hlong
          clear h28 h30 h32 hlong
          by_cases hgt : longAt l a > left
          · have hres := HNONE.out (by rw [listFrom, if_neg (by rw [← HX0.out]; omega), if_pos hgt])
            have HX := Aside0.mk hres
            have hgt2 : (left : Int) < 46 + n28 + n30 + n32 := by have := HLONG.out; omega
            clear hres hgt
            go_wp2_with (first
              | (go_at_call 70; have HQ := num4 A0 c0 l (a : Int) a wr rfl HRR.out HC.out HL.out hlen (by omega); rw [← HX0.out] at HQ; (with_reducible refine HQ.mono ?_); clear HQ; rintro _ _ ⟨rfl, m1, rfl⟩)
              | (go_at_call 70; have HQ := num2 A0 c0 l ((a : Int) + 28) (a + 28) (wr.drewN (m1)) rfl (HRR.out.drewN (m1)) HC.out HL.out hlen (by omega); rw [← H28.out] at HQ; (with_reducible refine HQ.mono ?_); clear HQ; rintro _ _ ⟨rfl, m2, rfl⟩)
              | (go_at_call 70; have HQ := num2 A0 c0 l ((a : Int) + 30) (a + 30) (wr.drewN (m1 + m2)) rfl (HRR.out.drewN (m1 + m2)) HC.out HL.out hlen (by omega); rw [← H30.out] at HQ; (with_reducible refine HQ.mono ?_); clear HQ; rintro _ _ ⟨rfl, m3, rfl⟩)
              | (go_at_call 70; have HQ := num2 A0 c0 l ((a : Int) + 32) (a + 32) (wr.drewN (m1 + m2 + m3)) rfl (HRR.out.drewN (m1 + m2 + m3)) HC.out HL.out hlen (by omega); rw [← H32.out] at HQ; (with_reducible refine HQ.mono ?_); clear HQ; rintro _ _ ⟨rfl, m4, rfl⟩))
            go_ret3
            exact fin_list HX.out (pw_below_drewN HB.out _)
          · obtain ⟨L, hL⟩ : ∃ L, L = longAt l a := ⟨_, rfl⟩
            rw [← hL] at hgt
            have hLL : 46 + n28 + n30 + n32 = (L : Int) := by rw [hL]; exact HLONG.out.symm
            have bL : L ≤ left := by omega
            have HLE := Aside0.mk hL
            have HLL := Aside0.mk hLL
            clear hL hgt
            obtain ⟨pl, hpl⟩ : ∃ pl, pl = (l.drop (a + 46)).take n28.toNat := ⟨_, rfl⟩
            have hpart : ZipPart.partOf l ((a : Int) + 46) n28 = (pl, 0) := by
              rw [ZipPart.partOf, if_pos (by omega), hpl]
              congr 2
            have HPL := Aside0.mk hpl
            have HPART := Aside0.mk hpart
            clear hpl hpart
            have hsums : 46 + n28 + n30 + n32 ≤ (left : Int) := by omega
            clear hLL
            go_wp2_with (first
              | (go_at_call 70; have HQ := num4 A0 c0 l (a : Int) a wr rfl HRR.out HC.out HL.out hlen (by omega); rw [← HX0.out] at HQ; (with_reducible refine HQ.mono ?_); clear HQ; rintro _ _ ⟨rfl, m1, rfl⟩)
              | (go_at_call 70; have HQ := num2 A0 c0 l ((a : Int) + 28) (a + 28) (wr.drewN (m1)) rfl (HRR.out.drewN (m1)) HC.out HL.out hlen (by omega); rw [← H28.out] at HQ; (with_reducible refine HQ.mono ?_); clear HQ; rintro _ _ ⟨rfl, m2, rfl⟩)
              | (go_at_call 70; have HQ := num2 A0 c0 l ((a : Int) + 30) (a + 30) (wr.drewN (m1 + m2)) rfl (HRR.out.drewN (m1 + m2)) HC.out HL.out hlen (by omega); rw [← H30.out] at HQ; (with_reducible refine HQ.mono ?_); clear HQ; rintro _ _ ⟨rfl, m3, rfl⟩)
              | (go_at_call 70; have HQ := num2 A0 c0 l ((a : Int) + 32) (a + 32) (wr.drewN (m1 + m2 + m3)) rfl (HRR.out.drewN (m1 + m2 + m3)) HC.out HL.out hlen (by omega); rw [← H32.out] at HQ; (with_reducible refine HQ.mono ?_); clear HQ; rintro _ _ ⟨rfl, m4, rfl⟩)
              | (go_at_call 71; have HQ := ZipPart.part_in A0 c0 l ((a : Int) + 46) n28 (wr.drewN (m1 + m2 + m3 + m4)) (HRR.out.drewN (m1 + m2 + m3 + m4)) HC.out (by omega) (by omega) (by omega) (by omega) (by omega); rw [HPART.out] at HQ; (with_reducible refine HQ.mono ?_); clear HQ; rintro _ W5 ⟨v5, rfl, ho, hb⟩; obtain ⟨A1, c1, rfl, -⟩ := own_reads ho; have HP5 := Aside0.mk ho; have HV5 := Aside0.mk (Kd.R_below (Kd.R_drewN HV.out (m1 + m2 + m3 + m4)) hb); have HB5 := Aside0.mk (below_then (pw_below_drewN HB.out (m1 + m2 + m3 + m4)) HB.out.size hb); have HK5 := Aside0.mk (blk_below (blk_drewN HK.out (m1 + m2 + m3 + m4)) hb); have HR5 := Aside0.mk ((HRR.out.drewN (m1 + m2 + m3 + m4)).below hb); clear ho hb hk30 hk31 hk32 hk33))
            obtain ⟨x10, h10⟩ : ∃ n, n = numAt l (a + 10) 2 := ⟨_, rfl⟩
            obtain ⟨x24, h24⟩ : ∃ n, n = numAt l (a + 24) 4 := ⟨_, rfl⟩
            obtain ⟨x20, h20⟩ : ∃ n, n = numAt l (a + 20) 4 := ⟨_, rfl⟩
            obtain ⟨x42, h42⟩ : ∃ n, n = numAt l (a + 42) 4 := ⟨_, rfl⟩
            obtain ⟨b10, d10⟩ : 0 ≤ x10 ∧ x10 < 65536 := h10 ▸ num2_lt l HL.out _
            obtain ⟨st, hst⟩ : ∃ s, s = strOfNums pl := ⟨_, rfl⟩
            have H10 := Aside0.mk h10
            have H24 := Aside0.mk h24
            have H20 := Aside0.mk h20
            have H42 := Aside0.mk h42
            have HST := Aside0.mk hst
            clear h10 h24 h20 h42 hst
            have K10 := Aside0.mk (fun (W : World) (hr : ReadsInt W .u8 A0 l.length l) => show Calls Try.prog 70 #[.slice A0 l.length c0, .int .u64 ((a : Int) + 10), .int .i64 2] W fun e w' => e = .returned (.int .u64 x10) ∧ ∃ m, w' = W.drewN m from H10.out ▸ num2 A0 c0 l ((a : Int) + 10) (a + 10) W rfl hr HC.out HL.out hlen (by omega))
            have K24 := Aside0.mk (fun (W : World) (hr : ReadsInt W .u8 A0 l.length l) => show Calls Try.prog 70 #[.slice A0 l.length c0, .int .u64 ((a : Int) + 24), .int .i64 4] W fun e w' => e = .returned (.int .u64 x24) ∧ ∃ m, w' = W.drewN m from H24.out ▸ num4 A0 c0 l ((a : Int) + 24) (a + 24) W rfl hr HC.out HL.out hlen (by omega))
            have K20 := Aside0.mk (fun (W : World) (hr : ReadsInt W .u8 A0 l.length l) => show Calls Try.prog 70 #[.slice A0 l.length c0, .int .u64 ((a : Int) + 20), .int .i64 4] W fun e w' => e = .returned (.int .u64 x20) ∧ ∃ m, w' = W.drewN m from H20.out ▸ num4 A0 c0 l ((a : Int) + 20) (a + 20) W rfl hr HC.out HL.out hlen (by omega))
            have K42 := Aside0.mk (fun (W : World) (hr : ReadsInt W .u8 A0 l.length l) => show Calls Try.prog 70 #[.slice A0 l.length c0, .int .u64 ((a : Int) + 42), .int .i64 4] W fun e w' => e = .returned (.int .u64 x42) ∧ ∃ m, w' = W.drewN m from H42.out ▸ num4 A0 c0 l ((a : Int) + 42) (a + 42) W rfl hr HC.out HL.out hlen (by omega))
            have HCV := Aside0.mk (fun (W : World) (h : W.ownsRow (wr.drewN (m1 + m2 + m3 + m4)).heap.size 5 1 (.slice A1 pl.length c1) pl.length (nums .u8 pl)) => show (convert 22 9 (.slice A1 pl.length c1)).run Try.prog W = .ok (.string st) W from HST.out ▸ conv_own h)
            have hcv5 := HCV.out W5 HP5.out
            have u10 : IntKind.u64.wrap ((a : Int) + 10) = (a : Int) + 10 := Buf.wrap_small _ (by omega) (by omega)
            have u24 : IntKind.u64.wrap ((a : Int) + 24) = (a : Int) + 24 := Buf.wrap_small _ (by omega) (by omega)
            have u20 : IntKind.u64.wrap ((a : Int) + 20) = (a : Int) + 20 := Buf.wrap_small _ (by omega) (by omega)
            have u42 : IntKind.u64.wrap ((a : Int) + 42) = (a : Int) + 42 := Buf.wrap_small _ (by omega) (by omega)
            have i10 : IntKind.i64.wrap x10 = x10 := by simp [IntKind.wrap, IntKind.bits, IntKind.signed]; omega
            go_region_held3 (fun w' => (convert 22 9 (.slice A1 pl.length c1)).run Try.prog w' = .ok (.string st) w') (first | exact HCV.out _ HP5.out | exact HCV.out _ (own_alloc (pw_own_drewN HP5.out (1 + q1 + q2 + q3 + q4)) _) | exact HCV.out _ HPW.out) (first
              | (go_at_call 70; (with_reducible refine (K10.out _ ?rd).mono ?_); (case rd => exact HR5.out); rintro _ _ ⟨rfl, q1, rfl⟩)
              | (go_at_call 70; (with_reducible refine (K24.out _ ?rd).mono ?_); (case rd => exact HR5.out); rintro _ _ ⟨rfl, q2, rfl⟩)
              | (go_at_call 70; (with_reducible refine (K20.out _ ?rd).mono ?_); (case rd => exact HR5.out); rintro _ _ ⟨rfl, q3, rfl⟩)
              | (go_at_call 70; (with_reducible refine (K42.out _ ?rd).mono ?_); (case rd => exact HR5.out); rintro _ _ ⟨rfl, q4, rfl⟩)
              | (refine Kd.R_append_step kE (w0 := w) (W := W5.drewN (1 + q1 + q2 + q3 + q4)) w.heap.size (by rfl) (.tmp 71) (.tmp 92) 23 32 (.agg #[.string ⟨#[]⟩, .int .i64 0, .int .u64 0, .int .u64 0, .int .u64 0]) 48 (by rfl) Try.underlying23 info32 rfl (by decide) (by decide) u7 rows (st, x10, x24, x20, x42) [.string st, .int .i64 x10, .int .u64 x24, .int .u64 x20, .int .u64 x42] (fun _ => True) (fun _ => False) (by rfl) (by rfl) (kE_M _ _ _ _ _ _ _ _) (fun _ h => h.elim) (fun _ _ => trivial) (Kd.R_drewN HV5.out _) (pw_below_drewN HB5.out _) HB5.out.size (by have := HRL.out; omega) ?_; intro v1 w1 hR1 hB1 hG1 hA1; have HPW := Aside0.mk (own_other (pw_own_drewN HP5.out (1 + q1 + q2 + q3 + q4)) hG1 (own_type_ne HP5.out (Kd.R_own HV5.out).choose_spec (by decide))); have HKW := Aside0.mk (blk_grown (blk_drewN HK5.out (1 + q1 + q2 + q3 + q4)) hG1 (Kd.R_ne HV5.out HK5.out (by decide))); have HVW := Aside0.mk hR1; have HBW := Aside0.mk hB1; clear hR1 hB1 hG1 hA1))
            clear u10 u24 u20 u42 i10 hcv5
            go_wp2
            go_roundw
            case rel =>
              have e1 : listFrom l (N - j) a left = (listFrom l (N - (j + 1)) (a + L) (left - L)).map (entAt l a :: ·) := by
                rw [HD.out, show N - (j + 1) = d by have := HD.out; omega, listFrom, if_neg (by rw [← HX0.out]; omega), ← HLE.out, if_neg (by omega)]
              have e2 : (acc ++ [entAt l a]).map eOf = rows ++ [(st, x10, x24, x20, x42)] := by
                rw [List.map_append, HROWS.out, HST.out, HPL.out, H10.out, H24.out, H20.out, H42.out, H28.out]
                rfl
              refine ⟨j + 1, a + L, left - L, acc ++ [entAt l a], by go_num, congrArg (Value.int IntKind.u64) (by have := HLL.out; omega), congrArg (Value.int IntKind.u64) (by have := HLL.out; omega), by omega, by omega, by rw [List.length_append, List.length_singleton, HACC.out], ?_, ?_, ?_, ?_⟩
              · rw [e2]
                exact HVW.out
              · exact HBW.out
              · exact HKW.out
              · rw [HE.out, e1, Option.map_map]
                congr 1
                funext r
                simp
            case measure => simp [intOf]; omega
        · have hres := HNONE.out (by rw [listFrom, if_pos (.inr (by rw [← HX0.out]; exact hmk))])
          have HX := Aside0.mk hres
          have hne : (x0 != 33639248) = true := by simpa using hmk
          clear hres hmk hx0
          go_wp2_with ((go_at_call 70; have HQ := num4 A0 c0 l (a : Int) a wr rfl HRR.out HC.out HL.out hlen (by omega); rw [← HX0.out] at HQ; (with_reducible refine HQ.mono ?_); clear HQ; rintro _ _ ⟨rfl, m1, rfl⟩))
          go_ret3
          exact fin_list HX.out (pw_below_drewN HB.out _)
      · obtain rfl : j = N := by omega
        have h0 : j - j = 0 := by omega
        by_cases hl0 : left = 0
        · subst hl0
          have hres : R = (rows, (C : Int), 0) := by
            rw [HRES.out, HE.out, h0, HROWS.out]
            simp [listFrom]
          have HX := Aside0.mk hres
          clear hres h0 hlt hj
          go_wp2
          go_quiet (fail)
          go_wp2
          go_ret3
          rw [HX.out]
          exact ⟨_, rfl, Kd.R_drewN HV.out _, pw_below_drewN HB.out _⟩
        · have hres : R = ([], 0, 70) := by
            rw [HRES.out, HE.out, h0, listFrom, if_neg hl0]
            rfl
          have HX := Aside0.mk hres
          have hne : ((left : Int) != 0) = true := by simpa using hl0
          clear hres h0 hlt hj hl0
          go_wp2
          go_ret3
          exact fin_list HX.out HB.out
end Go.Proofs.Ytmpahimeljbliaa.ZipWalk
