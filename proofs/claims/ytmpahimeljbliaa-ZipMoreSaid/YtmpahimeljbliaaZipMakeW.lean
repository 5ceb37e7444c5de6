/- zip.Make: the archive of these files, or the error: the walk. No condition but that the argument is a slice of files. -/
import Derived.Test.YtmpahimeljbliaaZipMake
import Derived.Lib.Strings
namespace Go.Proofs.Ytmpahimeljbliaa.ZipWalk
open Go.RowKit Go.Proofs Go.Proofs.Ytmpahimeljbliaa.Buf Go.Proofs.YtmpahimeljbliaaW.PrintWords Go.Proofs.YtmpahimeljbliaaW.PrintLast Go.Proofs.YtmpahimeljbliaaW.PrintMore
open ZipPure (partsOf makeOf padOf localOf centralOf)

theorem fin_err {w W : World} {P : List Int × Int} {n : Int} (h : P = ([], n)) (hb : Below w.heap.size w W) : ∃ v, Ending.returned (.tuple #[.slice none 0 0, .int .i64 n]) = .returned (.tuple #[v, .int .i64 P.2]) ∧ W.ownsRow w.heap.size 5 1 v P.1.length (nums .u8 P.1) ∧ Below w.heap.size w W := by
  subst h
  exact ⟨_, rfl, World.ownsRow_nil _ _ _ _, hb⟩
theorem fin_ok {w W : World} {P : List Int × Int} {X : List Int} {v : Value} (h : P = (X, 0)) (ho : W.ownsRow w.heap.size 5 1 v X.length (nums .u8 X)) (hb : Below w.heap.size w W) : ∃ v1, Ending.returned (.tuple #[v, .int .i64 0]) = .returned (.tuple #[v1, .int .i64 P.2]) ∧ W.ownsRow w.heap.size 5 1 v1 P.1.length (nums .u8 P.1) ∧ Below w.heap.size w W := by
  subst h
  exact ⟨_, rfl, ho, hb⟩
theorem empty_size {s : ByteArray} (h : s.toList = []) : s.size = 0 := by
  rw [Lib.toList_data] at h
  rw [Lib.size_eq, h]
  rfl
theorem full_size {s : ByteArray} (h : ¬ s.toList = []) : s.size ≠ 0 := by
  rw [Lib.toList_data] at h
  rw [Lib.size_eq]
  exact fun e => h (List.eq_nil_of_length_eq_zero e)
theorem bad_size {s : ByteArray} (h : ¬ s.toList = []) (h2 : s.toList.isEmpty = true ∨ 256 < (s.size : Int)) : s.size = 0 ∨ 256 < s.size := by
  rcases h2 with h2 | h2
  · exact absurd (List.isEmpty_iff.1 h2) h
  · exact .inr (by omega)
theorem pad_int (a b : Nat) : -(((a : Int) + 30 + (b : Int)) % 256) % 256 = ((padOf a b : Nat) : Int) := by unfold padOf; omega

theorem local_bound (F : List Int) (s : ByteArray) (ys : List Int) (n : Nat) (h1 : F.length ≤ 262144) (h2 : s.size ≤ 256) (h3 : ys.length ≤ 262144) (h4 : n < 256) : (F ++ localOf (bytesOf s, ys) n).length ≤ 1000000 := by
  have := bytesOf_length s
  rw [List.length_append, ZipPure.local_len]
  simp only [this]
  omega
theorem central_bound (C : List Int) (s : ByteArray) (ys : List Int) (n : Nat) (h1 : C.length ≤ 262144) (h2 : s.size ≤ 256) : (C ++ centralOf (bytesOf s, ys) n).length ≤ 1000000 := by
  have := bytesOf_length s
  rw [List.length_append, ZipPure.central_len]
  simp only [this]
  omega

set_option maxRecDepth 100000 in
set_option maxHeartbeats 2000000 in
theorem make_in (A0 : Option Addr) (c0 : Nat) (l : List (ByteArray × List Int)) (w : World) (hr : kF.C w A0 l.length l) (hlen : l.length ≤ 140737488355328) :
    Calls Try.prog 20 #[.slice A0 l.length c0] w fun e w' => ∃ v, e = .returned (.tuple #[v, .int .i64 (makeOf (l.map fOf)).2]) ∧ w'.ownsRow w.heap.size 5 1 v (makeOf (l.map fOf)).1.length (nums .u8 (makeOf (l.map fOf)).1) ∧ Below w.heap.size w w' := by
  have HR := Aside0.mk hr
  clear hr
  by_cases hmany : 256 < l.length
  · have hm : makeOf (l.map fOf) = ([], 68) := if_pos (by simpa using hmany)
    rw [hm]
    clear hm
    go_enter Try.func20, Try.ntmps20
    go_wp2
    go_ret2
    exact ⟨_, rfl, World.ownsRow_nil _ _ _ _, Below.refl _ _⟩
  · have hm : makeOf (l.map fOf) = if (partsOf (l.map fOf) [] []).2 ≠ 0 then ([], (partsOf (l.map fOf) [] []).2) else ((partsOf (l.map fOf) [] []).1.1 ++ ((partsOf (l.map fOf) [] []).1.2 ++ ZipPure.rowOf (ZipPure.endRow (l.map fOf).length (partsOf (l.map fOf) [] []).1.2.length (partsOf (l.map fOf) [] []).1.1.length)), 0) := if_neg (by simpa using hmany)
    rw [List.length_map] at hm
    have HM := Aside0.mk hm
    clear hm
    obtain ⟨P, hP⟩ : ∃ P, P = makeOf (l.map fOf) := ⟨_, rfl⟩
    rw [← hP]
    have HP := Aside0.mk hP
    clear hP
    have cn : IntKind.u16.wrap (l.length : Int) = (l.length : Int) := by simp [IntKind.wrap, IntKind.bits, IntKind.signed]; omega
    go_enter Try.func20, Try.ntmps20
    go_wp2_with (go_at_call 43; refine (new_calls _ _ (Nat.le_refl _)).mono ?_; rintro _ _ ⟨rfl, -, rfl⟩)
    go_loopw [18] (fun i wr => ∃ (k : Nat) (vf vc : Value) (F C : List Int), i = .int .i64 (k : Int) ∧ k ≤ l.length ∧ Two w wr w.heap.size (w.heap.size + 1) vf vc F C ∧ partsOf ((l.map fOf).drop k) F C = partsOf (l.map fOf) [] [] ∧ F.length + C.length + 22 ≤ 262144) (fun i _ => l.length - (intOf i).toNat)
    case atStart => exact ⟨0, _, _, [], [], rfl, Nat.zero_le _, by simpa using Two.start w, rfl, by simp⟩
    case round =>
      obtain ⟨k, vf, vc, F, C, rfl, hk, hT, hE, hFC⟩ := hrel
      have HT := Aside0.mk hT
      have HE := Aside0.mk hE
      have HFC := Aside0.mk hFC
      clear hT hE hFC
      by_cases hlt : k < l.length
      · obtain ⟨ad, s, A1, c1, ys, rfl, hat, hq0, hq1, hle, hrd⟩ := file_at HR.out k hlt
        have hq0 := cell_two hq0 HT.out.lf.bel
        have hq1 := cell_two hq1 HT.out.lf.bel
        have hf : (l.map fOf)[k]? = some (bytesOf s, ys) := by rw [List.getElem?_map, hat]; rfl
        have hb40 : s.size = 0 ∨ 256 < s.size → P = ([], 40) := by
          intro hs
          rw [HP.out, HM.out, ← HE.out, parts_bad _ k _ F C hf (by rw [show ((bytesOf s, ys) : ZipPure.F).1.length = s.size from bytesOf_length s]; omega)]
          rfl
        have hb67 : s.size ≠ 0 → s.size ≤ 256 → 262144 < ys.length → P = ([], 67) := by
          intro hs hs2 hy
          rw [HP.out, HM.out, ← HE.out, parts_big _ k _ F C hf (by rw [show ((bytesOf s, ys) : ZipPure.F).1.length = s.size from bytesOf_length s]; omega) (by rw [show ((bytesOf s, ys) : ZipPure.F).1.length = s.size from bytesOf_length s]; omega) hy]
          rfl
        have hgo : s.size ≠ 0 → s.size ≤ 256 → ys.length ≤ 262144 → partsOf ((l.map fOf).drop k) F C = if (F ++ localOf (bytesOf s, ys) (padOf F.length s.size)).length + (C ++ centralOf (bytesOf s, ys) F.length).length + 22 > 262144 then (([], []), 67) else partsOf ((l.map fOf).drop (k + 1)) (F ++ localOf (bytesOf s, ys) (padOf F.length s.size)) (C ++ centralOf (bytesOf s, ys) F.length) := by
          intro hs hs2 hy
          have := parts_next _ k _ F C hf (by rw [show ((bytesOf s, ys) : ZipPure.F).1.length = s.size from bytesOf_length s]; omega) (by rw [show ((bytesOf s, ys) : ZipPure.F).1.length = s.size from bytesOf_length s]; omega) hy
          rwa [show ((bytesOf s, ys) : ZipPure.F).1.length = s.size from bytesOf_length s] at this
        have HB40 := Aside0.mk hb40
        have HB67 := Aside0.mk hb67
        have HGO := Aside0.mk hgo
        have HRD := Aside0.mk hrd
        have hpl : padOf F.length s.size < 256 := by unfold padOf; omega
        have HPL := Aside0.mk hpl
        have T0 := Aside0.mk (TB.mk_new HT.out (.cells #[.string s, .slice A1 ys.length c1] 50))
        clear hf hrd hat hb40 hb67 hgo hpl
        have hF : F.length ≤ 262144 := by have := HFC.out; omega
        have hC : C.length ≤ 262144 := by have := HFC.out; omega
        by_cases hs : 256 < s.size
        · go_wp2
          · go_ret2
            exact fin_err (HB40.out (.inr hs)) T0.out.two.lf.bel
          · go_ret2
            exact fin_err (HB40.out (.inr hs)) T0.out.two.lf.bel
        have hs2 : s.size ≤ 256 := by omega
        clear hs
        go_wp2_with (first
          | (go_at_call 44; refine (len_same w.heap.size w.heap.size _ _ _ T0.out.two.lf.buf).mono ?_; rintro _ _ ⟨rfl, rfl⟩)
          | (go_at_call 45; rw [pad_int F.length s.size]; refine (local_calls w _ w.heap.size _ _ s A1 c1 ys (padOf F.length s.size) T0.out.two.lf HRD.out (by omega) (by omega) HPL.out (by have := HFC.out; omega)).mono ?_; rintro _ W1 ⟨⟨u1, rfl⟩, v1, h1, h2⟩; obtain ⟨F1, hF1⟩ : ∃ x, x = F ++ localOf (bytesOf s, ys) (padOf F.length s.size) := ⟨_, rfl⟩; have bF1 : (F1.length : Int) ≤ 1000000 := Int.ofNat_le.2 (by rw [hF1]; exact local_bound F s ys _ hF hs2 (by omega) HPL.out); rw [← hF1] at h1; have EF := Aside0.mk hF1; have T1 := Aside0.mk (T0.out.stepF h1 h2); clear h1 h2 hF1; have hd1 : World.cell? W1 ⟨wr.heap.size, 0, none⟩ = some (.string s) := (blk_cell T1.out.kf.blk 0).trans rfl; have he1 : World.cell? W1 ⟨wr.heap.size, 1, none⟩ = some (.slice A1 ys.length c1) := (blk_cell T1.out.kf.blk 1).trans rfl)
          | (go_at_call 46; refine (central_calls w _ (w.heap.size + 1) _ _ s A1 c1 ys F.length T1.out.two.lc (by omega) (by omega) (by have := HFC.out; omega) (by have := HFC.out; omega)).mono ?_; rintro _ W2 ⟨⟨u2, rfl⟩, v2, h1, h2⟩; obtain ⟨C1, hC1⟩ : ∃ x, x = C ++ centralOf (bytesOf s, ys) F.length := ⟨_, rfl⟩; have bC1 : (C1.length : Int) ≤ 1000000 := Int.ofNat_le.2 (by rw [hC1]; exact central_bound C s ys _ hC hs2); rw [← hC1] at h1; have EC := Aside0.mk hC1; have T2 := Aside0.mk (T1.out.stepC h1 h2); clear h1 h2 hC1)
          | (go_at_call 44; refine (len_same w.heap.size w.heap.size _ _ _ T2.out.two.lf.buf).mono ?_; rintro _ _ ⟨rfl, rfl⟩; obtain ⟨nF, gF⟩ : ∃ n : Int, n = (F1.length : Int) := ⟨_, rfl⟩; rw [← gF]; have bnF : 0 ≤ nF ∧ nF ≤ 1000000 := (by omega); have GF := Aside0.mk gF; clear gF)
          | (go_at_call 44; refine (len_same w.heap.size (w.heap.size + 1) _ _ _ T2.out.two.lc.buf).mono ?_; rintro _ _ ⟨rfl, rfl⟩; obtain ⟨nC, gC⟩ : ∃ n : Int, n = (C1.length : Int) := ⟨_, rfl⟩; rw [← gC]; have bnC : 0 ≤ nC ∧ nC ≤ 1000000 := (by omega); have GC := Aside0.mk gC; clear gC))
        · go_ret2
          exact fin_err (HB40.out (.inl (empty_size (by assumption)))) T0.out.two.lf.bel
        · go_ret2
          exact fin_err (HB40.out (bad_size (by assumption) (by assumption))) T0.out.two.lf.bel
        · go_ret2
          have h1 : ¬ s.toList = [] := by assumption
          have h2 : s.toList.isEmpty = false ∧ (s.size : Int) ≤ 256 := by assumption
          exact fin_err (HB67.out (full_size h1) (by omega) (by omega)) T0.out.two.lf.bel
        · go_ret2
          have h1 : ¬ s.toList = [] := by assumption
          have h2 : s.toList.isEmpty = false ∧ (s.size : Int) ≤ 256 := by assumption
          have h3 : 262144 < nF + nC + 22 := by assumption
          rw [GF.out, GC.out] at h3
          refine fin_err ?_ T2.out.two.lf.bel
          have hg := HGO.out (full_size h1) (by omega) (by omega)
          rw [← EF.out, ← EC.out, if_pos (by omega)] at hg
          rw [HP.out, HM.out, ← HE.out, hg]
          rfl
        · go_roundw
          case rel =>
            have h1 : ¬ s.toList = [] := by assumption
            have h2 : s.toList.isEmpty = false ∧ (s.size : Int) ≤ 256 := by assumption
            have h3 : nF + nC + 22 ≤ 262144 := by assumption
            rw [GF.out, GC.out] at h3
            have hg := HGO.out (full_size h1) (by omega) (by omega)
            rw [← EF.out, ← EC.out, if_neg (by omega)] at hg
            exact ⟨k + 1, _, _, F1, C1, by go_num, by omega, T2.out.two, by rw [← HE.out, hg], by omega⟩
          case measure => simp [intOf]; omega
      · obtain rfl : k = l.length := by omega
        have hr0 : partsOf (l.map fOf) [] [] = ((F, C), 0) := by
          rw [← HE.out, List.drop_of_length_le (by rw [List.length_map]; exact Nat.le_refl _)]
          rfl
        have hP : P = (F ++ (C ++ ZipPure.rowOf (ZipPure.endRow l.length C.length F.length)), 0) := by
          rw [HP.out, HM.out, hr0]
          rfl
        have HPE := Aside0.mk hP
        have hF : F.length ≤ 262144 := by have := HFC.out; omega
        have hC : C.length ≤ 262144 := by have := HFC.out; omega
        have cF : (F.length : Int) % 4294967296 = (F.length : Int) := by omega
        have cC : (C.length : Int) % 4294967296 = (C.length : Int) := by omega
        clear hr0 hP
        go_wp2_with (first
          | (go_at_call 44; refine (len_same w.heap.size w.heap.size _ _ _ HT.out.lf.buf).mono ?_; rintro _ _ ⟨rfl, rfl⟩)
          | (go_at_call 48; refine (bytes_calls w.heap.size (w.heap.size + 1) _ _ _ HT.out.lc.buf HT.out.le (by have := HFC.out; omega)).mono ?_; rintro _ W1 ⟨u1, rfl, h1, h2⟩; obtain ⟨A1, c1, rfl, h3⟩ := own_reads h1; have T1 := Aside0.mk (HT.out.far h2); have R1 := Aside0.mk h3; clear h1 h2 h3)
          | (go_at_call 47; refine (raw_calls w.heap.size w.heap.size _ _ A1 c1 C _ T1.out.lf.buf T1.out.le R1.out (by have := HFC.out; omega)).mono ?_; rintro _ W2 ⟨⟨u2, rfl⟩, v2, h1, h2⟩; have T2 := Aside0.mk (T1.out.stepF h1 h2); have N2 := Aside0.mk (raw_len F C F.length C.length (Nat.le_refl _) (Nat.le_refl _)); clear h1 h2)
          | (go_at_call 49; refine (put32_calls w.heap.size w.heap.size _ _ 101010256 _ T2.out.lf.buf T2.out.le (by have := N2.out; omega) (by omega) (by omega)).mono ?_; rintro _ W3 ⟨⟨u3, rfl⟩, v3, h1, h2⟩; have T3 := Aside0.mk (T2.out.stepF h1 h2); have N3 := Aside0.mk (put_len _ 101010256 4 _ N2.out); clear h1 h2)
          | (go_at_call 49; refine (put32_calls w.heap.size w.heap.size _ _ 0 _ T3.out.lf.buf T3.out.le (by have := N3.out; omega) (by omega) (by omega)).mono ?_; rintro _ W4 ⟨⟨u4, rfl⟩, v4, h1, h2⟩; have T4 := Aside0.mk (T3.out.stepF h1 h2); have N4 := Aside0.mk (put_len _ 0 4 _ N3.out); clear h1 h2)
          | (go_at_call 50; (try rw [cn]); refine (put16_calls w.heap.size w.heap.size _ _ l.length _ T4.out.lf.buf T4.out.le (by have := N4.out; omega) (by omega) (by omega)).mono ?_; rintro _ W5 ⟨⟨u5, rfl⟩, v5, h1, h2⟩; have T5 := Aside0.mk (T4.out.stepF h1 h2); have N5 := Aside0.mk (put_len _ l.length 2 _ N4.out); clear h1 h2)
          | (go_at_call 50; (try rw [cn]); refine (put16_calls w.heap.size w.heap.size _ _ l.length _ T5.out.lf.buf T5.out.le (by have := N5.out; omega) (by omega) (by omega)).mono ?_; rintro _ W6 ⟨⟨u6, rfl⟩, v6, h1, h2⟩; have T6 := Aside0.mk (T5.out.stepF h1 h2); have N6 := Aside0.mk (put_len _ l.length 2 _ N5.out); clear h1 h2)
          | (go_at_call 44; refine (len_same w.heap.size (w.heap.size + 1) _ _ _ T6.out.lc.buf).mono ?_; rintro _ _ ⟨rfl, rfl⟩)
          | (go_at_call 49; (try rw [cC]); refine (put32_calls w.heap.size w.heap.size _ _ C.length _ T6.out.lf.buf T6.out.le (by have := N6.out; omega) (by omega) (by omega)).mono ?_; rintro _ W7 ⟨⟨u7, rfl⟩, v7, h1, h2⟩; have T7 := Aside0.mk (T6.out.stepF h1 h2); have N7 := Aside0.mk (put_len _ C.length 4 _ N6.out); clear h1 h2)
          | (go_at_call 49; (try rw [cF]); refine (put32_calls w.heap.size w.heap.size _ _ F.length _ T7.out.lf.buf T7.out.le (by have := N7.out; omega) (by omega) (by omega)).mono ?_; rintro _ W8 ⟨⟨u8, rfl⟩, v8, h1, h2⟩; have T8 := Aside0.mk (T7.out.stepF h1 h2); have N8 := Aside0.mk (put_len _ F.length 4 _ N7.out); clear h1 h2)
          | (go_at_call 50; refine (put16_calls w.heap.size w.heap.size _ _ 0 _ T8.out.lf.buf T8.out.le (by have := N8.out; omega) (by omega) (by omega)).mono ?_; rintro _ W9 ⟨⟨u9, rfl⟩, v9, h1, h2⟩; have T9 := Aside0.mk (T8.out.stepF h1 h2); have N9 := Aside0.mk (put_len _ 0 2 _ N8.out); clear h1 h2)
          | (go_at_call 48; have hB := T9.out.lf.buf; have hN := N9.out; obtain ⟨X, hX⟩ : ∃ X, X = F ++ C ++ Buf.putBytes 101010256 4 ++ Buf.putBytes 0 4 ++ Buf.putBytes l.length 2 ++ Buf.putBytes l.length 2 ++ Buf.putBytes C.length 4 ++ Buf.putBytes F.length 4 ++ Buf.putBytes 0 2 := ⟨_, rfl⟩; have hX2 : F ++ (C ++ ZipPure.rowOf (ZipPure.endRow l.length C.length F.length)) = X := (by rw [hX]; simp [put_same, ZipPure.rowOf, ZipPure.endRow, List.append_assoc]); rw [← hX] at hB hN; have EX := Aside0.mk hX2; clear hX hX2; have NX := Aside0.mk hN; clear hN; refine (bytes_calls w.heap.size w.heap.size _ _ _ hB T9.out.le (by have := NX.out; omega)).mono ?_; rintro _ Wz ⟨uz, rfl, h1, h2⟩; obtain ⟨Az, cz, rfl, h3⟩ := own_reads h1; have OZ := Aside0.mk h1; have TZ := Aside0.mk (T9.out.far h2); have LZ := Aside0.mk T9.out.le; clear h1 h2 h3 hB))
        go_ret2
        refine fin_ok (HPE.out.trans (by rw [← EX.out])) (own_less OZ.out LZ.out) TZ.out.lf.bel
end Go.Proofs.Ytmpahimeljbliaa.ZipWalk
