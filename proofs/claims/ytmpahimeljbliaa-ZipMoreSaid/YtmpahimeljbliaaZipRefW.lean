/- messuageref07.Make: the archive of these files, or the error: the walk. No condition but that the argument is a slice of files. -/
import Derived.Test.YtmpahimeljbliaaZipRef
import Derived.Test.YtmpahimeljbliaaZipMakeW
import Derived.Deep.QuietTactic
import Derived.BigQuiet
namespace Go.Proofs.Ytmpahimeljbliaa.ZipWalk
open Go.RowKit Go.Proofs Go.Proofs.Ytmpahimeljbliaa.Buf Go.Proofs.YtmpahimeljbliaaW.PrintWords Go.Proofs.YtmpahimeljbliaaW.PrintLast Go.Proofs.YtmpahimeljbliaaW.PrintMore
open ZipPure (partsOf makeOf padOf localOf centralOf)

theorem RB.start (w : World) (g : Nat) (o : Obj) (h : w.heap[g]? = some o) : RB w w (.slice none 0 0) (.slice none 0 0) [] [] g o :=
  ⟨World.ownsRow_nil _ _ _ _, World.ownsRow_nil _ _ _ _, Below.refl _ _, fun k hk => by simp [Value.ownBlock] at hk, h, by simp [Value.ownBlock], by simp [Value.ownBlock]⟩
/-- The two rows alone. -/
structure RT (w0 W : World) (vb vc : Value) (B C : List Int) : Prop where
  b : W.ownsRow w0.heap.size 5 1 vb B.length (nums .u8 B)
  c : W.ownsRow w0.heap.size 5 1 vc C.length (nums .u8 C)
  bel : Below w0.heap.size w0 W
  sep : ∀ k, vb.ownBlock = some k → vc.ownBlock ≠ some k
theorem RT.le {w0 W : World} {vb vc : Value} {B C : List Int} (h : RT w0 W vb vc B C) : w0.heap.size ≤ W.heap.size := h.bel.size
theorem RB.rt {w0 W : World} {vb vc : Value} {B C : List Int} {g : Nat} {o : Obj} (h : RB w0 W vb vc B C g o) : RT w0 W vb vc B C := ⟨h.b, h.c, h.bel, h.sep⟩
theorem RT.new {w0 W : World} {vb vc : Value} {B C : List Int} (h : RT w0 W vb vc B C) (o : Obj) (m : Nat) : RB w0 ((W.alloc o).drewN m) vb vc B C W.heap.size o :=
  have hb : Below W.heap.size W ((W.alloc o).drewN m) := pw_below_drewN (below_alloc (Below.refl _ _) o) m
  ⟨pw_own_below h.b hb, pw_own_below h.c hb, below_then h.bel h.le hb, h.sep, blk_drewN (blk_new W o) m, fun e => by have := own_lt h.b _ e; omega, fun e => by have := own_lt h.c _ e; omega⟩
theorem RT.stepB {w0 W W' : World} {vb vb' vc : Value} {B B' C : List Int} (h : RT w0 W vb vc B C) (ho : W'.ownsRow w0.heap.size 5 1 vb' B'.length (nums .u8 B')) (hb : Below w0.heap.size w0 W') (hk : Kept W W' (fun k => vb.ownBlock = some k))
    (hat : ∀ k, vb'.ownBlock = some k → vb.ownBlock = some k ∨ W.heap.size ≤ k) : RT w0 W' vb' vc B' C := by
  refine ⟨ho, own_move h.c (fun k hk' => hk.2 k (own_lt h.c k hk') (fun e => h.sep k e hk')), hb, fun k e e' => ?_⟩
  have := own_lt h.c k e'
  rcases hat k e with q | q
  · exact h.sep k q e'
  · omega
theorem RT.start (w : World) : RT w w (.slice none 0 0) (.slice none 0 0) [] [] :=
  ⟨World.ownsRow_nil _ _ _ _, World.ownsRow_nil _ _ _ _, Below.refl _ _, fun k hk => by simp [Value.ownBlock] at hk⟩
theorem pad_eq (a b j : Nat) (hj : j ≤ padOf a b) (h : (a + 30 + b + j) % 256 = 0) : j = padOf a b := by unfold padOf at hj ⊢; omega
theorem pad_ne (a b j : Nat) (hj : j ≤ padOf a b) (h : (a + 30 + b + j) % 256 ≠ 0) : j < padOf a b := by unfold padOf at hj ⊢; omega
theorem u64_len (n : Nat) (h : n ≤ 1000000) : IntKind.u64.wrap (n : Int) = (n : Int) := Buf.wrap_small _ (by omega) (by omega)
theorem len_form {w0 W : World} {v : Value} {B : List Int} (h : W.ownsRow w0.heap.size 5 1 v B.length (nums .u8 B)) : ∃ A c, v = .slice A B.length c := by
  obtain ⟨A, c, e, -⟩ := own_reads h
  exact ⟨A, c, e⟩

set_option maxRecDepth 100000 in
set_option maxHeartbeats 2000000 in
theorem ref_in (A0 : Option Addr) (c0 : Nat) (l : List (ByteArray × List Int)) (w : World) (hr : kF.C w A0 l.length l) (hlen : l.length ≤ 140737488355328) :
    Calls Try.prog 21 #[.slice A0 l.length c0] w fun e w' => ∃ v, e = .returned (.tuple #[v, .int .i64 (makeOf (l.map fOf)).2]) ∧ w'.ownsRow w.heap.size 5 1 v (makeOf (l.map fOf)).1.length (nums .u8 (makeOf (l.map fOf)).1) ∧ Below w.heap.size w w' := by
  have HR := Aside0.mk hr
  clear hr
  by_cases hmany : 256 < l.length
  · have hm : makeOf (l.map fOf) = ([], 68) := if_pos (by simpa using hmany)
    rw [hm]
    clear hm
    go_enter Try.func21, Try.ntmps21
    go_wp2
    go_ret2
    exact ⟨_, rfl, World.ownsRow_nil _ _ _ _, Below.refl _ _⟩
  · have hm : makeOf (l.map fOf) = if (partsOf (l.map fOf) [] []).2 ≠ 0 then ([], (partsOf (l.map fOf) [] []).2) else ((partsOf (l.map fOf) [] []).1.1 ++ ((partsOf (l.map fOf) [] []).1.2 ++ ZipPure.rowOf (ZipPure.endRow (l.map fOf).length (partsOf (l.map fOf) [] []).1.2.length (partsOf (l.map fOf) [] []).1.1.length)), 0) := if_neg (by simpa using hmany)
    rw [List.length_map] at hm
    have HM := Aside0.mk hm
    clear hm
    obtain ⟨P, hP⟩ : ∃ P, P = makeOf (l.map fOf) := ⟨_, rfl⟩
    rw [← hP]
    have HP := Aside0.mk hP
    clear hP
    have cn := u64_len l.length (by omega)
    go_enter Try.func21, Try.ntmps21
    go_wp2
    go_loopw [4, 5, 6] (fun vb vc i wr => ∃ (k : Nat) (B C : List Int), i = .int .i64 (k : Int) ∧ k ≤ l.length ∧ RT w wr vb vc B C ∧ partsOf ((l.map fOf).drop k) B C = partsOf (l.map fOf) [] [] ∧ B.length + C.length + 22 ≤ 262144) (fun _ _ i _ => l.length - (intOf i).toNat)
    case atStart => exact ⟨0, [], [], rfl, Nat.zero_le _, RT.start w, rfl, by simp⟩
    case round =>
      obtain ⟨k, B, C, rfl, hk, hT, hE, hFC⟩ := hrel
      obtain ⟨Ab, cb, rfl⟩ := len_form hT.b
      obtain ⟨Ac, cc, rfl⟩ := len_form hT.c
      have HT := Aside0.mk hT
      have HE := Aside0.mk hE
      have HFC := Aside0.mk hFC
      clear hT hE hFC
      have hF : B.length ≤ 262144 := by have := HFC.out; omega
      have hC : C.length ≤ 262144 := by have := HFC.out; omega
      by_cases hlt : k < l.length
      · obtain ⟨ad, s, A1, c1, ys, rfl, hat, hq0, hq1, hle, hrd⟩ := file_at HR.out k hlt
        have hq0 := cell_two hq0 HT.out.bel
        have hq1 := cell_two hq1 HT.out.bel
        have hf : (l.map fOf)[k]? = some (bytesOf s, ys) := by rw [List.getElem?_map, hat]; rfl
        have hb40 : s.size = 0 ∨ 256 < s.size → P = ([], 40) := by
          intro hs
          rw [HP.out, HM.out, ← HE.out, parts_bad _ k _ B C hf (by rw [show ((bytesOf s, ys) : ZipPure.F).1.length = s.size from bytesOf_length s]; omega)]
          rfl
        have hb67 : s.size ≠ 0 → s.size ≤ 256 → 262144 < ys.length → P = ([], 67) := by
          intro hs hs2 hy
          rw [HP.out, HM.out, ← HE.out, parts_big _ k _ B C hf (by rw [show ((bytesOf s, ys) : ZipPure.F).1.length = s.size from bytesOf_length s]; omega) (by rw [show ((bytesOf s, ys) : ZipPure.F).1.length = s.size from bytesOf_length s]; omega) hy]
          rfl
        have hgo : s.size ≠ 0 → s.size ≤ 256 → ys.length ≤ 262144 → partsOf ((l.map fOf).drop k) B C = if (B ++ localOf (bytesOf s, ys) (padOf B.length s.size)).length + (C ++ centralOf (bytesOf s, ys) B.length).length + 22 > 262144 then (([], []), 67) else partsOf ((l.map fOf).drop (k + 1)) (B ++ localOf (bytesOf s, ys) (padOf B.length s.size)) (C ++ centralOf (bytesOf s, ys) B.length) := by
          intro hs hs2 hy
          have := parts_next _ k _ B C hf (by rw [show ((bytesOf s, ys) : ZipPure.F).1.length = s.size from bytesOf_length s]; omega) (by rw [show ((bytesOf s, ys) : ZipPure.F).1.length = s.size from bytesOf_length s]; omega) hy
          rwa [show ((bytesOf s, ys) : ZipPure.F).1.length = s.size from bytesOf_length s] at this
        have HB40 := Aside0.mk hb40
        have HB67 := Aside0.mk hb67
        have HGO := Aside0.mk hgo
        have HRD := Aside0.mk hrd
        have hpl : padOf B.length s.size < 256 := by unfold padOf; omega
        have HPL := Aside0.mk hpl
        have R0 := Aside0.mk (HT.out.new (.cells #[.string s, .slice A1 ys.length c1] 108) 0).bel
        clear hf hrd hat hb40 hb67 hgo hpl
        by_cases hs : 256 < s.size
        · go_wp2
          · go_ret2
            exact fin_err (HB40.out (.inr hs)) R0.out
          · go_ret2
            exact fin_err (HB40.out (.inr hs)) R0.out
        have hs2 : s.size ≤ 256 := by omega
        clear hs
        by_cases hy : 262144 < ys.length
        · go_wp2
          · go_ret2
            exact fin_err (HB40.out (.inl (empty_size (by assumption)))) R0.out
          · go_ret2
            exact fin_err (HB40.out (bad_size (by assumption) (by assumption))) R0.out
          · go_ret2
            exact fin_err (HB67.out (full_size (by assumption)) hs2 hy) R0.out
        have hy2 : ys.length ≤ 262144 := by omega
        clear hy
        go_wp2
        · go_ret2
          exact fin_err (HB40.out (.inl (empty_size (by assumption)))) R0.out
        · go_ret2
          exact fin_err (HB40.out (bad_size (by assumption) (by assumption))) R0.out
        have h1 : ¬ s.toList = [] := by assumption
        have HS := Aside0.mk (full_size h1)
        clear h1
        have uB := u64_len B.length (by omega)
        have uS := u64_len s.size (by omega)
        have uY := u64_len ys.length (by omega)
        go_quiet (fail)
        clear uB uS uY
        have T0 := Aside0.mk (HT.out.new (.cells #[.string s, .slice A1 ys.length c1] 108) nq)
        obtain ⟨g, hg⟩ : ∃ g, g = wr.heap.size := ⟨_, rfl⟩
        obtain ⟨Wq, hWq⟩ : ∃ W, W = (wr.alloc (.cells #[.string s, .slice A1 ys.length c1] 108)).drewN nq := ⟨_, rfl⟩
        rw [← hg, ← hWq] at T0
        rw [← hg, ← hWq]
        have S0 := T0
        clear T0 hg hWq
        have hd0 : World.cell? Wq ⟨g, 0, none⟩ = some (.string s) := (blk_cell S0.out.blk 0).trans rfl
        have he0 : World.cell? Wq ⟨g, 1, none⟩ = some (.slice A1 ys.length c1) := (blk_cell S0.out.blk 1).trans rfl
        go_wp2
        go_loop [11] (fun p => ∃ j : Nat, p = .int .u64 (j : Int) ∧ j ≤ padOf B.length s.size) (fun p => 256 - (intOf p).toNat)
        case atStart => exact ⟨0, rfl, Nat.zero_le _⟩
        case round =>
          obtain ⟨j, rfl, hj⟩ := hrel
          have hj2 : j < 256 := by have := HPL.out; omega
          have HJ := Aside0.mk hj
          clear hj
          by_cases hp : (B.length + 30 + s.size + j) % 256 = 0
          · have HPE := Aside0.mk (pad_eq _ _ _ HJ.out hp)
            have hp3 : ((B.length : Int) + 30 + (s.size : Int) + (j : Int)) % 256 = 0 := by omega
            clear hp
            go_wp2_with (first
              | (go_at_call 51; have HQ := (put4_row w Wq (.slice Ab B.length cb) B 1 [67324752] #[.int .u64 67324752] rfl rfl S0.out.b S0.out.bel (by intro x hx; simp only [List.mem_cons, List.not_mem_nil, or_false] at hx; omega) (by omega) (by decide)); (with_reducible refine HQ.mono ?_); clear HQ; rintro _ W1 ⟨v1, rfl, ho, hb, hk, hat⟩; obtain ⟨B1, hB1⟩ : ∃ x, x = B ++ ZipPure.rowOf (([67324752] : List Int).map fun x => (x, 4)) := ⟨_, rfl⟩; rw [← hB1] at ho; have lB1 : B1.length ≤ 262200 := (by rw [hB1]; simp only [List.length_append, row_len_map, List.length_cons, List.length_nil, List.length_replicate, bytesOf_length]; omega); have EB1 := Aside0.mk hB1; have S1 := Aside0.mk (S0.out.stepB ho hb hk hat); obtain ⟨A_1, c_1, rfl, -⟩ := own_reads ho; clear ho hb hk hat hB1; have hd1 : World.cell? W1 ⟨g, 0, none⟩ = some (.string s) := (blk_cell S1.out.blk 0).trans rfl; have he1 : World.cell? W1 ⟨g, 1, none⟩ = some (.slice A1 ys.length c1) := (blk_cell S1.out.blk 1).trans rfl)
              | (go_at_call 52; have HQ := (put2_row w W1 (.slice A_1 B1.length c_1) B1 5 [10, 0, 0, 0, 0] #[.int .u64 10, .int .u64 0, .int .u64 0, .int .u64 0, .int .u64 0] rfl rfl S1.out.b S1.out.bel (by intro x hx; simp only [List.mem_cons, List.not_mem_nil, or_false] at hx; omega) (by omega) (by decide)); (with_reducible refine HQ.mono ?_); clear HQ; rintro _ W2 ⟨v2, rfl, ho, hb, hk, hat⟩; obtain ⟨B2, hB2⟩ : ∃ x, x = B1 ++ ZipPure.rowOf (([10, 0, 0, 0, 0] : List Int).map fun x => (x, 2)) := ⟨_, rfl⟩; rw [← hB2] at ho; have lB2 : B2.length ≤ 262300 := (by rw [hB2]; simp only [List.length_append, row_len_map, List.length_cons, List.length_nil, List.length_replicate, bytesOf_length]; omega); have EB2 := Aside0.mk hB2; have S2 := Aside0.mk (S1.out.stepB ho hb hk hat); obtain ⟨A_2, c_2, rfl, -⟩ := own_reads ho; clear ho hb hk hat hB2; have hd2 : World.cell? W2 ⟨g, 0, none⟩ = some (.string s) := (blk_cell S2.out.blk 0).trans rfl; have he2 : World.cell? W2 ⟨g, 1, none⟩ = some (.slice A1 ys.length c1) := (blk_cell S2.out.blk 1).trans rfl)
              | (go_at_call 51; have HQ := (put4_row w W2 (.slice A_2 B2.length c_2) B2 3 [0, ys.length, ys.length] #[.int .u64 0, .int .u64 (ys.length : Int), .int .u64 (ys.length : Int)] rfl rfl S2.out.b S2.out.bel (by intro x hx; simp only [List.mem_cons, List.not_mem_nil, or_false] at hx; omega) (by omega) (by decide)); (with_reducible refine HQ.mono ?_); clear HQ; rintro _ W3 ⟨v3, rfl, ho, hb, hk, hat⟩; obtain ⟨B3, hB3⟩ : ∃ x, x = B2 ++ ZipPure.rowOf (([0, ys.length, ys.length] : List Int).map fun x => (x, 4)) := ⟨_, rfl⟩; rw [← hB3] at ho; have lB3 : B3.length ≤ 262400 := (by rw [hB3]; simp only [List.length_append, row_len_map, List.length_cons, List.length_nil, List.length_replicate, bytesOf_length]; omega); have EB3 := Aside0.mk hB3; have S3 := Aside0.mk (S2.out.stepB ho hb hk hat); obtain ⟨A_3, c_3, rfl, -⟩ := own_reads ho; clear ho hb hk hat hB3; have hd3 : World.cell? W3 ⟨g, 0, none⟩ = some (.string s) := (blk_cell S3.out.blk 0).trans rfl; have he3 : World.cell? W3 ⟨g, 1, none⟩ = some (.slice A1 ys.length c1) := (blk_cell S3.out.blk 1).trans rfl)
              | (go_at_call 52; have HQ := (put2_row w W3 (.slice A_3 B3.length c_3) B3 2 [s.size, j] #[.int .u64 (s.size : Int), .int .u64 (j : Int)] rfl rfl S3.out.b S3.out.bel (by intro x hx; simp only [List.mem_cons, List.not_mem_nil, or_false] at hx; omega) (by omega) (by decide)); (with_reducible refine HQ.mono ?_); clear HQ; rintro _ W4 ⟨v4, rfl, ho, hb, hk, hat⟩; obtain ⟨B4, hB4⟩ : ∃ x, x = B3 ++ ZipPure.rowOf (([s.size, j] : List Int).map fun x => (x, 2)) := ⟨_, rfl⟩; rw [← hB4] at ho; have lB4 : B4.length ≤ 262500 := (by rw [hB4]; simp only [List.length_append, row_len_map, List.length_cons, List.length_nil, List.length_replicate, bytesOf_length]; omega); have EB4 := Aside0.mk hB4; have S4 := Aside0.mk (S3.out.stepB ho hb hk hat); obtain ⟨A_4, c_4, rfl, -⟩ := own_reads ho; clear ho hb hk hat hB4; have hd4 : World.cell? W4 ⟨g, 0, none⟩ = some (.string s) := (blk_cell S4.out.blk 0).trans rfl; have he4 : World.cell? W4 ⟨g, 1, none⟩ = some (.slice A1 ys.length c1) := (blk_cell S4.out.blk 1).trans rfl)
              | (at_builtin; refine append_str_at (w0 := w) rfl _ _ rfl _ B4 s rfl rfl S4.out.b S4.out.bel (by omega) ?_; intro v5 W5 ho hb hk hat; obtain ⟨B5, hB5⟩ : ∃ x, x = B4 ++ bytesOf s := ⟨_, rfl⟩; rw [← hB5] at ho; have lB5 : B5.length ≤ 262800 := (by rw [hB5]; simp only [List.length_append, row_len_map, List.length_cons, List.length_nil, List.length_replicate, bytesOf_length]; omega); have EB5 := Aside0.mk hB5; have S5 := Aside0.mk (S4.out.stepB ho hb hk hat); obtain ⟨A_5, c_5, rfl, -⟩ := own_reads ho; clear ho hb hk hat hB5; have hd5 : World.cell? W5 ⟨g, 0, none⟩ = some (.string s) := (blk_cell S5.out.blk 0).trans rfl; have he5 : World.cell? W5 ⟨g, 1, none⟩ = some (.slice A1 ys.length c1) := (blk_cell S5.out.blk 1).trans rfl)
              | (go_at_call 53; have HQ := (zeros_row w W5 (.slice A_5 B5.length c_5) B5 (j) S5.out.b S5.out.bel (by omega) (by omega)); (with_reducible refine HQ.mono ?_); clear HQ; rintro _ W6 ⟨v6, rfl, ho, hb, hk, hat⟩; obtain ⟨B6, hB6⟩ : ∃ x, x = B5 ++ List.replicate j 0 := ⟨_, rfl⟩; rw [← hB6] at ho; have lB6 : B6.length ≤ 263100 := (by rw [hB6]; simp only [List.length_append, row_len_map, List.length_cons, List.length_nil, List.length_replicate, bytesOf_length]; omega); have EB6 := Aside0.mk hB6; have S6 := Aside0.mk (S5.out.stepB ho hb hk hat); obtain ⟨A_6, c_6, rfl, -⟩ := own_reads ho; clear ho hb hk hat hB6; have hd6 : World.cell? W6 ⟨g, 0, none⟩ = some (.string s) := (blk_cell S6.out.blk 0).trans rfl; have he6 : World.cell? W6 ⟨g, 1, none⟩ = some (.slice A1 ys.length c1) := (blk_cell S6.out.blk 1).trans rfl)
              | (at_builtin; refine print_append_row (w0 := w) w.heap.size rfl _ _ 22 5 .u8 1 rfl Try.underlying22 infoE (by decide) _ B6 ys _ _ _ rfl rfl S6.out.b (HRD.out.below S6.out.bel) S6.out.bel S6.out.le (by omega) ?_; intro v7 W7 ho hb hg hat0; have hk := Kept.of_row hg; have hat := at_row hat0; obtain ⟨B7, hB7⟩ : ∃ x, x = B6 ++ ys := ⟨_, rfl⟩; rw [← hB7] at ho; have lB7 : B7.length ≤ 600000 := (by rw [hB7]; simp only [List.length_append, row_len_map, List.length_cons, List.length_nil, List.length_replicate, bytesOf_length]; omega); have EB7 := Aside0.mk hB7; have S7 := Aside0.mk (S6.out.stepB ho hb hk hat); obtain ⟨A_7, c_7, rfl, -⟩ := own_reads ho; clear ho hb hk hat hB7 hg hat0; have hd7 : World.cell? W7 ⟨g, 0, none⟩ = some (.string s) := (blk_cell S7.out.blk 0).trans rfl; have he7 : World.cell? W7 ⟨g, 1, none⟩ = some (.slice A1 ys.length c1) := (blk_cell S7.out.blk 1).trans rfl)
              | (go_at_call 51; have HQ := (put4_row w W7 (.slice Ac C.length cc) C 1 [33639248] #[.int .u64 33639248] rfl rfl S7.out.c S7.out.bel (by intro x hx; simp only [List.mem_cons, List.not_mem_nil, or_false] at hx; omega) (by omega) (by decide)); (with_reducible refine HQ.mono ?_); clear HQ; rintro _ W8 ⟨v8, rfl, ho, hb, hk, hat⟩; obtain ⟨C8, hC8⟩ : ∃ x, x = C ++ ZipPure.rowOf (([33639248] : List Int).map fun x => (x, 4)) := ⟨_, rfl⟩; rw [← hC8] at ho; have lC8 : C8.length ≤ 262200 := (by rw [hC8]; simp only [List.length_append, row_len_map, List.length_cons, List.length_nil, List.length_replicate, bytesOf_length]; omega); have EC8 := Aside0.mk hC8; have S8 := Aside0.mk (S7.out.stepC ho hb hk hat); obtain ⟨A_8, c_8, rfl, -⟩ := own_reads ho; clear ho hb hk hat hC8; have hd8 : World.cell? W8 ⟨g, 0, none⟩ = some (.string s) := (blk_cell S8.out.blk 0).trans rfl; have he8 : World.cell? W8 ⟨g, 1, none⟩ = some (.slice A1 ys.length c1) := (blk_cell S8.out.blk 1).trans rfl)
              | (go_at_call 52; have HQ := (put2_row w W8 (.slice A_8 C8.length c_8) C8 6 [10, 10, 0, 0, 0, 0] #[.int .u64 10, .int .u64 10, .int .u64 0, .int .u64 0, .int .u64 0, .int .u64 0] rfl rfl S8.out.c S8.out.bel (by intro x hx; simp only [List.mem_cons, List.not_mem_nil, or_false] at hx; omega) (by omega) (by decide)); (with_reducible refine HQ.mono ?_); clear HQ; rintro _ W9 ⟨v9, rfl, ho, hb, hk, hat⟩; obtain ⟨C9, hC9⟩ : ∃ x, x = C8 ++ ZipPure.rowOf (([10, 10, 0, 0, 0, 0] : List Int).map fun x => (x, 2)) := ⟨_, rfl⟩; rw [← hC9] at ho; have lC9 : C9.length ≤ 262300 := (by rw [hC9]; simp only [List.length_append, row_len_map, List.length_cons, List.length_nil, List.length_replicate, bytesOf_length]; omega); have EC9 := Aside0.mk hC9; have S9 := Aside0.mk (S8.out.stepC ho hb hk hat); obtain ⟨A_9, c_9, rfl, -⟩ := own_reads ho; clear ho hb hk hat hC9; have hd9 : World.cell? W9 ⟨g, 0, none⟩ = some (.string s) := (blk_cell S9.out.blk 0).trans rfl; have he9 : World.cell? W9 ⟨g, 1, none⟩ = some (.slice A1 ys.length c1) := (blk_cell S9.out.blk 1).trans rfl)
              | (go_at_call 51; have HQ := (put4_row w W9 (.slice A_9 C9.length c_9) C9 3 [0, ys.length, ys.length] #[.int .u64 0, .int .u64 (ys.length : Int), .int .u64 (ys.length : Int)] rfl rfl S9.out.c S9.out.bel (by intro x hx; simp only [List.mem_cons, List.not_mem_nil, or_false] at hx; omega) (by omega) (by decide)); (with_reducible refine HQ.mono ?_); clear HQ; rintro _ W10 ⟨v10, rfl, ho, hb, hk, hat⟩; obtain ⟨C10, hC10⟩ : ∃ x, x = C9 ++ ZipPure.rowOf (([0, ys.length, ys.length] : List Int).map fun x => (x, 4)) := ⟨_, rfl⟩; rw [← hC10] at ho; have lC10 : C10.length ≤ 262400 := (by rw [hC10]; simp only [List.length_append, row_len_map, List.length_cons, List.length_nil, List.length_replicate, bytesOf_length]; omega); have EC10 := Aside0.mk hC10; have S10 := Aside0.mk (S9.out.stepC ho hb hk hat); obtain ⟨A_10, c_10, rfl, -⟩ := own_reads ho; clear ho hb hk hat hC10; have hd10 : World.cell? W10 ⟨g, 0, none⟩ = some (.string s) := (blk_cell S10.out.blk 0).trans rfl; have he10 : World.cell? W10 ⟨g, 1, none⟩ = some (.slice A1 ys.length c1) := (blk_cell S10.out.blk 1).trans rfl)
              | (go_at_call 52; have HQ := (put2_row w W10 (.slice A_10 C10.length c_10) C10 5 [s.size, 0, 0, 0, 0] #[.int .u64 (s.size : Int), .int .u64 0, .int .u64 0, .int .u64 0, .int .u64 0] rfl rfl S10.out.c S10.out.bel (by intro x hx; simp only [List.mem_cons, List.not_mem_nil, or_false] at hx; omega) (by omega) (by decide)); (with_reducible refine HQ.mono ?_); clear HQ; rintro _ W11 ⟨v11, rfl, ho, hb, hk, hat⟩; obtain ⟨C11, hC11⟩ : ∃ x, x = C10 ++ ZipPure.rowOf (([s.size, 0, 0, 0, 0] : List Int).map fun x => (x, 2)) := ⟨_, rfl⟩; rw [← hC11] at ho; have lC11 : C11.length ≤ 262500 := (by rw [hC11]; simp only [List.length_append, row_len_map, List.length_cons, List.length_nil, List.length_replicate, bytesOf_length]; omega); have EC11 := Aside0.mk hC11; have S11 := Aside0.mk (S10.out.stepC ho hb hk hat); obtain ⟨A_11, c_11, rfl, -⟩ := own_reads ho; clear ho hb hk hat hC11; have hd11 : World.cell? W11 ⟨g, 0, none⟩ = some (.string s) := (blk_cell S11.out.blk 0).trans rfl; have he11 : World.cell? W11 ⟨g, 1, none⟩ = some (.slice A1 ys.length c1) := (blk_cell S11.out.blk 1).trans rfl)
              | (go_at_call 51; have HQ := (put4_row w W11 (.slice A_11 C11.length c_11) C11 2 [0, B.length] #[.int .u64 0, .int .u64 (B.length : Int)] rfl rfl S11.out.c S11.out.bel (by intro x hx; simp only [List.mem_cons, List.not_mem_nil, or_false] at hx; omega) (by omega) (by decide)); (with_reducible refine HQ.mono ?_); clear HQ; rintro _ W12 ⟨v12, rfl, ho, hb, hk, hat⟩; obtain ⟨C12, hC12⟩ : ∃ x, x = C11 ++ ZipPure.rowOf (([0, B.length] : List Int).map fun x => (x, 4)) := ⟨_, rfl⟩; rw [← hC12] at ho; have lC12 : C12.length ≤ 262600 := (by rw [hC12]; simp only [List.length_append, row_len_map, List.length_cons, List.length_nil, List.length_replicate, bytesOf_length]; omega); have EC12 := Aside0.mk hC12; have S12 := Aside0.mk (S11.out.stepC ho hb hk hat); obtain ⟨A_12, c_12, rfl, -⟩ := own_reads ho; clear ho hb hk hat hC12; have hd12 : World.cell? W12 ⟨g, 0, none⟩ = some (.string s) := (blk_cell S12.out.blk 0).trans rfl; have he12 : World.cell? W12 ⟨g, 1, none⟩ = some (.slice A1 ys.length c1) := (blk_cell S12.out.blk 1).trans rfl)
              | (at_builtin; refine append_str_at (w0 := w) rfl _ _ rfl _ C12 s rfl rfl S12.out.c S12.out.bel (by omega) ?_; intro v13 W13 ho hb hk hat; obtain ⟨C13, hC13⟩ : ∃ x, x = C12 ++ bytesOf s := ⟨_, rfl⟩; rw [← hC13] at ho; have lC13 : C13.length ≤ 262900 := (by rw [hC13]; simp only [List.length_append, row_len_map, List.length_cons, List.length_nil, List.length_replicate, bytesOf_length]; omega); have EC13 := Aside0.mk hC13; have S13 := Aside0.mk (S12.out.stepC ho hb hk hat); obtain ⟨A_13, c_13, rfl, -⟩ := own_reads ho; clear ho hb hk hat hC13; have hd13 : World.cell? W13 ⟨g, 0, none⟩ = some (.string s) := (blk_cell S13.out.blk 0).trans rfl; have he13 : World.cell? W13 ⟨g, 1, none⟩ = some (.slice A1 ys.length c1) := (blk_cell S13.out.blk 1).trans rfl; obtain ⟨nb, hnb⟩ : ∃ n : Int, n = (B7.length : Int) := ⟨_, rfl⟩; obtain ⟨nc, hnc⟩ : ∃ n : Int, n = (C13.length : Int) := ⟨_, rfl⟩; have bnb : 0 ≤ nb ∧ nb ≤ 1000000 := (by omega); have bnc : 0 ≤ nc ∧ nc ≤ 1000000 := (by omega); have HNB := Aside0.mk hnb; have HNC := Aside0.mk hnc; have hnb2 := hnb.symm; have hnc2 := hnc.symm; clear hnb hnc))
            · go_ret2
              have h3 : 262144 < nb + nc + 22 := by assumption
              rw [HNB.out, HNC.out] at h3
              refine fin_err ?_ S13.out.bel
              have eB : B7 = B ++ localOf (bytesOf s, ys) (padOf B.length s.size) := by
                rw [EB7.out, EB6.out, EB5.out, EB4.out, EB3.out, EB2.out, EB1.out, ← HPE.out]
                simp [ZipPure.rowOf, ZipPure.localOf, ZipPure.localRow, List.append_assoc, bytesOf_length]
              have eC : C13 = C ++ centralOf (bytesOf s, ys) B.length := by
                rw [EC13.out, EC12.out, EC11.out, EC10.out, EC9.out, EC8.out]
                simp [ZipPure.rowOf, ZipPure.centralOf, ZipPure.centralRow, List.append_assoc, bytesOf_length]
              have hg := HGO.out HS.out hs2 hy2
              rw [← eB, ← eC, if_pos (by omega)] at hg
              rw [HP.out, HM.out, ← HE.out, hg]
              rfl
            · go_roundw
              case rel =>
                have h3 : nb + nc + 22 ≤ 262144 := by assumption
                rw [HNB.out, HNC.out] at h3
                have eB : B7 = B ++ localOf (bytesOf s, ys) (padOf B.length s.size) := by
                  rw [EB7.out, EB6.out, EB5.out, EB4.out, EB3.out, EB2.out, EB1.out, ← HPE.out]
                  simp [ZipPure.rowOf, ZipPure.localOf, ZipPure.localRow, List.append_assoc, bytesOf_length]
                have eC : C13 = C ++ centralOf (bytesOf s, ys) B.length := by
                  rw [EC13.out, EC12.out, EC11.out, EC10.out, EC9.out, EC8.out]
                  simp [ZipPure.rowOf, ZipPure.centralOf, ZipPure.centralRow, List.append_assoc, bytesOf_length]
                have hg := HGO.out HS.out hs2 hy2
                rw [← eB, ← eC, if_neg (by omega)] at hg
                exact ⟨k + 1, B7, C13, by go_num, by omega, S13.out.rt, by rw [← HE.out, hg], by omega⟩
              case measure => simp [intOf]; omega
          · have hpn := pad_ne _ _ _ HJ.out hp
            have hp3 : ¬ ((B.length : Int) + 30 + (s.size : Int) + (j : Int)) % 256 = 0 := by omega
            have HPN := Aside0.mk hpn
            have HPX := Aside0.mk HPL.out
            clear hp hpn
            go_wp2
            go_round
            case rel => exact ⟨j + 1, by go_num, by have := HPN.out; omega⟩
            case measure => simp [intOf]; omega
      · obtain rfl : k = l.length := by omega
        have hr0 : partsOf (l.map fOf) [] [] = ((B, C), 0) := by
          rw [← HE.out, List.drop_of_length_le (by rw [List.length_map]; exact Nat.le_refl _)]
          rfl
        have hP : P = (B ++ (C ++ ZipPure.rowOf (ZipPure.endRow l.length C.length B.length)), 0) := by
          rw [HP.out, HM.out, hr0]
          rfl
        have HPE := Aside0.mk hP
        have uB := u64_len B.length (by omega)
        have uC := u64_len C.length (by omega)
        clear hr0 hP
        go_wp2_with (first
          | (at_builtin; refine print_append_row (w0 := w) w.heap.size rfl _ _ 22 5 .u8 1 rfl Try.underlying22 infoE (by decide) _ B C _ _ _ rfl rfl HT.out.b ((own_reads' HT.out.c)) HT.out.bel HT.out.le (by omega) ?_; intro v21 W21 ho hb hg hat0; have hk := Kept.of_row hg; have hat := at_row hat0; obtain ⟨B21, hB21⟩ : ∃ x, x = B ++ C := ⟨_, rfl⟩; rw [← hB21] at ho; have lB21 : B21.length ≤ 600000 := (by rw [hB21]; simp only [List.length_append, row_len_map, List.length_cons, List.length_nil, List.length_replicate, bytesOf_length]; omega); have EB21 := Aside0.mk hB21; have S21 := Aside0.mk (HT.out.stepB ho hb hk hat); obtain ⟨A_21, c_21, rfl, -⟩ := own_reads ho; clear ho hb hk hat hB21 hg hat0)
          | (go_at_call 51; have HQ := (put4_row w W21 (.slice A_21 B21.length c_21) B21 2 [101010256, 0] #[.int .u64 101010256, .int .u64 0] rfl rfl S21.out.b S21.out.bel (by intro x hx; simp only [List.mem_cons, List.not_mem_nil, or_false] at hx; omega) (by omega) (by decide)); (with_reducible refine HQ.mono ?_); clear HQ; rintro _ W22 ⟨v22, rfl, ho, hb, hk, hat⟩; obtain ⟨B22, hB22⟩ : ∃ x, x = B21 ++ ZipPure.rowOf (([101010256, 0] : List Int).map fun x => (x, 4)) := ⟨_, rfl⟩; rw [← hB22] at ho; have lB22 : B22.length ≤ 600100 := (by rw [hB22]; simp only [List.length_append, row_len_map, List.length_cons, List.length_nil, List.length_replicate, bytesOf_length]; omega); have EB22 := Aside0.mk hB22; have S22 := Aside0.mk (S21.out.stepB ho hb hk hat); obtain ⟨A_22, c_22, rfl, -⟩ := own_reads ho; clear ho hb hk hat hB22)
          | (go_at_call 52; have HQ := (put2_row w W22 (.slice A_22 B22.length c_22) B22 2 [l.length, l.length] #[.int .u64 (l.length : Int), .int .u64 (l.length : Int)] rfl rfl S22.out.b S22.out.bel (by intro x hx; simp only [List.mem_cons, List.not_mem_nil, or_false] at hx; omega) (by omega) (by decide)); (with_reducible refine HQ.mono ?_); clear HQ; rintro _ W23 ⟨v23, rfl, ho, hb, hk, hat⟩; obtain ⟨B23, hB23⟩ : ∃ x, x = B22 ++ ZipPure.rowOf (([l.length, l.length] : List Int).map fun x => (x, 2)) := ⟨_, rfl⟩; rw [← hB23] at ho; have lB23 : B23.length ≤ 600200 := (by rw [hB23]; simp only [List.length_append, row_len_map, List.length_cons, List.length_nil, List.length_replicate, bytesOf_length]; omega); have EB23 := Aside0.mk hB23; have S23 := Aside0.mk (S22.out.stepB ho hb hk hat); obtain ⟨A_23, c_23, rfl, -⟩ := own_reads ho; clear ho hb hk hat hB23)
          | (go_at_call 51; have HQ := (put4_row w W23 (.slice A_23 B23.length c_23) B23 2 [C.length, B.length] #[.int .u64 (C.length : Int), .int .u64 (B.length : Int)] rfl rfl S23.out.b S23.out.bel (by intro x hx; simp only [List.mem_cons, List.not_mem_nil, or_false] at hx; omega) (by omega) (by decide)); (with_reducible refine HQ.mono ?_); clear HQ; rintro _ W24 ⟨v24, rfl, ho, hb, hk, hat⟩; obtain ⟨B24, hB24⟩ : ∃ x, x = B23 ++ ZipPure.rowOf (([C.length, B.length] : List Int).map fun x => (x, 4)) := ⟨_, rfl⟩; rw [← hB24] at ho; have lB24 : B24.length ≤ 600300 := (by rw [hB24]; simp only [List.length_append, row_len_map, List.length_cons, List.length_nil, List.length_replicate, bytesOf_length]; omega); have EB24 := Aside0.mk hB24; have S24 := Aside0.mk (S23.out.stepB ho hb hk hat); obtain ⟨A_24, c_24, rfl, -⟩ := own_reads ho; clear ho hb hk hat hB24)
          | (go_at_call 52; have HQ := (put2_row w W24 (.slice A_24 B24.length c_24) B24 1 [0] #[.int .u64 0] rfl rfl S24.out.b S24.out.bel (by intro x hx; simp only [List.mem_cons, List.not_mem_nil, or_false] at hx; omega) (by omega) (by decide)); (with_reducible refine HQ.mono ?_); clear HQ; rintro _ W25 ⟨v25, rfl, ho, hb, hk, hat⟩; obtain ⟨B25, hB25⟩ : ∃ x, x = B24 ++ ZipPure.rowOf (([0] : List Int).map fun x => (x, 2)) := ⟨_, rfl⟩; rw [← hB25] at ho; have lB25 : B25.length ≤ 600400 := (by rw [hB25]; simp only [List.length_append, row_len_map, List.length_cons, List.length_nil, List.length_replicate, bytesOf_length]; omega); have EB25 := Aside0.mk hB25; have S25 := Aside0.mk (S24.out.stepB ho hb hk hat); obtain ⟨A_25, c_25, rfl, -⟩ := own_reads ho; clear ho hb hk hat hB25))
        go_ret2
        refine fin_ok (HPE.out.trans ?_) S25.out.b S25.out.bel
        rw [EB25.out, EB24.out, EB23.out, EB22.out, EB21.out]
        simp [ZipPure.rowOf, ZipPure.endRow, List.append_assoc]
end Go.Proofs.Ytmpahimeljbliaa.ZipWalk
