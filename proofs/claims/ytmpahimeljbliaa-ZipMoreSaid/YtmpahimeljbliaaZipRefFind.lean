/- The document's Find of an archive: the walk. No condition but that the argument is a slice of bytes. -/
import Derived.Test.YtmpahimeljbliaaZipRefLW
import Derived.Lib.Strings
namespace Go.Proofs.Ytmpahimeljbliaa.ZipWalk
open Go.RowKit Go.Proofs Go.Proofs.Ytmpahimeljbliaa.B Go.Proofs.Ytmpahimeljbliaa.Buf Go.Proofs.YtmpahimeljbliaaW.PrintWords Go.Proofs.YtmpahimeljbliaaW.PrintLast Go.Proofs.YtmpahimeljbliaaW.PrintMore
open ZipPure (numAt U Bytes listOf findOf placeOf firstNamed Ent entAt)
open ZipEnd (num2_lt num4_lt)

theorem u8_back (x : Int) (h0 : 0 ≤ x) (h1 : x ≤ 255) : ((UInt8.ofNat x.toNat).toNat : Int) = x := by
  have : (UInt8.ofNat x.toNat).toNat = x.toNat := by
    rw [UInt8.toNat_ofNat']
    omega
  omega
theorem bytes_str {xs : List Int} (h : Bytes xs) : bytesOf (strOfNums xs) = xs := by
  unfold bytesOf
  rw [strOfNums_data, List.map_map]
  have : ∀ x ∈ xs, (((fun b : UInt8 => (b.toNat : Int)) ∘ fun n : Int => UInt8.ofNat n.toNat) x) = x := fun x hx => u8_back x (h x hx).1 (h x hx).2
  rw [List.map_congr_left this]
  simp
theorem bytes_inj {s t : ByteArray} (h : bytesOf s = bytesOf t) : s = t := by
  have : s.data.toList = t.data.toList := by
    unfold bytesOf at h
    have hi : ∀ (xs ys : List UInt8), (xs.map fun b => (b.toNat : Int)) = (ys.map fun b => (b.toNat : Int)) → xs = ys := by
      intro xs
      induction xs with
      | nil => intro ys h; cases ys <;> simp_all
      | cons x xs ih =>
        intro ys h
        cases ys with
        | nil => simp at h
        | cons y ys =>
          simp only [List.map_cons, List.cons.injEq] at h
          rw [ih ys h.2, UInt8.toNat_inj.1 (show x.toNat = y.toNat by omega)]
    exact hi _ _ h
  exact ByteArray.ext (Array.ext' this)
theorem str_is {xs : List Int} (h : Bytes xs) (s : ByteArray) : strOfNums xs = s ↔ xs = bytesOf s :=
  ⟨fun e => by rw [← e, bytes_str h], fun e => bytes_inj (by rw [bytes_str h, e])⟩
theorem list_ne {s t : ByteArray} (h : ¬ s = t) : ¬ s.toList = t.toList := by
  intro e
  rw [Lib.toList_data, Lib.toList_data] at e
  exact h (ByteArray.ext (Array.ext' e))
theorem bytes_cut {b : List Int} (hb : Bytes b) (a n : Nat) : Bytes ((b.drop a).take n) := fun x hx => hb x (List.mem_of_mem_drop (List.mem_of_mem_take hx))
/-- An entry of a row that is read. -/
theorem ent_at {w : World} {A : Option Addr} {n : Nat} {rows : List RowE} (h : kE.C w A n rows) (k : Nat) (hk : k < n) :
    ∃ ad r, A = some ad ∧ rows[k]? = some r ∧ w.cell? (ad.add (k * 5)) = some (.string r.1) ∧ w.cell? ⟨(ad.add (k * 5)).block, (ad.add (k * 5)).off + 1, none⟩ = some (.int .i64 r.2.1) ∧ w.cell? ⟨(ad.add (k * 5)).block, (ad.add (k * 5)).off + 2, none⟩ = some (.int .u64 r.2.2.1) ∧
      w.cell? ⟨(ad.add (k * 5)).block, (ad.add (k * 5)).off + 3, none⟩ = some (.int .u64 r.2.2.2.1) ∧ w.cell? ⟨(ad.add (k * 5)).block, (ad.add (k * 5)).off + 4, none⟩ = some (.int .u64 r.2.2.2.2) := by
  obtain ⟨ad, c, e, _, hK, hc0⟩ := Kd.C_get h (ByteArray.empty, 0, 0, 0, 0) (k : Int) (by omega) (by omega)
  have hl : rows.length = n := h.1
  have hg : rows[k]? = some (rows.getD (k : Int).toNat (ByteArray.empty, 0, 0, 0, 0)) := by
    rw [Int.toNat_natCast, List.getD_eq_getElem?_getD, List.getElem?_eq_getElem (by omega)]
    rfl
  generalize rows.getD (k : Int).toNat (ByteArray.empty, 0, 0, 0, 0) = x at hK hg
  obtain ⟨s, x1, x2, x3, x4⟩ := x
  obtain ⟨_, _, rfl, rfl, _, _, rfl, rfl, _, _, rfl, rfl, _, _, rfl, rfl, rfl⟩ := hK
  have hc : ∀ j u, [Value.string s, .int .i64 x1, .int .u64 x2, .int .u64 x3, .int .u64 x4][j]? = some u → w.cell? (ad.add (k * 5 + j)) = some u := hc0
  exact ⟨ad, _, e, hg, hc 0 _ rfl, by rw [← add_field _ _ 1 (by omega)]; exact hc 1 _ rfl, by rw [← add_field _ _ 2 (by omega)]; exact hc 2 _ rfl, by rw [← add_field _ _ 3 (by omega)]; exact hc 3 _ rfl, by rw [← add_field _ _ 4 (by omega)]; exact hc 4 _ rfl⟩
/-- Where an entry's bytes stand, as the document asks for it. -/
theorem place_val (l : List Int) (x : Ent) (C a long extra : Nat) (ha : x.at_ = (a : Int)) (h26 : numAt l (a + 26) 2 = (long : Int)) (h28 : numAt l (a + 28) 2 = (extra : Int)) (hm : x.method = 0) :
    placeOf l x C = if (a + 30 ≤ C ∧ numAt l a 4 = 67324752 ∧ a + 30 + long ≤ l.length ∧ (l.drop (a + 30)).take long = x.name ∧ numAt l (a + 8) 2 = 0 ∧ x.size = x.stored ∧ ((a + 30 + long + extra : Nat) : Int) + x.size ≤ C) then (if (a + 30 + long + extra) % 256 ≠ 0 then ((0, 0), 73) else ((((a + 30 + long + extra : Nat) : Int), x.size), 0)) else ((0, 0), 70) := by
  have hta : x.at_.toNat = a := by omega
  unfold placeOf
  simp only [hta, h26, h28, Int.toNat_natCast]
  rw [if_neg (by simpa using hm)]
  by_cases h1 : a + 30 ≤ C ∧ numAt l a 4 = 67324752
  · rw [if_neg (fun h => h.elim (fun h => h h1.1) (fun h => h h1.2))]
    by_cases h2 : a + 30 + long ≤ l.length ∧ (l.drop (a + 30)).take long = x.name ∧ numAt l (a + 8) 2 = 0 ∧ x.size = x.stored
    · rw [if_neg (fun h => h.elim (fun h => h h2.1) (fun h => h.elim (fun h => h h2.2.1) (fun h => h.elim (fun h => h h2.2.2.1) (fun h => h h2.2.2.2.symm))))]
      by_cases h3 : ((a + 30 + long + extra : Nat) : Int) + x.size ≤ C
      · rw [if_neg (by simpa using h3)]
        exact (if_pos ⟨h1.1, h1.2, h2.1, h2.2.1, h2.2.2.1, h2.2.2.2, h3⟩).symm
      · rw [if_pos h3, if_neg (fun h => h3 h.2.2.2.2.2.2)]
    · rw [if_pos, if_neg (fun h => h2 ⟨h.2.2.1, h.2.2.2.1, h.2.2.2.2.1, h.2.2.2.2.2.1⟩)]
      by_cases q1 : a + 30 + long ≤ l.length
      · by_cases q2 : (l.drop (a + 30)).take long = x.name
        · by_cases q3 : numAt l (a + 8) 2 = 0
          · exact .inr (.inr (.inr (fun h => h2 ⟨q1, q2, q3, h.symm⟩)))
          · exact .inr (.inr (.inl q3))
        · exact .inr (.inl q2)
      · exact .inl q1
  · rw [if_pos, if_neg (fun h => h1 ⟨h.1, h.2.1⟩)]
    by_cases q1 : a + 30 ≤ C
    · exact .inr (fun h => h1 ⟨q1, h⟩)
    · exact .inl q1
/-- What a call of Find leaves. -/
def Foundd (w : World) (r : (Int × Int) × Int) (e : Ending) (w' : World) : Prop :=
  e = .returned (.tuple #[.int .u64 r.1.1, .int .u64 r.1.2, .int .i64 r.2]) ∧ Below w.heap.size w w'
theorem fin_find {w W : World} {R : (Int × Int) × Int} {n : Int} (h : R = ((0, 0), n)) (hb : Below w.heap.size w W) : Foundd w R (.returned (.tuple #[.int .u64 0, .int .u64 0, .int .i64 n])) W := by
  subst h
  exact ⟨rfl, hb⟩

set_option maxRecDepth 100000 in
set_option maxHeartbeats 2000000 in
theorem refFind_in (A0 : Option Addr) (c0 : Nat) (l : List Int) (s : ByteArray) (w : World) (hr : ReadsInt w .u8 A0 l.length l) (hc : l.length ≤ c0) (hl : Bytes l) (hlen : l.length ≤ 140737488355328) :
    Calls Try.prog 18 #[.slice A0 l.length c0, .string s] w (Foundd w (findOf l (bytesOf s))) := by
  have HR := Aside0.mk hr
  have HC := Aside0.mk hc
  have HL := Aside0.mk hl
  have HF := Aside0.mk (refList_in A0 c0 l w hr hc hl hlen)
  clear hr hc hl
  obtain ⟨R, hR⟩ : ∃ R, R = findOf l (bytesOf s) := ⟨_, rfl⟩
  rw [← hR]
  rcases hE : listOf l with _ | ⟨ents, C⟩
  · have hres : R = ((0, 0), 70) := by
      rw [hR, findOf, hE]
    have he : listRes l = ([], 0, 70) := by unfold listRes; rw [hE]
    rw [he] at HF
    have HRES := Aside0.mk hres
    clear hres he hE hR
    go_enter Try.func18, Try.ntmps18
    go_wp2_with (go_at_call 15; (with_reducible refine HF.out.mono ?_); rintro _ W1 ⟨v1, rfl, -, hB1⟩; have HB1 := Aside0.mk hB1; clear hB1)
    go_ret3
    exact fin_find HRES.out HB1.out
  have he : listRes l = (ents.map eOf, (C : Int), 0) := by unfold listRes; rw [hE]
  rw [he] at HF
  have hin := ZipPure.list_in l ents C HL.out hE
  have hfd : R = match firstNamed (bytesOf s) ents with | none => ((0, 0), 71) | some x => placeOf l x C := by
    rw [hR, findOf, hE]
    dsimp only
    cases firstNamed (bytesOf s) ents <;> rfl
  have hcl : C ≤ 262144 ∧ l.length ≤ 262144 := by
    have h1 : l.length ≤ 262144 := by
      unfold listOf at hE
      split at hE
      · cases hE
      · omega
    exact ⟨by have := hin.1; omega, h1⟩
  obtain ⟨hC, hle⟩ := hcl
  obtain ⟨rows, hrows⟩ : ∃ rows, rows = ents.map eOf := ⟨_, rfl⟩
  rw [← hrows] at HF
  have hrl : rows.length = ents.length := by rw [hrows, List.length_map]
  have HRL := Aside0.mk hrl
  have HROWS := Aside0.mk hrows
  have HIN := Aside0.mk hin.2
  have HFD := Aside0.mk hfd
  clear he hin hfd hR hE hrows hrl
  go_enter Try.func18, Try.ntmps18
  go_wp2_with (go_at_call 15; (with_reducible refine HF.out.mono ?_); rintro _ W1 ⟨v1, rfl, hV1, hB1⟩; obtain ⟨A1, c1, rfl, -, hCR⟩ := Kd.R_reads hV1; have HB1 := Aside0.mk hB1; have HCR := Aside0.mk hCR; clear hB1 hV1 hCR)
  go_loopw [10] (fun i wr => ∃ j : Nat, i = .int .i64 (j : Int) ∧ j ≤ rows.length ∧ Below W1.heap.size W1 wr ∧ firstNamed (bytesOf s) ents = firstNamed (bytesOf s) (ents.drop j)) (fun i _ => rows.length - (intOf i).toNat)
  case atStart => exact ⟨0, rfl, Nat.zero_le _, Below.refl _ _, by rw [List.drop_zero]⟩
  case round =>
    obtain ⟨j, rfl, hj, hB, hE⟩ := hrel
    have HB := Aside0.mk hB
    have HE := Aside0.mk hE
    have HBW := Aside0.mk (below_then HB1.out HB1.out.size hB)
    clear hB hE
    by_cases hlt : j < rows.length
    · obtain ⟨ad, r, rfl, hat, hq0, hq1, hq2, hq3, hq4⟩ := ent_at (Kd.C_below HCR.out HB.out) j hlt
      have HLT := Aside0.mk hlt
      have hje : j < ents.length := by have := HRL.out; omega
      have hx : rows[j]? = some (eOf ents[j]) := by rw [HROWS.out, List.getElem?_map, List.getElem?_eq_getElem hje]; rfl
      rw [hx] at hat
      obtain rfl := Option.some.inj hat
      obtain ⟨q, hq⟩ := HIN.out _ (List.getElem_mem hje)
      have hdrop : ents.drop j = ents[j] :: ents.drop (j + 1) := List.drop_eq_getElem_cons hje
      generalize ents[j] = x at hq hdrop hq0 hq1 hq2 hq3 hq4
      have hnm : Bytes x.name := by rw [hq]; exact bytes_cut HL.out _ _
      obtain ⟨a, ha⟩ := Int.eq_ofNat_of_zero_le (show 0 ≤ x.at_ by rw [hq]; exact (num4_lt l HL.out _).1)
      have ha2 : a < 4294967296 := by have : x.at_ < 4294967296 := by rw [hq]; exact (num4_lt l HL.out _).2
                                      omega
      obtain ⟨sz, hsz⟩ := Int.eq_ofNat_of_zero_le (show 0 ≤ x.size by rw [hq]; exact (num4_lt l HL.out _).1)
      have hsz2 : sz < 4294967296 := by have : x.size < 4294967296 := by rw [hq]; exact (num4_lt l HL.out _).2
                                        omega
      obtain ⟨st, hst⟩ := Int.eq_ofNat_of_zero_le (show 0 ≤ x.stored by rw [hq]; exact (num4_lt l HL.out _).1)
      obtain ⟨me, hme⟩ : ∃ m, m = x.method := ⟨_, rfl⟩
      obtain ⟨nm, hnmeq⟩ : ∃ n, n = strOfNums x.name := ⟨_, rfl⟩
      simp only [eOf, ha, hsz, hst, ← hme, ← hnmeq] at hq0 hq1 hq2 hq3 hq4
      by_cases hn : x.name = bytesOf s
      · have hnms : nm = s := by rw [hnmeq]; exact (str_is hnm s).2 hn
        subst hnms
        have hres0 : R = placeOf l x C := by
          rw [HFD.out, HE.out, hdrop, firstNamed, if_pos hn]
        have HRES0 := Aside0.mk hres0
        have HN := Aside0.mk hn
        clear hn hres0 hdrop hnmeq hx hq
        by_cases hm0 : me = 0
        · subst hm0
          obtain ⟨long, h26⟩ := Int.eq_ofNat_of_zero_le (num2_lt l HL.out (a + 26)).1
          obtain ⟨extra, h28⟩ := Int.eq_ofNat_of_zero_le (num2_lt l HL.out (a + 28)).1
          have b26 : long < 65536 := by have := (num2_lt l HL.out (a + 26)).2; omega
          have b28 : extra < 65536 := by have := (num2_lt l HL.out (a + 28)).2; omega
          have hpv := place_val l x C a long extra ha h26 h28 hme.symm
          rw [hsz, hst] at hpv
          obtain ⟨x0, hx0⟩ : ∃ n, n = numAt l a 4 := ⟨_, rfl⟩
          obtain ⟨x8, hx8⟩ : ∃ n, n = numAt l (a + 8) 2 := ⟨_, rfl⟩
          rw [← hx0, ← hx8] at hpv
          have hR : R = _ := HRES0.out.trans hpv
          have HPV := Aside0.mk hR
          have H26 := Aside0.mk h26.symm
          have H28 := Aside0.mk h28.symm
          have HX0 := Aside0.mk hx0
          have HX8 := Aside0.mk hx8
          clear hR hpv h26 h28 hx0 hx8 ha hsz hst hme
          have uL : IntKind.u64.wrap (l.length : Int) = (l.length : Int) := Buf.wrap_small _ (by omega) (by omega)
          have u28 : IntKind.u64.wrap ((a : Int) + 28) = (a : Int) + 28 := Buf.wrap_small _ (by omega) (by omega)
          have u30 : IntKind.u64.wrap ((a : Int) + 30) = (a : Int) + 30 := Buf.wrap_small _ (by omega) (by omega)
          have u30l : IntKind.u64.wrap ((a : Int) + 30 + (long : Int)) = (a : Int) + 30 + (long : Int) := Buf.wrap_small _ (by omega) (by omega)
          have u30e : IntKind.u64.wrap ((a : Int) + 30 + (long : Int) + (extra : Int)) = (a : Int) + 30 + (long : Int) + (extra : Int) := Buf.wrap_small _ (by omega) (by omega)
          have HWA := Aside0.mk (show Below w.heap.size w (wr.alloc (.cells #[.string nm, .int .i64 0, .int .u64 (sz : Int), .int .u64 (st : Int), .int .u64 (a : Int)] 33)) from below_then HBW.out HBW.out.size (below_alloc (Below.refl _ _) _))
          have HRA := Aside0.mk (HR.out.below HWA.out)
          go_wp2_with (go_at_call 41; have HQ := rn2 A0 c0 l ((a : Int) + 26) (a + 26) _ rfl HRA.out HC.out HL.out hlen (by omega); rw [← H26.out] at HQ; (with_reducible refine HQ.mono ?_); clear HQ; rintro _ _ ⟨rfl, m1, rfl⟩; obtain ⟨g, hg⟩ : ∃ g, g = wr.heap.size := ⟨_, rfl⟩; obtain ⟨W4, hW4⟩ : ∃ W, W = (wr.alloc (.cells #[.string nm, .int .i64 0, .int .u64 (sz : Int), .int .u64 (st : Int), .int .u64 (a : Int)] 33)).drewN m1 := ⟨_, rfl⟩; rw [← hg, ← hW4]; have HB4 := Aside0.mk (show Below w.heap.size w W4 from hW4 ▸ pw_below_drewN HWA.out m1); have HR4 := Aside0.mk (show ReadsInt W4 .u8 A0 l.length l from hW4 ▸ HRA.out.drewN m1); have HG4 := Aside0.mk (show W4.heap[g]? = some (.cells #[.string nm, .int .i64 0, .int .u64 (sz : Int), .int .u64 (st : Int), .int .u64 (a : Int)] 33) from hW4 ▸ hg ▸ blk_drewN (blk_new _ _) m1); clear hW4 hg hq0 hq1 hq2 hq3 hq4; have hg0 : W4.cell? ⟨g, 0, none⟩ = some (.string nm) := (blk_cell HG4.out 0).trans rfl; have hg1 : W4.cell? ⟨g, 1, none⟩ = some (.int .i64 0) := (blk_cell HG4.out 1).trans rfl; have hg2 : W4.cell? ⟨g, 2, none⟩ = some (.int .u64 (sz : Int)) := (blk_cell HG4.out 2).trans rfl; have hg3 : W4.cell? ⟨g, 3, none⟩ = some (.int .u64 (st : Int)) := (blk_cell HG4.out 3).trans rfl; have hg4 : W4.cell? ⟨g, 4, none⟩ = some (.int .u64 (a : Int)) := (blk_cell HG4.out 4).trans rfl)
          have K28 := Aside0.mk (fun n : Nat => Calls.quiet_of (w := W4) (n := n) (by have HQ := rn2 A0 c0 l ((a : Int) + 28) (a + 28) (W4.drewN n) rfl (HR4.out.drewN n) HC.out HL.out hlen (by omega); rw [← H28.out] at HQ; exact HQ))
          go_quiet ((go_at_call 41; (with_reducible exact K28.out _)))
          clear u28 u30 u30l u30e
          by_cases c1 : a + 30 ≤ C
          · by_cases c2 : x0 = 67324752
            · subst c2
              by_cases c3 : a + 30 + long ≤ l.length
              · by_cases c4 : x8 = 0
                · subst c4
                  by_cases c5 : sz = st
                  · subst c5
                    by_cases c6 : a + 30 + long + extra + sz ≤ C
                    · obtain ⟨i0, hi0, hz0, hz1, hz2⟩ := info_parts infoE
                      have hin : (a : Int) + 30 + (long : Int) ≤ (l.length : Int) := by omega
                      obtain ⟨A', hrun, hrds, -⟩ := print_mid_of (P := Try.prog) (Value.int .u8) (0 : Int) 22 5 .u64 .u64 Try.underlying22 hi0 hz1 A0 c0 l ((a : Int) + 30) ((a : Int) + 30 + (long : Int)) (by omega) (by omega) hin HC.out
                      obtain ⟨pl, hpl⟩ : ∃ pl, pl = (l.take ((a : Int) + 30 + (long : Int)).toNat).drop ((a : Int) + 30).toNat := ⟨_, rfl⟩
                      rw [← hpl] at hrun hrds
                      have hpl2 : pl = (l.drop (a + 30)).take long := by
                        rw [hpl, List.drop_take]
                        congr 1
                        omega
                      have HPL := Aside0.mk hpl2
                      have HRDS := Aside0.mk hrds
                      clear hpl hpl2 hrds
                      obtain ⟨ss, hss⟩ : ∃ s, s = strOfNums pl := ⟨_, rfl⟩
                      obtain ⟨ca, hca⟩ : ∃ k, k = c0 - ((a : Int) + 30).toNat := ⟨_, rfl⟩
                      rw [← hca] at hrun
                      have hcv : ∀ m, (convert 22 9 (.slice A' pl.length ca)).run Try.prog (W4.drewN m) = .ok (.string ss) (W4.drewN m) := fun m => hss ▸ string_of_reads (P := Try.prog) Try.underlying22 Try.underlying5 Try.underlying9 (HRDS.out _ (HR4.out.drewN m))
                      have hpb : Bytes pl := by rw [HPL.out]; exact bytes_cut HL.out _ _
                      have h6 : (a : Int) + 30 + (long : Int) + (extra : Int) + (sz : Int) ≤ (C : Int) := by omega
                      by_cases c7 : ss = nm
                      · have h7 : (l.drop (a + 30)).take long = x.name := by rw [← HPL.out, HN.out]; exact (str_is hpb nm).1 (hss ▸ c7)
                        subst c7
                        have hval : R = if (a + 30 + long + extra) % 256 ≠ 0 then ((0, 0), 73) else ((((a + 30 + long + extra : Nat) : Int), (sz : Int)), 0) := by
                          rw [HPV.out, if_pos ⟨c1, rfl, c3, h7, rfl, rfl, by omega⟩]
                        have HVAL := Aside0.mk hval
                        clear hval h7 hss hca hpb
                        by_cases c8 : (a + 30 + long + extra) % 256 = 0
                        · have hres : R = (((((a + 30 + long + extra : Nat) : Int), (sz : Int)), 0) : (Int × Int) × Int) := by rw [HVAL.out, if_neg (by simpa using c8)]
                          have HX := Aside0.mk hres
                          have h8 : ((a : Int) + 30 + (long : Int) + (extra : Int)) % 256 = 0 := by omega
                          clear hres c8
                          go_wp2_with (first | (go_at_call 41; have HQ := rn4 A0 c0 l (a : Int) a (W4.drewN nq) rfl (HR4.out.drewN nq) HC.out HL.out hlen (by omega); rw [← HX0.out] at HQ; (with_reducible refine HQ.mono ?_); clear HQ; rintro _ _ ⟨rfl, m2, rfl⟩) | (go_at_call 41; have HQ := rn2 A0 c0 l ((a : Int) + 8) (a + 8) (W4.drewN (nq + m2)) rfl (HR4.out.drewN (nq + m2)) HC.out HL.out hlen (by omega); rw [← HX8.out] at HQ; (with_reducible refine HQ.mono ?_); clear HQ; rintro _ _ ⟨rfl, m3, rfl⟩))
                          go_quiet (fail)
                          go_wp2
                          go_ret3
                          rw [HX.out]
                          exact ⟨rfl, pw_below_drewN (pw_below_drewN HB4.out _) _⟩
                        · have hres : R = ((0, 0), 73) := by rw [HVAL.out, if_pos c8]
                          have HX := Aside0.mk hres
                          have h8 : ¬ ((a : Int) + 30 + (long : Int) + (extra : Int)) % 256 = 0 := by omega
                          have h8b : (((a : Int) + 30 + (long : Int) + (extra : Int)) % 256 != 0) = true := by simpa using h8
                          clear hres c8
                          go_wp2_with (first | (go_at_call 41; have HQ := rn4 A0 c0 l (a : Int) a (W4.drewN nq) rfl (HR4.out.drewN nq) HC.out HL.out hlen (by omega); rw [← HX0.out] at HQ; (with_reducible refine HQ.mono ?_); clear HQ; rintro _ _ ⟨rfl, m2, rfl⟩) | (go_at_call 41; have HQ := rn2 A0 c0 l ((a : Int) + 8) (a + 8) (W4.drewN (nq + m2)) rfl (HR4.out.drewN (nq + m2)) HC.out HL.out hlen (by omega); rw [← HX8.out] at HQ; (with_reducible refine HQ.mono ?_); clear HQ; rintro _ _ ⟨rfl, m3, rfl⟩))
                          go_ret3
                          exact fin_find HX.out (pw_below_drewN HB4.out _)
                      · have c7l : (ss.toList == nm.toList) = false := by simpa using list_ne c7
                        have hres : R = ((0, 0), 70) := by
                          rw [HPV.out, if_neg (fun h => c7 (hss.trans ((str_is hpb nm).2 (by rw [HPL.out, h.2.2.2.1, HN.out]))))]
                        have HX := Aside0.mk hres
                        clear hres hss hca hpb
                        go_wp2_with (first | (go_at_call 41; have HQ := rn4 A0 c0 l (a : Int) a (W4.drewN nq) rfl (HR4.out.drewN nq) HC.out HL.out hlen (by omega); rw [← HX0.out] at HQ; (with_reducible refine HQ.mono ?_); clear HQ; rintro _ _ ⟨rfl, m2, rfl⟩) | (go_at_call 41; have HQ := rn2 A0 c0 l ((a : Int) + 8) (a + 8) (W4.drewN (nq + m2)) rfl (HR4.out.drewN (nq + m2)) HC.out HL.out hlen (by omega); rw [← HX8.out] at HQ; (with_reducible refine HQ.mono ?_); clear HQ; rintro _ _ ⟨rfl, m3, rfl⟩))
                        go_ret3
                        exact fin_find HX.out (pw_below_drewN HB4.out _)
                    · have hres : R = ((0, 0), 70) := by
                        rw [HPV.out, if_neg (fun h => c6 (by have := h.2.2.2.2.2.2; omega))]
                      have HX := Aside0.mk hres
                      have hgt : (C : Int) < (a : Int) + 30 + (long : Int) + (extra : Int) + (sz : Int) := by omega
                      clear hres c6
                      go_wp2_with (first | (go_at_call 41; have HQ := rn4 A0 c0 l (a : Int) a (W4.drewN nq) rfl (HR4.out.drewN nq) HC.out HL.out hlen (by omega); rw [← HX0.out] at HQ; (with_reducible refine HQ.mono ?_); clear HQ; rintro _ _ ⟨rfl, m2, rfl⟩) | (go_at_call 41; have HQ := rn2 A0 c0 l ((a : Int) + 8) (a + 8) (W4.drewN (nq + m2)) rfl (HR4.out.drewN (nq + m2)) HC.out HL.out hlen (by omega); rw [← HX8.out] at HQ; (with_reducible refine HQ.mono ?_); clear HQ; rintro _ _ ⟨rfl, m3, rfl⟩))
                      go_ret3
                      exact fin_find HX.out (pw_below_drewN HB4.out _)
                  · have hres : R = ((0, 0), 70) := by
                      rw [HPV.out, if_neg (fun h => c5 (by have := h.2.2.2.2.2.1; omega))]
                    have HX := Aside0.mk hres
                    have hne : ((sz : Int) != (st : Int)) = true := by simpa using (show ¬ (sz : Int) = (st : Int) by omega)
                    clear hres c5
                    go_wp2_with (first | (go_at_call 41; have HQ := rn4 A0 c0 l (a : Int) a (W4.drewN nq) rfl (HR4.out.drewN nq) HC.out HL.out hlen (by omega); rw [← HX0.out] at HQ; (with_reducible refine HQ.mono ?_); clear HQ; rintro _ _ ⟨rfl, m2, rfl⟩) | (go_at_call 41; have HQ := rn2 A0 c0 l ((a : Int) + 8) (a + 8) (W4.drewN (nq + m2)) rfl (HR4.out.drewN (nq + m2)) HC.out HL.out hlen (by omega); rw [← HX8.out] at HQ; (with_reducible refine HQ.mono ?_); clear HQ; rintro _ _ ⟨rfl, m3, rfl⟩))
                    go_ret3
                    exact fin_find HX.out (pw_below_drewN HB4.out _)
                · have hres : R = ((0, 0), 70) := by
                    rw [HPV.out, if_neg (fun h => c4 h.2.2.2.2.1)]
                  have HX := Aside0.mk hres
                  have hne : (x8 != 0) = true := by simpa using c4
                  clear hres c4
                  go_wp2_with (first | (go_at_call 41; have HQ := rn4 A0 c0 l (a : Int) a (W4.drewN nq) rfl (HR4.out.drewN nq) HC.out HL.out hlen (by omega); rw [← HX0.out] at HQ; (with_reducible refine HQ.mono ?_); clear HQ; rintro _ _ ⟨rfl, m2, rfl⟩) | (go_at_call 41; have HQ := rn2 A0 c0 l ((a : Int) + 8) (a + 8) (W4.drewN (nq + m2)) rfl (HR4.out.drewN (nq + m2)) HC.out HL.out hlen (by omega); rw [← HX8.out] at HQ; (with_reducible refine HQ.mono ?_); clear HQ; rintro _ _ ⟨rfl, m3, rfl⟩))
                  go_ret3
                  exact fin_find HX.out (pw_below_drewN HB4.out _)
              · have hres : R = ((0, 0), 70) := by
                  rw [HPV.out, if_neg (fun h => c3 h.2.2.1)]
                have HX := Aside0.mk hres
                have hgt : (l.length : Int) < (a : Int) + 30 + (long : Int) := by omega
                clear hres c3
                go_wp2_with (first | (go_at_call 41; have HQ := rn4 A0 c0 l (a : Int) a (W4.drewN nq) rfl (HR4.out.drewN nq) HC.out HL.out hlen (by omega); rw [← HX0.out] at HQ; (with_reducible refine HQ.mono ?_); clear HQ; rintro _ _ ⟨rfl, m2, rfl⟩))
                go_ret3
                exact fin_find HX.out (pw_below_drewN HB4.out _)
            · have hres : R = ((0, 0), 70) := by
                rw [HPV.out, if_neg (fun h => c2 h.2.1)]
              have HX := Aside0.mk hres
              have hne : (x0 != 67324752) = true := by simpa using c2
              clear hres c2
              go_wp2_with (first | (go_at_call 41; have HQ := rn4 A0 c0 l (a : Int) a (W4.drewN nq) rfl (HR4.out.drewN nq) HC.out HL.out hlen (by omega); rw [← HX0.out] at HQ; (with_reducible refine HQ.mono ?_); clear HQ; rintro _ _ ⟨rfl, m2, rfl⟩))
              go_ret3
              exact fin_find HX.out (pw_below_drewN HB4.out _)
          · have hres : R = ((0, 0), 70) := by
              rw [HPV.out, if_neg (fun h => c1 h.1)]
            have HX := Aside0.mk hres
            have hgt : (C : Int) < (a : Int) + 30 := by omega
            clear hres c1
            go_wp2
            go_ret3
            exact fin_find HX.out (pw_below_drewN HB4.out _)
        · have hres : R = ((0, 0), 72) := by
            rw [HRES0.out, placeOf]
            simp only []
            rw [if_pos (by rw [← hme]; exact hm0)]
          have HX := Aside0.mk hres
          have hne : (me != 0) = true := by simpa using hm0
          clear hres hm0
          go_wp2
          go_ret3
          exact fin_find HX.out (below_then HBW.out HBW.out.size (below_alloc (Below.refl _ _) _))
      · have hnms : ¬ nm = s := by rw [hnmeq]; exact fun h => hn ((str_is hnm s).1 h)
        have hnml : (nm.toList == s.toList) = false := by simpa using list_ne hnms
        have hbr : rows.length ≤ 9223372036854775807 := HCR.out.2.1
        have hE2 : firstNamed (bytesOf s) ents = firstNamed (bytesOf s) (ents.drop (j + 1)) := by rw [HE.out, hdrop, firstNamed, if_neg hn]
        have HE2 := Aside0.mk hE2
        clear hE2 hn hdrop hnmeq hx hq
        go_wp2
        go_roundw
        case rel => exact ⟨j + 1, by go_num, by have := HLT.out; omega, below_then HB.out HB.out.size (below_alloc (Below.refl _ _) _), HE2.out⟩
        case measure => have := HLT.out; simp [intOf]; omega
    · obtain rfl : j = rows.length := by omega
      have hres : R = ((0, 0), 71) := by
        rw [HFD.out, HE.out, List.drop_of_length_le (by have := HRL.out; omega)]
        rfl
      have HX := Aside0.mk hres
      clear hres
      go_wp2
      go_ret3
      exact fin_find HX.out HBW.out
end Go.Proofs.Ytmpahimeljbliaa.ZipWalk
