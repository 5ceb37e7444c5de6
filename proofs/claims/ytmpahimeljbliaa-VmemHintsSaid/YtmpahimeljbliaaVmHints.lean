/- VmemHints: walked. No condition but that the calls and the hints lie in memory as told. Printed by gen_hints.py of this session's repository. -/
import Derived.Test.YtmpahimeljbliaaVmPair
import Derived.StillTailTactics
import Derived.Deep.DeepCutAuto
namespace Go.Proofs.Ytmpahimeljbliaa.Vm
open Go.RowKit Go.Proofs Go.Proofs.YtmpahimeljbliaaW.PrintWords

theorem info3 : (Try.prog.info? 3).map (fun i => (i.zero, i.size, i.bytes)) = some (some (.int .i64 0), 1, 8) := by kernel_rfl
theorem OpAt.src' {w : World} {ad : Addr} {p : Opn} {A6 : Option Addr} {c6 : Nat} (h : OpAt w ad p A6 c6) : ∀ (W : World) (own : Nat → Option Role) (a : Nat) (v : Value) (s : Sp), Below w.heap.size w W → Holds W own w.heap.size a v s → Src W own A6 c6 p.data := fun _ _ _ _ _ hB hH => h.src hB hH
set_option maxRecDepth 100000 in
set_option maxHeartbeats 4000000 in
theorem hints_in {w0 : World} {A : Option Addr} {l : List Opn} (hO : Ops w0 A l) (hf : ∀ p ∈ l, p.Fine) (c : Nat) (budget : Int) (AH : Option Addr) (cH : Nat) (hs : List Nat) (hhr : ReadsInt w0 .u64 AH hs.length (natsI hs)) (hhb : ∀ h ∈ hs, h ≤ 18446744073709551615) : Calls Try.prog 9 #[.int .i64 budget, .slice A l.length c, .slice AH hs.length cH] w0 fun e w' => e = .returned (.bool true) ∧ Below w0.heap.size w0 w' := by
  have HQ := big_in hO c
  cases hb : bigF l with
  | true =>
    rw [hb] at HQ
    clear hO hf hb hhr hhb
    go_enter Try.func9, Try.ntmps9
    go_wp2_with (go_at_call 23; (with_reducible refine HQ.mono ?_); rintro _ _ ⟨rfl, rfl⟩)
    go_ret
    exact ⟨rfl, Below.refl _ _⟩
  | false =>
    rw [hb] at HQ
    by_cases hbad : budget < 1 ∨ budget > 1024
    · have HN := new_bad budget w0 hbad
      clear hbad hO hf hb hhr hhb
      go_enter Try.func9, Try.ntmps9
      go_wp2_with (first
        | (go_at_call 23; (with_reducible refine HQ.mono ?_); rintro _ _ ⟨rfl, rfl⟩)
        | (go_at_call 24; (with_reducible refine HN.mono ?_); rintro _ _ ⟨rfl, rfl⟩)
        | (go_at_call 25; (with_reducible refine (alive_in w0).mono ?_); rintro _ W1 ⟨rfl, hB⟩; have HB := Aside0.mk hB; clear hB))
      go_ret
      exact ⟨rfl, HB.out⟩
    · obtain ⟨bg, rfl⟩ : ∃ n : Nat, budget = n := ⟨budget.toNat, by omega⟩
      have hb1 : 1 ≤ bg := by omega
      have hb2 : bg ≤ 1024 := by omega
      obtain ⟨hl60, hdl⟩ := bigF_no hb
      have HF := Aside0.mk (fun p hp => (hf p hp).ok (hdl p hp))
      have HO := Aside0.mk hO
      have HNW := Aside0.mk (fun w => new_in bg hb1 hb2 w)
      have HHR := Aside0.mk (And.intro hhr hhb)
      have HPN := Aside0.mk (pair_new bg hb1 hb2 w0)
      obtain ⟨n, hn⟩ : ∃ n, n = l.length := ⟨_, rfl⟩
      obtain ⟨m, hm⟩ : ∃ m, m = hs.length := ⟨_, rfl⟩
      obtain ⟨a, ha⟩ : ∃ a, a = w0.heap.size := ⟨_, rfl⟩
      have HAA := Aside0.mk ha
      rw [← hn] at HQ hl60 ⊢
      rw [← hm] at ⊢
      have HN := Aside0.mk hn
      have HM := Aside0.mk hm
      have hm64 : m ≤ 9223372036854775807 := by rw [hm]; exact hhr.2.1
      clear hbad hO hf hb hdl hn hm ha hhr hhb
      go_enter Try.func9, Try.ntmps9
      go_wp2_with (first
        | (go_at_call 23; (with_reducible refine HQ.mono ?_); rintro _ _ ⟨rfl, rfl⟩)
        | (go_at_call 24; (with_reducible refine (HNW.out w0).mono ?_); rintro _ W1 ⟨rfl, hW1⟩; have HW1 := Aside0.mk hW1; rw [← HAA.out]; clear hW1; clear HQ)
        | (go_at_call 24; (with_reducible refine (HNW.out W1).mono ?_); rintro _ W2 ⟨rfl, hW2⟩; obtain ⟨oA0, oB0, hPN⟩ := HPN.out W1 W2 HW1.out hW2; rw [← HAA.out] at hPN; have HP0 := Aside0.mk hPN; clear hW2 hPN))
      obtain ⟨b, hbb⟩ : ∃ b, b = W1.heap.size := ⟨_, rfl⟩
      rw [← hbb] at HP0 ⊢
      clear hbb
      go_loopw [11, 12, 13, 14] (fun rx ry rp i wr => ∃ (k : Nat) (oA oB : Nat → Option Role) (vA vB : Value) (sA sB : Sp) (xs ys ns : List Nat), i = .int .i64 k ∧ k ≤ n ∧ xs.length ≤ k ∧ Aside0 (Pair w0 wr oA oB a b vA vB sA sB rx ry rp xs ys ns) ∧ Aside0 (Tw sA sB xs ys ns) ∧ Aside0 (∀ n ∈ ns, n ≤ 69)) (fun _ _ _ i _ => n - (intOf i).toNat)
      case atStart => exact ⟨0, _, _, _, _, _, _, [], [], [], rfl, Nat.zero_le _, Nat.le_refl _, HP0, ⟨tw_new bg⟩, ⟨fun n hn => by cases hn⟩⟩
      case round =>
        obtain ⟨k, oA, oB, vA, vB, sA, sB, xs, ys, ns, rfl, hk, hrl, HP, HT, HNS⟩ := hrel
        by_cases hlt : k < n
        · obtain ⟨p, hp⟩ : ∃ p, l[k]? = some p := ⟨l[k]'(by rw [← HN.out]; exact hlt), List.getElem?_eq_getElem _⟩
          obtain ⟨ad, A6, c6, rfl, hat⟩ := HO.out k p hp
          have hok := HF.out p (List.mem_of_getElem? hp)
          have HAT := Aside0.mk hat
          obtain ⟨g0, g1, g2, g3, g4, g5, g6, -, -⟩ := hat.below HP.out.A.bel
          obtain ⟨p', hp'⟩ : ∃ p', p' = if p.room < 0 then { p with room := 0 } else p := ⟨_, rfl⟩
          have hok' : p'.Ok := by
            rw [hp']
            split
            · exact { hok with r1 := by show (-9223372036854775808 : Int) ≤ 0; decide, r2 := by show (0 : Int) ≤ 9223372036854775807; decide }
            · exact hok
          have hr0 : 0 ≤ p'.room := by
            rw [hp']
            split
            · exact Int.le_refl 0
            · omega
          have HPP := Aside0.mk hp'
          have HOK := Aside0.mk hok'
          have hhint := hok.h2
          clear hat hok hp hp' hok'
          go_upto_if 59 with (fail)
          go_cut [15] (fun s wx => s = .pointer (some ⟨wr.heap.size, 0, none⟩) ∧ Blk wx wr.heap.size (cellsO p' A6 c6) 60 ∧ Below wr.heap.size wr wx)
          case first =>
            as_aux_lemma =>
              by_cases hroom : p.room < 0
              · have HRM := Aside0.mk hroom
                go_wp2_with (fail)
                go_meet
                exact ⟨rfl, by rw [HPP.out, if_pos HRM.out]; exact Blk.new wr _ 60, below_new wr _⟩
              · have HRM := Aside0.mk hroom
                go_wp2_with (fail)
                go_meet
                exact ⟨rfl, by rw [HPP.out, if_neg (by have := HRM.out; omega)]; exact Blk.new wr _ 60, below_new wr _⟩
          case rest =>
            as_aux_lemma =>
              obtain ⟨rfl, hblk, hBc⟩ := hcut
              rename World => w1
              unfold cellsO at hblk
              have HBK := Aside0.mk hblk
              have HBC := Aside0.mk hBc
              have HP1 := Aside0.mk (HP.out.below hBc)
              have o0 := hblk.cell 0 _ rfl
              have o1 := hblk.cell 1 _ rfl
              have o2 := hblk.cell 2 _ rfl
              have o3 := hblk.cell 3 _ rfl
              have o4 := hblk.cell 4 _ rfl
              have o5 := hblk.cell 5 _ rfl
              have o6 := hblk.cell 6 _ rfl
              obtain ⟨K, hK⟩ : ∃ K, K = kindN p'.kind := ⟨_, rfl⟩
              have HKI := Aside0.mk (show Calls Try.prog 26 #[.int .i64 p'.kind] w1 fun e w' => e = .returned (.int .i64 K) ∧ w1 = w' from hK ▸ kind_in p'.kind w1 HOK.out.k1 HOK.out.k2)
              have hK0 : 0 ≤ K ∧ K ≤ 10 := by rw [hK]; unfold kindN; omega
              have HK := Aside0.mk hK
              clear hblk hBc hK g0 g1 g2 g3 g4 g5 g6
              go_upto_if 66 with (go_at_call 26; (with_reducible refine HKI.out.mono ?_); rintro _ _ ⟨rfl, rfl⟩)
              go_cut [17] (fun s wx => (∃ h : Nat, s = .int .u64 h ∧ h ≤ 18446744073709551615) ∧ w1 = wx)
              case first =>
                as_aux_lemma =>
                  by_cases hm0 : m = 0
                  · subst hm0
                    go_wp2_with (fail)
                    go_meet
                    exact ⟨⟨0, rfl, by omega⟩, rfl⟩
                  · obtain ⟨q, hq⟩ : ∃ q, q = k % m := ⟨_, rfl⟩
                    have hqm : q < m := by rw [hq]; exact Nat.mod_lt _ (by omega)
                    have hr1 : (k : Int).tmod m = (q : Int) := by rw [Int.tmod_eq_emod_of_nonneg (by omega), hq, Int.natCast_emod]
                    have hr2 : (k : Int) % m = (q : Int) := by rw [hq, Int.natCast_emod]
                    obtain ⟨hhr, hhb⟩ := HHR.out
                    rw [← HM.out] at hhr
                    obtain ⟨adh, rfl, -⟩ := hhr.at_ (q : Int) (by omega) (by omega)
                    have hcell := reads_cell hhr HP1.out.A.bel q hqm
                    obtain ⟨h, hh⟩ : ∃ h, h = hs.getD q 0 := ⟨_, rfl⟩
                    have hrd : rd (natsI hs) q = (h : Int) := by
                      unfold rd natsI
                      rw [hh]
                      simp [List.getD_eq_getElem?_getD, List.getElem?_map]
                      cases hs[q]? <;> rfl
                    rw [hrd] at hcell
                    have hh2 : h ≤ 18446744073709551615 := by
                      rw [hh, List.getD_eq_getElem?_getD, List.getElem?_eq_getElem (by rw [← HM.out]; exact hqm)]
                      exact hhb _ (List.getElem_mem _)
                    have HH2 := Aside0.mk hh2
                    have hm1 : 0 < m := by omega
                    have HR2 := Aside0.mk hr2
                    clear hhr hhb hrd hh hq hh2 hr2
                    go_wp2_with (fail)
                    go_meet
                    exact ⟨⟨h, rfl, HH2.out⟩, rfl⟩
              case rest =>
                as_aux_lemma =>
                  obtain ⟨⟨h, rfl, hh⟩, rfl⟩ := hcut
                  have HHH := Aside0.mk hh
                  have HLX := Aside0.mk HT.out.lx
                  have HLY := Aside0.mk HT.out.ly
                  obtain ⟨A11, c11, rfl, -⟩ := HP1.out.A.reads
                  obtain ⟨A12, c12, rfl, -⟩ := HP1.out.B.reads
                  obtain ⟨A13, c13, rfl, hr13⟩ := own_reads HP1.out.rowP
                  have HR13 := Aside0.mk hr13
                  obtain ⟨q, hq⟩ : ∃ q, q = p'.room.toNat % xs.length := ⟨_, rfl⟩
                  obtain ⟨P, hP⟩ : ∃ P, P = ns.getD q 0 := ⟨_, rfl⟩
                  have HQ2 := Aside0.mk hq
                  have HPD := Aside0.mk hP
                  have hP64 : P ≤ 69 := by
                    rw [hP, List.getD_eq_getElem?_getD]
                    cases hx : ns[q]? with
                    | none => exact Nat.zero_le _
                    | some x => exact HNS.out x (List.mem_of_getElem? hx)
                  have hx60 : xs.length ≤ 60 := by omega
                  obtain ⟨OF, hOF⟩ : ∃ OF, OF = p'.off := ⟨_, rfl⟩
                  obtain ⟨SZ, hSZ⟩ : ∃ SZ, SZ = p'.size := ⟨_, rfl⟩
                  have hof2 : OF ≤ 18446744073709551615 := by rw [hOF]; exact HOK.out.o2
                  have hsz2 : SZ ≤ 18446744073709551615 := by rw [hSZ]; exact HOK.out.s2
                  have HOF := Aside0.mk hOF
                  have HSZ := Aside0.mk hSZ
                  rw [← hOF] at o2
                  rw [← hSZ] at o3
                  obtain ⟨B1, hB1⟩ : ∃ B1, B1 = decide (1 < K ∧ (xs.length = 0 ∨ P * 256 < OF ∨ P * 256 < OF + SZ ∨ K = 5)) := ⟨_, rfl⟩
                  have HB1 := Aside0.mk hB1
                  have HCP := Aside0.mk (fun (hx0 : xs.length ≠ 0) => (show ∃ ad13, A13 = some ad13 ∧ w1.cell? (ad13.add q) = some (.int .i64 P) from by
                    have hql : q < ns.length := by rw [← HLX.out, hq]; exact Nat.mod_lt _ (by omega)
                    obtain ⟨ad13, e13, -⟩ := hr13.at_ (q : Int) (by omega) (by omega)
                    subst e13
                    have hc := reads_cell hr13 (Below.refl _ _) q hql
                    have hrd : rd (natsI ns) q = (P : Int) := by
                      unfold rd natsI
                      rw [hP]
                      simp [List.getD_eq_getElem?_getD, List.getElem?_map]
                      cases ns[q]? <;> rfl
                    rw [hrd] at hc
                    exact ⟨ad13, rfl, hc⟩))
                  clear hh hr13 hq hP hOF hSZ hB1
                  go_upto_region 19 with (fail)
                  go_cut [117] (fun s wx => s = .bool B1 ∧ Below w1.heap.size w1 wx)
                  case first =>
                    as_aux_lemma =>
                      by_cases k1 : 1 < K
                      · have HK1 := Aside0.mk k1
                        have hb1 : decide (1 < K) = true := decide_eq_true k1
                        by_cases x0 : xs.length = 0
                        · have HX0 := Aside0.mk x0
                          have hx0 : ((xs.length : Int) == 0) = true := by simp [x0]
                          clear x0 k1
                          go_quiet (fail)
                          go_wp2_with (fail)
                          go_meet
                          exact ⟨congrArg Value.bool (by rw [HB1.out]; exact (decide_eq_true ⟨HK1.out, .inl HX0.out⟩).symm), pw_below_drewN (Below.refl _ _) _⟩
                        · have hx0 : ((xs.length : Int) == 0) = false := beq_eq_false_iff_ne.2 (by omega)
                          have hql : q < xs.length := by rw [HQ2.out]; exact Nat.mod_lt _ (by omega)
                          have hqn : q < ns.length := by rw [← HLX.out]; exact hql
                          obtain ⟨ad13, rfl, hc13⟩ := HCP.out x0
                          have ht : p'.room.tmod xs.length = (q : Int) := by rw [Int.tmod_eq_emod_of_nonneg hr0, HQ2.out, Int.natCast_emod, Int.toNat_of_nonneg hr0]
                          have e0 : IntKind.u64.wrap (P : Int) = (P : Int) := by rw [IntKind.wrap_u64]; omega
                          have e1 : IntKind.u64.wrap ((P : Int) * 256) = (P : Int) * 256 := by rw [IntKind.wrap_u64]; omega
                          by_cases c1 : P * 256 < OF
                          · have HC1 := Aside0.mk c1
                            have d1 : decide ((P : Int) * 256 < (OF : Int)) = true := decide_eq_true (by omega)
                            clear c1 x0 k1
                            go_quiet (fail)
                            go_wp2_with (fail)
                            go_meet
                            exact ⟨congrArg Value.bool (by rw [HB1.out]; exact (decide_eq_true ⟨HK1.out, .inr (.inl HC1.out)⟩).symm), pw_below_drewN (Below.refl _ _) _⟩
                          · have d1 : decide ((P : Int) * 256 < (OF : Int)) = false := decide_eq_false (by omega)
                            have e2 : IntKind.u64.wrap ((P : Int) * 256 - (OF : Int)) = (P : Int) * 256 - (OF : Int) := by rw [IntKind.wrap_u64]; omega
                            by_cases c2 : P * 256 < OF + SZ
                            · have HC2 := Aside0.mk c2
                              have d2 : decide ((P : Int) * 256 - (OF : Int) < (SZ : Int)) = true := decide_eq_true (by omega)
                              clear c1 c2 x0 k1
                              go_quiet (fail)
                              go_wp2_with (fail)
                              go_meet
                              exact ⟨congrArg Value.bool (by rw [HB1.out]; exact (decide_eq_true ⟨HK1.out, .inr (.inr (.inl HC2.out))⟩).symm), pw_below_drewN (Below.refl _ _) _⟩
                            · have d2 : decide ((P : Int) * 256 - (OF : Int) < (SZ : Int)) = false := decide_eq_false (by omega)
                              have HNO := Aside0.mk (show xs.length ≠ 0 ∧ ¬ P * 256 < OF ∧ ¬ P * 256 < OF + SZ from ⟨x0, c1, c2⟩)
                              by_cases c3 : K = 5
                              · have HC3 := Aside0.mk c3
                                have d3 : (K == 5) = true := by simp [c3]
                                clear c1 c2 c3 x0 k1
                                go_quiet (fail)
                                go_wp2_with (fail)
                                go_meet
                                exact ⟨congrArg Value.bool (by rw [HB1.out]; exact (decide_eq_true ⟨HK1.out, .inr (.inr (.inr HC3.out))⟩).symm), pw_below_drewN (Below.refl _ _) _⟩
                              · have HC3 := Aside0.mk c3
                                have d3 : (K == 5) = false := by simp [c3]
                                clear c1 c2 c3 x0 k1
                                go_quiet (fail)
                                go_wp2_with (fail)
                                go_meet
                                exact ⟨congrArg Value.bool (by rw [HB1.out]; exact (decide_eq_false (fun h => h.2.elim HNO.out.1 (fun h => h.elim HNO.out.2.1 (fun h => h.elim HNO.out.2.2 HC3.out)))).symm), pw_below_drewN (Below.refl _ _) _⟩
                      · have HK1 := Aside0.mk k1
                        have hb1 : decide (1 < K) = false := decide_eq_false k1
                        clear k1
                        go_quiet (fail)
                        go_wp2_with (fail)
                        go_meet
                        exact ⟨congrArg Value.bool (by rw [HB1.out]; exact (decide_eq_false (fun h => absurd h.1 (by have := HK1.out; omega))).symm), pw_below_drewN (Below.refl _ _) _⟩
                  case rest =>
                    as_aux_lemma =>
                      obtain ⟨rfl, hB⟩ := hcut
                      rename World => w2
                      have HB12 := Aside0.mk hB
                      have HP2 := Aside0.mk (HP1.out.below hB)
                      have HBK2 := Aside0.mk (HBK.out.below hB)
                      clear hB o0 o1 o2 o3 o4 o5 o6
                      cases B1 with
                      | true =>
                        clear HKI
                        go_wp2_with (fail)
                        exact ⟨⟨k + 1, oA, oB, vA, vB, sA, sB, xs, ys, ns, by go_num, by omega, by omega, HP2, HT, HNS⟩, by simp [intOf]; omega⟩
                      | false =>
                        have o0 := HBK2.out.cell 0 _ rfl
                        have o1 := HBK2.out.cell 1 _ rfl
                        have o2 := HBK2.out.cell 2 _ rfl
                        have o3 := HBK2.out.cell 3 _ rfl
                        have o4 := HBK2.out.cell 4 _ rfl
                        have o5 := HBK2.out.cell 5 _ rfl
                        have o6 := HBK2.out.cell 6 _ rfl
                        rw [← HOF.out] at o2
                        rw [← HSZ.out] at o3
                        obtain ⟨LD, hLD⟩ : ∃ LD, LD = p'.data.length := ⟨_, rfl⟩
                        have hld2 : LD ≤ 2048 := by rw [hLD]; exact HOK.out.len
                        rw [← hLD] at o6
                        have HLD := Aside0.mk hLD
                        obtain ⟨B2, hB2⟩ : ∃ B2, B2 = decide (6 < K ∧ P * 256 < OF + LD + 8) := ⟨_, rfl⟩
                        have HB2 := Aside0.mk hB2
                        clear hLD hB2
                        go_upto_region 20 with (fail)
                        go_cut [140] (fun s wx => s = .bool B2 ∧ Below w2.heap.size w2 wx)
                        case first =>
                          as_aux_lemma =>
                            by_cases k1 : 6 < K
                            · have HK1 := Aside0.mk k1
                              have hb1 : decide (6 < K) = true := decide_eq_true k1
                              have hno : xs.length ≠ 0 ∧ ¬ P * 256 < OF ∧ ¬ P * 256 < OF + SZ := by
                                have h := of_decide_eq_false HB1.out.symm
                                refine ⟨fun e => h ⟨by omega, .inl e⟩, fun e => h ⟨by omega, .inr (.inl e)⟩, fun e => h ⟨by omega, .inr (.inr (.inl e))⟩⟩
                              obtain ⟨hx0, hnn1, hnn2⟩ := hno
                              have hql : q < xs.length := by rw [HQ2.out]; exact Nat.mod_lt _ (by omega)
                              have hqn : q < ns.length := by rw [← HLX.out]; exact hql
                              obtain ⟨ad13, rfl, hc13⟩ := HCP.out hx0
                              have hc13' : w2.cell? (ad13.add q) = some (.int .i64 P) := (HB12.out.cell (cell_lt hc13)).trans hc13
                              have ht : p'.room.tmod xs.length = (q : Int) := by rw [Int.tmod_eq_emod_of_nonneg hr0, HQ2.out, Int.natCast_emod, Int.toNat_of_nonneg hr0]
                              have e0 : IntKind.u64.wrap (P : Int) = (P : Int) := by rw [IntKind.wrap_u64]; omega
                              have e1 : IntKind.u64.wrap ((P : Int) * 256) = (P : Int) * 256 := by rw [IntKind.wrap_u64]; omega
                              have e2 : IntKind.u64.wrap (LD : Int) = (LD : Int) := by rw [IntKind.wrap_u64]; omega
                              have e3 : IntKind.u64.wrap ((OF : Int) + (LD : Int)) = (OF : Int) + (LD : Int) := by rw [IntKind.wrap_u64]; omega
                              have e4 : IntKind.u64.wrap ((OF : Int) + (LD : Int) + 8) = (OF : Int) + (LD : Int) + 8 := by rw [IntKind.wrap_u64]; omega
                              by_cases c1 : P * 256 < OF + LD + 8
                              · have HC1 := Aside0.mk c1
                                have d1 : decide ((P : Int) * 256 < (OF : Int) + (LD : Int) + 8) = true := decide_eq_true (by omega)
                                clear c1 k1 hc13 hx0 hnn1 hnn2
                                go_quiet (fail)
                                go_wp2_with (fail)
                                go_meet
                                exact ⟨congrArg Value.bool (by rw [HB2.out]; exact (decide_eq_true ⟨HK1.out, HC1.out⟩).symm), pw_below_drewN (Below.refl _ _) _⟩
                              · have HC1 := Aside0.mk c1
                                have d1 : decide ((P : Int) * 256 < (OF : Int) + (LD : Int) + 8) = false := decide_eq_false (by omega)
                                clear c1 k1 hc13 hx0 hnn1 hnn2
                                go_quiet (fail)
                                go_wp2_with (fail)
                                go_meet
                                exact ⟨congrArg Value.bool (by rw [HB2.out]; exact (decide_eq_false (fun h => absurd h.2 (by have := HC1.out; omega))).symm), pw_below_drewN (Below.refl _ _) _⟩
                            · have HK1 := Aside0.mk k1
                              have hb1 : decide (6 < K) = false := decide_eq_false k1
                              clear k1
                              go_quiet (fail)
                              go_wp2_with (fail)
                              go_meet
                              exact ⟨congrArg Value.bool (by rw [HB2.out]; exact (decide_eq_false (fun h => absurd h.1 (by have := HK1.out; omega))).symm), pw_below_drewN (Below.refl _ _) _⟩
                        case rest =>
                          as_aux_lemma =>
                            obtain ⟨rfl, hB⟩ := hcut
                            rename World => w3
                            have HP3 := Aside0.mk (HP2.out.below hB)
                            cases B2 with
                            | true =>
                              clear HKI hB o0 o1 o2 o3 o4 o5 o6
                              go_wp2_with (fail)
                              exact ⟨⟨k + 1, oA, oB, vA, vB, sA, sB, xs, ys, ns, by go_num, by omega, by omega, HP3, HT, HNS⟩, by simp [intOf]; omega⟩
                            | false =>
                              have HBK3 := Aside0.mk (show Blk w3 wr.heap.size #[.int .i64 p'.kind, .int .i64 p'.room, .int .u64 OF, .int .u64 SZ, .int .i64 p'.prot, .int .u64 p'.hint, .slice A6 LD c6] 60 from by have h := HBK2.out.below hB; rw [← HOF.out, ← HSZ.out, ← HLD.out] at h; exact h)
                              clear o0 o1 o2 o3 o4 o5 o6
                              have HMK := Aside0.mk (show Meek p' ns from by
                                by_cases k1 : 1 < K
                                · have h := of_decide_eq_false HB1.out.symm
                                  have h2 := of_decide_eq_false HB2.out.symm
                                  have hx0 : xs.length ≠ 0 := fun e => h ⟨k1, .inl e⟩
                                  have hql : q < ns.length := by rw [← HLX.out, HQ2.out]; exact Nat.mod_lt _ (by omega)
                                  have hPn : ns[q]? = some P := by rw [HPD.out, List.getD_eq_getElem?_getD, List.getElem?_eq_getElem hql]; rfl
                                  have a1 : ¬ P * 256 < OF := fun e => h ⟨k1, .inr (.inl e)⟩
                                  have a2 : ¬ P * 256 < OF + SZ := fun e => h ⟨k1, .inr (.inr (.inl e))⟩
                                  have a3 : K ≠ 5 := fun e => h ⟨k1, .inr (.inr (.inr e))⟩
                                  have a4 : 6 < K → ¬ P * 256 < OF + LD + 8 := fun e e2 => h2 ⟨e, e2⟩
                                  refine .inr ⟨by rw [← HK.out]; exact k1, hr0, by rw [← HK.out]; exact a3, P, by rw [← HLX.out, ← HQ2.out]; exact hPn, by rw [← HOF.out]; omega, by rw [← HOF.out, ← HSZ.out]; omega, fun e => by rw [← HOF.out, ← HLD.out]; have := a4 (by rw [HK.out]; exact e); omega⟩
                                · exact .inl (by rw [← HK.out]; omega))
                              have HDA := Aside0.mk (show p'.data = p.data from by rw [HPP.out]; split <;> rfl)
                              have HSR := Aside0.mk (show ∀ (W : World) (own : Nat → Option Role) (a : Nat) (v : Value) (s : Sp), Below w0.heap.size w0 W → Holds W own w0.heap.size a v s → Src W own A6 c6 p'.data from by rw [HDA.out]; exact HAT.out.src')
                              have HFR := Aside0.mk (show oA wr.heap.size = none ∧ oB wr.heap.size = none from ⟨(HP.out.free (Nat.le_refl _)).1, (HP.out.free (Nat.le_refl _)).2.1⟩)
                              have HCA := Aside0.mk (fun (W : World) (hP : Pair w0 W oA oB a b vA vB sA sB (.slice A11 xs.length c11) (.slice A12 ys.length c12) (.slice A13 ns.length c13) xs ys ns) => (show Calls Try.prog 27 #[.pointer (some ⟨a, 0, none⟩), .agg #[.int .i64 p'.kind, .int .i64 p'.room, .int .u64 OF, .int .u64 SZ, .int .i64 p'.prot, .int .u64 p'.hint, .slice A6 LD c6], .slice A11 xs.length c11, .int .u64 p.hint] W fun e w' => ∃ (oA' : Nat → Option Role) (vA' : Value) (sA' : Sp) (o : Out), e = .returned (.agg #[.int .i64 o.e, .string (strOfNums o.b), .int .u64 (o.at_ : Int), .bool o.room]) ∧ Done sA (placeF p' xs) p' p.hint sA' o ∧ Pair w0 w' oA' oB a b vA' vB sA' sB (.slice A11 xs.length c11) (.slice A12 ys.length c12) (.slice A13 ns.length c13) xs ys ns ∧ Calm oA W w' ∧ (∀ k, k < W.heap.size → oA' k = oA k) from by
                                have h := hP.callA HOK.out (A6 := A6) (c6 := c6) (by omega) p.hint hhint HSR.out
                                rw [← HOF.out, ← HSZ.out, ← HLD.out] at h
                                exact h))
                              have HGG := Aside0.mk (HAT.out.below HP3.out.A.bel).2.2.2.2.2.1
                              have hw0 : w0.heap.size ≤ w3.heap.size := HP3.out.A.bel.size
                              clear hB HKI
                              go_upto_region 21 with (fail)
                              go_cut [18] (fun s wx => ∃ (g : Nat) (oA' : Nat → Option Role) (vA' : Value) (sA' : Sp) (o : Out), s = .pointer (some ⟨g, 0, none⟩) ∧ Aside0 (Done sA (placeF p' xs) p' p.hint sA' o) ∧ Aside0 (Pair w0 wx oA' oB a b vA' vB sA' sB (.slice A11 xs.length c11) (.slice A12 ys.length c12) (.slice A13 ns.length c13) xs ys ns) ∧ Aside0 (Blk wx g #[.int .i64 o.e, .string (strOfNums o.b), .int .u64 (o.at_ : Int), .bool o.room] 63) ∧ Aside0 (Blk wx wr.heap.size #[.int .i64 p'.kind, .int .i64 p'.room, .int .u64 OF, .int .u64 SZ, .int .i64 p'.prot, .int .u64 p'.hint, .slice A6 LD c6] 60) ∧ Aside0 (w3.heap.size ≤ g))
                              case first =>
                                as_aux_lemma =>
                                  have o0 := HBK3.out.cell 0 _ rfl
                                  have o1 := HBK3.out.cell 1 _ rfl
                                  have o2 := HBK3.out.cell 2 _ rfl
                                  have o3 := HBK3.out.cell 3 _ rfl
                                  have o4 := HBK3.out.cell 4 _ rfl
                                  have o5 := HBK3.out.cell 5 _ rfl
                                  have o6 := HBK3.out.cell 6 _ rfl
                                  have o7 := HGG.out
                                  have n0 := World.new_ne w3 _ o0
                                  have n1 := World.new_ne w3 _ o1
                                  have n2 := World.new_ne w3 _ o2
                                  have n3 := World.new_ne w3 _ o3
                                  have n4 := World.new_ne w3 _ o4
                                  have n5 := World.new_ne w3 _ o5
                                  have n6 := World.new_ne w3 _ o6
                                  have n7 := World.new_ne w3 _ o7
                                  have HBD := Aside0.mk (show Below w3.heap.size w3 w3.drew from below_drew1 (Below.refl _ _))
                                  have HBA := Aside0.mk (show Below w3.heap.size w3 (w3.alloc (.cells #[.int .i64 0, .string ⟨#[]⟩, .int .u64 0, .bool false] 63)).drew from below_drew1 (below_alloc (Below.refl _ _) _))
                                  go_region_held3 (fun w' => w'.cell? ⟨wr.heap.size, 0, none⟩ = some (.int .i64 p'.kind) ∧ w'.cell? ⟨wr.heap.size, 1, none⟩ = some (.int .i64 p'.room) ∧ w'.cell? ⟨wr.heap.size, 2, none⟩ = some (.int .u64 OF) ∧ w'.cell? ⟨wr.heap.size, 3, none⟩ = some (.int .u64 SZ) ∧ w'.cell? ⟨wr.heap.size, 4, none⟩ = some (.int .i64 p'.prot) ∧ w'.cell? ⟨wr.heap.size, 5, none⟩ = some (.int .u64 p'.hint) ∧ w'.cell? ⟨wr.heap.size, 6, none⟩ = some (.slice A6 LD c6) ∧ w'.cell? ⟨(ad.add (k * 7)).block, (ad.add (k * 7)).off + 5, none⟩ = some (.int .u64 p.hint)) (go_keep) (first | (go_at_call 27; (with_reducible refine (HCA.out _ (HP3.out.below HBD.out)).mono ?_); rintro _ W2 ⟨oA', vA', sA', o, rfl, hD, hP, hC, hoo⟩; have HD := Aside0.mk hD; have HPA := Aside0.mk hP; have HSZ2 := Aside0.mk (Nat.le_trans HBD.out.size hC.1); obtain ⟨t0, t1, t2, t3, t4, t5, t6, -, -⟩ := HAT.out.below hP.A.bel; have HBX := Aside0.mk (show Blk W2 wr.heap.size #[.int .i64 p'.kind, .int .i64 p'.room, .int .u64 OF, .int .u64 SZ, .int .i64 p'.prot, .int .u64 p'.hint, .slice A6 LD c6] 60 from (hC.2 wr.heap.size (Nat.lt_of_lt_of_le HBK3.out.lt HBD.out.size) HFR.out.1).trans ((HBD.out.block wr.heap.size HBK3.out.lt).trans HBK3.out)); have b0 := HBX.out.cell 0 _ rfl; have b1 := HBX.out.cell 1 _ rfl; have b2 := HBX.out.cell 2 _ rfl; have b3 := HBX.out.cell 3 _ rfl; have b4 := HBX.out.cell 4 _ rfl; have b5 := HBX.out.cell 5 _ rfl; have b6 := HBX.out.cell 6 _ rfl; clear hD hP hC hoo) | (go_at_call 27; (with_reducible refine (HCA.out _ (HP3.out.below HBA.out)).mono ?_); rintro _ W2 ⟨oA', vA', sA', o, rfl, hD, hP, hC, hoo⟩; have HD := Aside0.mk hD; have HPA := Aside0.mk hP; have HSZ2 := Aside0.mk (Nat.le_trans HBA.out.size hC.1); obtain ⟨t0, t1, t2, t3, t4, t5, t6, -, -⟩ := HAT.out.below hP.A.bel; have HBX := Aside0.mk (show Blk W2 wr.heap.size #[.int .i64 p'.kind, .int .i64 p'.room, .int .u64 OF, .int .u64 SZ, .int .i64 p'.prot, .int .u64 p'.hint, .slice A6 LD c6] 60 from (hC.2 wr.heap.size (Nat.lt_of_lt_of_le HBK3.out.lt HBA.out.size) HFR.out.1).trans ((HBA.out.block wr.heap.size HBK3.out.lt).trans HBK3.out)); have b0 := HBX.out.cell 0 _ rfl; have b1 := HBX.out.cell 1 _ rfl; have b2 := HBX.out.cell 2 _ rfl; have b3 := HBX.out.cell 3 _ rfl; have b4 := HBX.out.cell 4 _ rfl; have b5 := HBX.out.cell 5 _ rfl; have b6 := HBX.out.cell 6 _ rfl; have hfA := new_none HP3.out.A.hold (Nat.le_refl w3.heap.size); have HG2 := Aside0.mk (show Blk W2 w3.heap.size #[.int .i64 0, .string ⟨#[]⟩, .int .u64 0, .bool false] 63 from (hC.2 w3.heap.size (by simp) hfA).trans (Blk.new w3 _ 63)); have HGO := Aside0.mk (show oA' w3.heap.size = none from (hoo _ (by simp)).trans hfA); have x0 := HG2.out.cell 0 _ rfl; have x1 := HG2.out.cell 1 _ rfl; have x2 := HG2.out.cell 2 _ rfl; have x3 := HG2.out.cell 3 _ rfl; have y0 := HG2.out.free 0; have y1 := HG2.out.free 1; have y2 := HG2.out.free 2; have y3 := HG2.out.free 3; clear hfA hD hP hC hoo))
                                  · go_wp2_with (fail)
                                    go_meet
                                    exact ⟨W2.heap.size, oA', vA', sA', o, rfl, HD, ⟨HPA.out.below (below_new W2 _)⟩, ⟨Blk.new W2 _ 63⟩, ⟨HBX.out.below (below_new W2 _)⟩, ⟨HSZ2.out⟩⟩
                                  · go_wp2_with (fail)
                                    go_meet
                                    have hfr := HP3.out.free (Nat.le_refl w3.heap.size)
                                    exact ⟨w3.heap.size, oA', vA', sA', o, rfl, HD, ⟨(((HPA.out.set hw0 HGO.out hfr.2.1 hfr.2.2.1 hfr.2.2.2.1 hfr.2.2.2.2 0 _).set hw0 HGO.out hfr.2.1 hfr.2.2.1 hfr.2.2.2.1 hfr.2.2.2.2 1 _).set hw0 HGO.out hfr.2.1 hfr.2.2.1 hfr.2.2.2.1 hfr.2.2.2.2 2 _).set hw0 HGO.out hfr.2.1 hfr.2.2.1 hfr.2.2.2.1 hfr.2.2.2.2 3 _⟩, ⟨(((HG2.out.set 0 _).set 1 _).set 2 _).set 3 _⟩, ⟨(((HBX.out.far 0 _ (Nat.ne_of_gt HBK3.out.lt)).far 1 _ (Nat.ne_of_gt HBK3.out.lt)).far 2 _ (Nat.ne_of_gt HBK3.out.lt)).far 3 _ (Nat.ne_of_gt HBK3.out.lt)⟩, ⟨Nat.le_refl _⟩⟩
                              case rest =>
                                as_aux_lemma =>
                                  obtain ⟨g, oA', vA', sA', o, rfl, HD, HPA, HG, HBX, HGW⟩ := hcut
                                  rename World => w4
                                  have b0 := HBX.out.cell 0 _ rfl
                                  have b1 := HBX.out.cell 1 _ rfl
                                  have b2 := HBX.out.cell 2 _ rfl
                                  have b3 := HBX.out.cell 3 _ rfl
                                  have b4 := HBX.out.cell 4 _ rfl
                                  have b5 := HBX.out.cell 5 _ rfl
                                  have b6 := HBX.out.cell 6 _ rfl
                                  have hy60 : ys.length ≤ 60 := by rw [HLY.out, ← HLX.out]; exact hx60
                                  have HGF := Aside0.mk (HP3.out.free HGW.out).2.1
                                  have HCB := Aside0.mk (show Calls Try.prog 27 #[.pointer (some ⟨b, 0, none⟩), .agg #[.int .i64 p'.kind, .int .i64 p'.room, .int .u64 OF, .int .u64 SZ, .int .i64 p'.prot, .int .u64 p'.hint, .slice A6 LD c6], .slice A12 ys.length c12, .int .u64 h] w4 fun e w' => ∃ (oB' : Nat → Option Role) (vB' : Value) (sB' : Sp) (o2 : Out), e = .returned (.agg #[.int .i64 o2.e, .string (strOfNums o2.b), .int .u64 (o2.at_ : Int), .bool o2.room]) ∧ Done sB (placeF p' ys) p' h sB' o2 ∧ Pair w0 w' oA' oB' a b vA' vB' sA' sB' (.slice A11 xs.length c11) (.slice A12 ys.length c12) (.slice A13 ns.length c13) xs ys ns ∧ Calm oB w4 w' ∧ (∀ k, k < w4.heap.size → oB' k = oB k) from by
                                    have h := HPA.out.callB HOK.out (A6 := A6) (c6 := c6) (by omega) h HHH.out HSR.out
                                    rw [← HOF.out, ← HSZ.out, ← HLD.out] at h
                                    exact h)
                                  clear HCA HGG
                                  go_upto_region 23 with (go_at_call 27; (with_reducible refine HCB.out.mono ?_); rintro _ W5 ⟨oB', vB', sB', o2, rfl, hD2, hP5, hC5, ho5⟩; obtain ⟨h1, h2, h3, hT0, hT1⟩ := HT.out.step HP.out.A.hold.good HP.out.B.hold.good HMK.out HD.out hD2; rw [← h1, ← h2, ← h3]; have HT0 := Aside0.mk hT0; have HT1 := Aside0.mk hT1; have HD2 := Aside0.mk hD2; have HP5 := Aside0.mk hP5; have HG5 := Aside0.mk (show Blk W5 g #[.int .i64 o.e, .string (strOfNums o.b), .int .u64 (o.at_ : Int), .bool o.room] 63 from (hC5.2 g HG.out.lt HGF.out).trans HG.out); have HBX5 := Aside0.mk (show Blk W5 wr.heap.size #[.int .i64 p'.kind, .int .i64 p'.room, .int .u64 OF, .int .u64 SZ, .int .i64 p'.prot, .int .u64 p'.hint, .slice A6 LD c6] 60 from (hC5.2 wr.heap.size HBX.out.lt HFR.out.2).trans HBX.out); clear h1 h2 h3 hT0 hT1 hD2 hP5 hC5 ho5)
                                  have hp6 := HP5.out.below (below_new W5 (.cells #[.int .i64 o.e, .string (strOfNums o.b), .int .u64 (o2.at_ : Int), .bool o.room] 63))
                                  have hg6 := HG5.out.below (below_new W5 (.cells #[.int .i64 o.e, .string (strOfNums o.b), .int .u64 (o2.at_ : Int), .bool o.room] 63))
                                  have hb6 := HBX5.out.below (below_new W5 (.cells #[.int .i64 o.e, .string (strOfNums o.b), .int .u64 (o2.at_ : Int), .bool o.room] 63))
                                  have hh6 : Blk (W5.alloc (.cells #[.int .i64 o.e, .string (strOfNums o.b), .int .u64 (o2.at_ : Int), .bool o.room] 63)) W5.heap.size #[.int .i64 o.e, .string (strOfNums o.b), .int .u64 (o2.at_ : Int), .bool o.room] 63 := Blk.new W5 _ 63
                                  have hgg2 : g < W5.heap.size := HG5.out.lt
                                  generalize hW6 : W5.alloc (.cells #[.int .i64 o.e, .string (strOfNums o.b), .int .u64 (o2.at_ : Int), .bool o.room] 63) = w6 at *
                                  generalize hgg : W5.heap.size = g2 at *
                                  have HP6 := Aside0.mk hp6
                                  have HG6 := Aside0.mk hg6
                                  have HB6 := Aside0.mk hb6
                                  have HH6 := Aside0.mk hh6
                                  have HAL := Aside0.mk (And.intro (HD.out.at_le HP.out.A.hold.good) (HD2.out.at_le HP.out.B.hold.good))
                                  clear hW6 hgg hp6 hg6 hb6 hh6 b0 b1 b2 b3 b4 b5 b6 HCB
                                  have u0 := HG6.out.cell 0 _ rfl
                                  have u1 := HG6.out.cell 1 _ rfl
                                  have u2 := HG6.out.cell 2 _ rfl
                                  have u3 := HG6.out.cell 3 _ rfl
                                  have v0 := HH6.out.cell 0 _ rfl
                                  have v1 := HH6.out.cell 1 _ rfl
                                  have v2 := HH6.out.cell 2 _ rfl
                                  have v3 := HH6.out.cell 3 _ rfl
                                  have hn1 : (o.e != o.e) = false := by simp
                                  have hal := HAL.out.1
                                  have hal2 := HAL.out.2
                                  cases hrm : o.room with
                                  | false =>
                                    rw [hrm] at u3 v3
                                    have HTF := Aside0.mk (HT0.out hrm)
                                    clear hrm
                                    go_wp2_with (fail)
                                    exact ⟨⟨k + 1, oA', oB', vA', vB', sA', sB', xs, ys, ns, by go_num, by omega, by omega, HP6, HTF, HNS⟩, by simp [intOf]; omega⟩
                                  | true =>
                                    rw [hrm] at u3 v3
                                    have HTF := Aside0.mk (HT1.out hrm)
                                    clear hrm
                                    go_upto_region 26 with (fail)
                                    go_cut [11, 12] (fun sx sy wx => Aside0 (Pair w0 wx oA' oB' a b vA' vB' sA' sB' sx sy (.slice A13 ns.length c13) (xs ++ [o.at_]) (ys ++ [o2.at_]) ns) ∧ Aside0 (Blk wx wr.heap.size #[.int .i64 p'.kind, .int .i64 p'.room, .int .u64 OF, .int .u64 SZ, .int .i64 p'.prot, .int .u64 p'.hint, .slice A6 LD c6] 60))
                                    case first =>
                                      as_aux_lemma =>
                                        have n2 := World.new_ne w6 _ u2
                                        have n3 := World.new_ne w6 _ v2
                                        clear u0 u1 u3 v0 v1 v3 hn1
                                        have HWG := Aside0.mk (show wr.heap.size ≤ g ∧ wr.heap.size ≤ g2 ∧ wr.heap.size ≤ w6.heap.size from by
                                          have a1 := HBK3.out.lt
                                          have a2 := HGW.out
                                          have a3 := HH6.out.lt
                                          exact ⟨by omega, by omega, by omega⟩)
                                        have HNX := Aside0.mk (fun (q : Nat) (hq : wr.heap.size ≤ q) => (show (Value.slice A11 xs.length c11).ownBlock ≠ some q from fun e => Nat.lt_irrefl _ (Nat.lt_of_lt_of_le (own_lt HP.out.A.row q e) hq)))
                                        have HNY := Aside0.mk (fun (q : Nat) (hq : wr.heap.size ≤ q) => (show (Value.slice A12 ys.length c12).ownBlock ≠ some q from fun e => Nat.lt_irrefl _ (Nat.lt_of_lt_of_le (own_lt HP.out.B.row q e) hq)))
                                        go_region_held3 (fun w' => w'.cell? ⟨g, 2, none⟩ = some (.int .u64 (o.at_ : Int)) ∧ w'.cell? ⟨g2, 2, none⟩ = some (.int .u64 (o2.at_ : Int))) (go_keep) (first | (refine gateR (N := 180) rfl ?_; (refine step_pushX (by rfl) (.tmp 176) (.tmp 179) (by rfl) HP8.out (by repeat (first | exact Below.refl _ _ | refine below_drew1 ?_ | refine below_alloc ?_ _ | refine pw_below_drewN ?_ _)) o.at_ _ HAL.out.1 (by rfl) (by rfl) (by first | exact (blkL1 _ _ _).cell 0 _ rfl | exact (blkL2 _ _ _ _).cell 0 _ rfl | exact (blkL3 _ _ _ _).cell 0 _ rfl | exact HZ8.out) (by omega) ?_); intro z9 w9 hP hG; have HP9 := Aside0.mk hP; have hK := (fun (q : Nat) (cs : Array Value) (t : TypeId) (hB : Blk _ q cs t) (hq : wr.heap.size ≤ q) => hB.move (hG.block q hB.lt (fun e => HNX.out q hq e.symm))); have HG9 := Aside0.mk (hK g _ _ (HG8.out.below (by repeat (first | exact Below.refl _ _ | refine below_drew1 ?_ | refine below_alloc ?_ _ | refine pw_below_drewN ?_ _))) HWG.out.1); have HH9 := Aside0.mk (hK g2 _ _ (HH8.out.below (by repeat (first | exact Below.refl _ _ | refine below_drew1 ?_ | refine below_alloc ?_ _ | refine pw_below_drewN ?_ _))) HWG.out.2.1); have HB9 := Aside0.mk (hK wr.heap.size _ _ (HB8.out.below (by repeat (first | exact Below.refl _ _ | refine below_drew1 ?_ | refine below_alloc ?_ _ | refine pw_below_drewN ?_ _))) (Nat.le_refl _)); have q2 : w9.cell? ⟨g, 2, none⟩ = some (.int .u64 (o.at_ : Int)) := HG9.out.cell 2 _ rfl; have r2 : w9.cell? ⟨g2, 2, none⟩ = some (.int .u64 (o2.at_ : Int)) := HH9.out.cell 2 _ rfl; clear hP hG hK) | (refine gateR (N := 185) rfl ?_; (refine step_pushY (by rfl) (.tmp 181) (.tmp 184) (by rfl) HP8.out (by repeat (first | exact Below.refl _ _ | refine below_drew1 ?_ | refine below_alloc ?_ _ | refine pw_below_drewN ?_ _)) o2.at_ _ HAL.out.2 (by rfl) (by rfl) (by first | exact (blkL1 _ _ _).cell 0 _ rfl | exact (blkL2 _ _ _ _).cell 0 _ rfl | exact (blkL3 _ _ _ _).cell 0 _ rfl | exact HZ8.out) (by omega) ?_); intro z9 w9 hP hG; have HP9 := Aside0.mk hP; have hK := (fun (q : Nat) (cs : Array Value) (t : TypeId) (hB : Blk _ q cs t) (hq : wr.heap.size ≤ q) => hB.move (hG.block q hB.lt (fun e => HNY.out q hq e.symm))); have HG9 := Aside0.mk (hK g _ _ (HG8.out.below (by repeat (first | exact Below.refl _ _ | refine below_drew1 ?_ | refine below_alloc ?_ _ | refine pw_below_drewN ?_ _))) HWG.out.1); have HH9 := Aside0.mk (hK g2 _ _ (HH8.out.below (by repeat (first | exact Below.refl _ _ | refine below_drew1 ?_ | refine below_alloc ?_ _ | refine pw_below_drewN ?_ _))) HWG.out.2.1); have HB9 := Aside0.mk (hK wr.heap.size _ _ (HB8.out.below (by repeat (first | exact Below.refl _ _ | refine below_drew1 ?_ | refine below_alloc ?_ _ | refine pw_below_drewN ?_ _))) (Nat.le_refl _)); have q2 : w9.cell? ⟨g, 2, none⟩ = some (.int .u64 (o.at_ : Int)) := HG9.out.cell 2 _ rfl; have r2 : w9.cell? ⟨g2, 2, none⟩ = some (.int .u64 (o2.at_ : Int)) := HH9.out.cell 2 _ rfl; clear hP hG hK) | (refine gateR (N := 180) rfl ?_; (refine step_pushX (by rfl) (.tmp 176) (.tmp 179) (by rfl) HP6.out (by repeat (first | exact Below.refl _ _ | refine below_drew1 ?_ | refine below_alloc ?_ _ | refine pw_below_drewN ?_ _)) o.at_ _ HAL.out.1 (by rfl) (by rfl) (by first | exact (blkL1 _ _ _).cell 0 _ rfl | exact (blkL2 _ _ _ _).cell 0 _ rfl | exact (blkL3 _ _ _ _).cell 0 _ rfl) (by omega) ?_); intro z8 w8 hP hG; have HP8 := Aside0.mk hP; have hK := (fun (q : Nat) (cs : Array Value) (t : TypeId) (hB : Blk _ q cs t) (hq : wr.heap.size ≤ q) => hB.move (hG.block q hB.lt (fun e => HNX.out q hq e.symm))); have HG8 := Aside0.mk (hK g _ _ (HG6.out.below (by repeat (first | exact Below.refl _ _ | refine below_drew1 ?_ | refine below_alloc ?_ _ | refine pw_below_drewN ?_ _))) HWG.out.1); have HH8 := Aside0.mk (hK g2 _ _ (HH6.out.below (by repeat (first | exact Below.refl _ _ | refine below_drew1 ?_ | refine below_alloc ?_ _ | refine pw_below_drewN ?_ _))) HWG.out.2.1); have HB8 := Aside0.mk (hK wr.heap.size _ _ (HB6.out.below (by repeat (first | exact Below.refl _ _ | refine below_drew1 ?_ | refine below_alloc ?_ _ | refine pw_below_drewN ?_ _))) (Nat.le_refl _)); have q2 : w8.cell? ⟨g, 2, none⟩ = some (.int .u64 (o.at_ : Int)) := HG8.out.cell 2 _ rfl; have r2 : w8.cell? ⟨g2, 2, none⟩ = some (.int .u64 (o2.at_ : Int)) := HH8.out.cell 2 _ rfl; (first | have HZ8 := Aside0.mk (show w8.cell? ⟨w6.heap.size + 1, 0, none⟩ = some (.int .u64 (o2.at_ : Int)) from (hK _ _ _ (blkL2 _ _ _ _) (Nat.le_succ_of_le HWG.out.2.2)).cell 0 _ rfl) | have HZ8 := Aside0.mk (show w8.cell? ⟨w6.heap.size, 0, none⟩ = some (.int .u64 (o2.at_ : Int)) from (hK _ _ _ (blkL3 _ _ _ _) HWG.out.2.2).cell 0 _ rfl) | skip); clear hP hG hK) | (refine gateR (N := 185) rfl ?_; (refine step_pushY (by rfl) (.tmp 181) (.tmp 184) (by rfl) HP6.out (by repeat (first | exact Below.refl _ _ | refine below_drew1 ?_ | refine below_alloc ?_ _ | refine pw_below_drewN ?_ _)) o2.at_ _ HAL.out.2 (by rfl) (by rfl) (by first | exact (blkL1 _ _ _).cell 0 _ rfl | exact (blkL2 _ _ _ _).cell 0 _ rfl | exact (blkL3 _ _ _ _).cell 0 _ rfl) (by omega) ?_); intro z8 w8 hP hG; have HP8 := Aside0.mk hP; have hK := (fun (q : Nat) (cs : Array Value) (t : TypeId) (hB : Blk _ q cs t) (hq : wr.heap.size ≤ q) => hB.move (hG.block q hB.lt (fun e => HNY.out q hq e.symm))); have HG8 := Aside0.mk (hK g _ _ (HG6.out.below (by repeat (first | exact Below.refl _ _ | refine below_drew1 ?_ | refine below_alloc ?_ _ | refine pw_below_drewN ?_ _))) HWG.out.1); have HH8 := Aside0.mk (hK g2 _ _ (HH6.out.below (by repeat (first | exact Below.refl _ _ | refine below_drew1 ?_ | refine below_alloc ?_ _ | refine pw_below_drewN ?_ _))) HWG.out.2.1); have HB8 := Aside0.mk (hK wr.heap.size _ _ (HB6.out.below (by repeat (first | exact Below.refl _ _ | refine below_drew1 ?_ | refine below_alloc ?_ _ | refine pw_below_drewN ?_ _))) (Nat.le_refl _)); have q2 : w8.cell? ⟨g, 2, none⟩ = some (.int .u64 (o.at_ : Int)) := HG8.out.cell 2 _ rfl; have r2 : w8.cell? ⟨g2, 2, none⟩ = some (.int .u64 (o2.at_ : Int)) := HH8.out.cell 2 _ rfl; (first | have HZ8 := Aside0.mk (show w8.cell? ⟨w6.heap.size + 1, 0, none⟩ = some (.int .u64 (o.at_ : Int)) from (hK _ _ _ (blkL2 _ _ _ _) (Nat.le_succ_of_le HWG.out.2.2)).cell 0 _ rfl) | have HZ8 := Aside0.mk (show w8.cell? ⟨w6.heap.size, 0, none⟩ = some (.int .u64 (o.at_ : Int)) from (hK _ _ _ (blkL3 _ _ _ _) HWG.out.2.2).cell 0 _ rfl) | skip); clear hP hG hK))
                                        all_goals go_wp2_with (fail)
                                        all_goals go_meet
                                        all_goals exact ⟨HP9, HB9⟩
                                    case rest =>
                                      as_aux_lemma =>
                                        obtain ⟨HP7, HB7⟩ := hcut
                                        rename World => w7
                                        have o3 : w7.cell? ⟨wr.heap.size, 3, none⟩ = some (.int .u64 (SZ : Int)) := HB7.out.cell 3 _ rfl
                                        have hz7 : w0.heap.size ≤ w7.heap.size := HP7.out.A.bel.size
                                        have hn60 : ns.length ≤ 60 := by rw [← HLX.out]; exact hx60
                                        have ew : IntKind.i64.wrap ((SZ : Int) % 70) = ((SZ % 70 : Nat) : Int) := by rw [IntWalk.i64_in _ ⟨by omega, by omega⟩]; omega
                                        have hsz7 : SZ % 70 ≤ 69 := by omega
                                        have HTG := Aside0.mk (show Tw sA' sB' (xs ++ [o.at_]) (ys ++ [o2.at_]) (ns ++ [SZ % 70]) from by rw [HSZ.out]; exact HTF.out)
                                        clear u0 u1 u2 u3 v0 v1 v2 v3 hn1
                                        go_wp2_with (at_builtin; refine print_append_cells (W := w7) (w0 := w0) w0.heap.size rfl (.tmp 186) (.tmp 191) 58 3 (.int .i64 0) 1 8 rfl Try.underlying58 info3 rfl (by decide) (by decide) _ ns.length (nums .i64 (natsI ns)) [.int .i64 ((SZ : Int) % 70)] rfl rfl rfl (by simp [Value.oneCell']) HP7.out.rowP HP7.out.A.bel hz7 (by omega) ?_; intro v8 w8 ho8 hb8 hg8 hx8; have HP8 := Aside0.mk (HP7.out.pushP (SZ % 70) (by rw [show ((SZ % 70 : Nat) : Int) = (SZ : Int) % 70 from by omega]; exact ho8) hb8 hg8 hx8); clear ho8 hb8 hg8 hx8)
                                        exact ⟨⟨k + 1, oA', oB', vA', vB', sA', sB', xs ++ [o.at_], ys ++ [o2.at_], ns ++ [SZ % 70], by go_num, by omega, by rw [List.length_append, List.length_singleton]; omega, HP8, HTG, ⟨fun n hn => by
                                          rcases List.mem_append.1 hn with hn | hn
                                          · exact HNS.out n hn
                                          · rw [List.mem_singleton.1 hn]; omega⟩⟩, by simp [intOf]; omega⟩
        · obtain rfl : k = n := by omega
          have hue : ((sA.used : Int) == (sB.used : Int)) = true := by rw [HT.out.used]; simp
          obtain ⟨m3, hm3⟩ : ∃ m3, m3 = (pgsOf sA.rs).length := ⟨_, rfl⟩
          have hm4 : (pgsOf sB.rs).length = m3 := by rw [hm3, cnt_pgs, cnt_pgs, HT.out.cnt]
          have hmb : ((m3 : Int) == (m3 : Int)) = true := by simp
          have HM3 := Aside0.mk (And.intro hm3 hm4)
          clear hm3 hm4
          go_wp2_with (first
            | (go_at_call 28; (with_reducible refine (used_in HP.out.A.hold).mono ?_); rintro _ _ ⟨rfl, rfl⟩)
            | (go_at_call 28; (with_reducible refine (used_in HP.out.B.hold).mono ?_); rintro _ _ ⟨rfl, rfl⟩)
            | (go_at_call 29; (with_reducible refine (was_in HP.out.A.hold).mono ?_); rintro _ W8 ⟨A8, c8, rfl, -, hB8⟩; rw [← HM3.out.1]; have HP8 := Aside0.mk (HP.out.below hB8); clear hB8)
            | (go_at_call 29; (with_reducible refine (was_in HP8.out.B.hold).mono ?_); rintro _ W9 ⟨A9, c9, rfl, -, hB9⟩; rw [HM3.out.2]; have HP9 := Aside0.mk (HP8.out.below hB9); clear hB9)
            | (go_at_call 25; (with_reducible refine (alive_in _).mono ?_); rintro _ W10 ⟨rfl, hB10⟩; have HB10 := Aside0.mk (below_then HP9.out.A.bel HP9.out.A.bel.size hB10); clear hB10))
          go_ret
          exact ⟨rfl, HB10.out⟩
end Go.Proofs.Ytmpahimeljbliaa.Vm
