/- VmemApart: walked. No condition but that the calls lie in memory as told. -/
import Derived.Test.YtmpahimeljbliaaVmFine
import Derived.StillTailTactics
namespace Go.Proofs.Ytmpahimeljbliaa.Vm
open Go.RowKit Go.Proofs Go.Proofs.YtmpahimeljbliaaW.PrintWords

set_option maxRecDepth 100000 in
set_option maxHeartbeats 2000000 in
theorem apart_in {w0 : World} {A : Option Addr} {l : List Opn} (hO : Ops w0 A l) (hf : ∀ p ∈ l, p.Fine) (c : Nat) (budget : Int) : Calls Try.prog 12 #[.int .i64 budget, .slice A l.length c] w0 fun e w' => e = .returned (.bool true) ∧ Below w0.heap.size w0 w' := by
  have HQ := big_in hO c
  cases hb : bigF l with
  | true =>
    rw [hb] at HQ
    clear hO hf hb
    go_enter Try.func12, Try.ntmps12
    go_wp2_with (go_at_call 23; (with_reducible refine HQ.mono ?_); rintro _ _ ⟨rfl, rfl⟩)
    go_ret
    exact ⟨rfl, Below.refl _ _⟩
  | false =>
    rw [hb] at HQ
    by_cases hbad : budget < 1 ∨ budget > 1024
    · have HN := new_bad budget w0 hbad
      clear hbad hO hf hb
      go_enter Try.func12, Try.ntmps12
      go_wp2_with (first
        | (go_at_call 23; (with_reducible refine HQ.mono ?_); rintro _ _ ⟨rfl, rfl⟩)
        | (go_at_call 24; (with_reducible refine HN.mono ?_); rintro _ _ ⟨rfl, rfl⟩)
        | (go_at_call 25; (with_reducible refine (alive_in w0).mono ?_); rintro _ W1 ⟨rfl, hB⟩; have HB := Aside0.mk hB; clear hB))
      go_ret
      exact ⟨rfl, HB.out⟩
    · obtain ⟨bg, rfl⟩ : ∃ n : Nat, budget = n := ⟨budget.toNat, by omega⟩
      have hb1 : 1 ≤ bg := by omega
      have hb2 : bg ≤ 1024 := by omega
      obtain ⟨hl60, hdl⟩ := bigF_no hb
      have HF := Aside0.mk (fun p hp => (hf p hp).ok (hdl p hp))
      have HO := Aside0.mk hO
      have HNW := new_in bg hb1 hb2 w0
      have HST := Aside0.mk (show St w0 (w0.alloc (.cells #[.int .i64 bg, .int .i64 0, .slice none 0 0] 113)) _ w0.heap.size (.slice none 0 0) (empty bg) (.slice none 0 0) [] from ⟨new_holds bg hb1 hb2 w0 w0.heap.size (Nat.le_refl _), below_new _ _, own_nil _ _ _ _, fun k hk => by simp [Value.ownBlock] at hk, fun r hr => by cases hr⟩)
      obtain ⟨n, hn⟩ : ∃ n, n = l.length := ⟨_, rfl⟩
      rw [← hn] at HQ hl60 ⊢
      have HN := Aside0.mk hn
      clear hbad hO hf hb hdl hn
      go_enter Try.func12, Try.ntmps12
      go_wp2_with (first
        | (go_at_call 23; (with_reducible refine HQ.mono ?_); rintro _ _ ⟨rfl, rfl⟩)
        | (go_at_call 24; (with_reducible refine HNW.mono ?_); rintro _ W1 ⟨rfl, hW1⟩; rw [← hW1] at HST; clear hW1))
      go_loopw [7, 8] (fun rv i wr => ∃ (k : Nat) (own : Nat → Option Role) (v : Value) (s : Sp) (rooms : List Nat), i = .int .i64 k ∧ k ≤ n ∧ rooms.length ≤ k ∧ Aside0 (s.budget = bg) ∧ Aside0 (St w0 wr own w0.heap.size v s rv rooms)) (fun _ i _ => n - (intOf i).toNat)
      case atStart => exact ⟨0, _, _, _, [], rfl, Nat.zero_le _, Nat.le_refl _, ⟨rfl⟩, HST⟩
      case round =>
        obtain ⟨k, own, v, s, rooms, rfl, hk, hrl, HBG, HS⟩ := hrel
        by_cases hlt : k < n
        · obtain ⟨p, hp⟩ : ∃ p, l[k]? = some p := ⟨l[k]'(by rw [← HN.out]; exact hlt), List.getElem?_eq_getElem _⟩
          obtain ⟨ad, A6, c6, rfl, hat⟩ := HO.out k p hp
          have hok := HF.out p (List.mem_of_getElem? hp)
          have HAT := Aside0.mk hat
          have HOK := Aside0.mk hok
          obtain ⟨g0, g1, g2, g3, g4, g5, g6, -, -⟩ := hat.below HS.out.bel
          obtain ⟨A7, c7, rfl, hrr⟩ := HS.out.reads
          clear hat hok hp
          go_wp2
          have hzw : w0.heap.size ≤ wr.heap.size := HS.out.bel.size
          have n0 := World.new_ne wr _ g0
          have n1 := World.new_ne wr _ g1
          have n2 := World.new_ne wr _ g2
          have n3 := World.new_ne wr _ g3
          have n4 := World.new_ne wr _ g4
          have n5 := World.new_ne wr _ g5
          have n6 := World.new_ne wr _ g6
          have HBD := Aside0.mk (show Below wr.heap.size wr wr.drew from below_drew1 (Below.refl _ _))
          have HBA := Aside0.mk (show Below wr.heap.size wr (wr.alloc (.cells #[.int .i64 0, .string ⟨#[]⟩, .int .u64 0, .bool false] 63)).drew from below_drew1 (below_alloc (Below.refl _ _) _))
          go_region_held3 (fun w' => w'.cell? (ad.add (k * 7)) = some (.int .i64 p.kind) ∧ w'.cell? ⟨(ad.add (k * 7)).block, (ad.add (k * 7)).off + 1, none⟩ = some (.int .i64 p.room) ∧ w'.cell? ⟨(ad.add (k * 7)).block, (ad.add (k * 7)).off + 2, none⟩ = some (.int .u64 p.off) ∧ w'.cell? ⟨(ad.add (k * 7)).block, (ad.add (k * 7)).off + 3, none⟩ = some (.int .u64 p.size) ∧ w'.cell? ⟨(ad.add (k * 7)).block, (ad.add (k * 7)).off + 4, none⟩ = some (.int .i64 p.prot) ∧ w'.cell? ⟨(ad.add (k * 7)).block, (ad.add (k * 7)).off + 5, none⟩ = some (.int .u64 p.hint) ∧ w'.cell? ⟨(ad.add (k * 7)).block, (ad.add (k * 7)).off + 6, none⟩ = some (.slice A6 p.data.length c6)) (go_keep) (first | (go_at_call 27; (with_reducible refine (St.call HS.out HAT.out HOK.out (by omega) p.hint HOK.out.h2 HBD.out).mono ?_); rintro _ W2 ⟨own', v', s', o, rfl, hD, hS2, hKK, hsz⟩; obtain ⟨t0, t1, t2, t3, t4, t5, t6, -, -⟩ := HAT.out.below hS2.bel; have HD := Aside0.mk hD; have HS2 := Aside0.mk hS2; have HKK := Aside0.mk hKK; have HSZ := Aside0.mk hsz; clear hD hS2 hKK hsz) | (go_at_call 27; (with_reducible refine (St.call HS.out HAT.out HOK.out (by omega) p.hint HOK.out.h2 HBA.out).mono ?_); rintro _ W2 ⟨own', v', s', o, rfl, hD, hS2, hKK, hsz⟩; obtain ⟨t0, t1, t2, t3, t4, t5, t6, -, -⟩ := HAT.out.below hS2.bel; have HD := Aside0.mk hD; have HS2 := Aside0.mk hS2; have HKK := Aside0.mk hKK; have HSZ := Aside0.mk hsz; have HG2 := Aside0.mk (show Blk W2 wr.heap.size #[.int .i64 0, .string ⟨#[]⟩, .int .u64 0, .bool false] 63 from (hKK wr.heap.size (Nat.le_refl _) (by simp)).1.trans (Blk.new wr _ 63)); have x0 := HG2.out.cell 0 _ rfl; have x1 := HG2.out.cell 1 _ rfl; have x2 := HG2.out.cell 2 _ rfl; have x3 := HG2.out.cell 3 _ rfl; have y0 := HG2.out.free 0; have y1 := HG2.out.free 1; have y2 := HG2.out.free 2; have y3 := HG2.out.free 3; clear hD hS2 hKK hsz))
          · have hst3 : St w0 (W2.alloc (.cells #[.int .i64 o.e, .string (strOfNums o.b), .int .u64 (o.at_ : Int), .bool o.room] 63)) own' w0.heap.size v' s' (.slice A7 rooms.length c7) rooms := HS2.out.below (below_new W2 _)
            have hblk : Blk (W2.alloc (.cells #[.int .i64 o.e, .string (strOfNums o.b), .int .u64 (o.at_ : Int), .bool o.room] 63)) W2.heap.size #[.int .i64 o.e, .string (strOfNums o.b), .int .u64 (o.at_ : Int), .bool o.room] 63 := Blk.new W2 _ 63
            generalize hW3 : W2.alloc (.cells #[.int .i64 o.e, .string (strOfNums o.b), .int .u64 (o.at_ : Int), .bool o.room] 63) = W3 at *
            generalize hgg : W2.heap.size = g at *
            have HA3 := Aside0.mk hst3
            have HAL := Aside0.mk (HD.out.at_le HS.out.hold.good)
            have HBB := Aside0.mk (HD.out.budget.trans HBG.out)
            have hal : o.at_ ≤ 18446744073709551615 := HAL.out
            have hz3 : w0.heap.size ≤ W3.heap.size := HA3.out.bel.size
            have u2 : W3.cell? ⟨g, 2, none⟩ = some (.int .u64 (o.at_ : Int)) := hblk.cell 2 _ rfl
            have u3 : W3.cell? ⟨g, 3, none⟩ = some (.bool o.room) := hblk.cell 3 _ rfl
            clear hst3 hblk hW3 hgg g0 g1 g2 g3 g4 g5 g6 n0 n1 n2 n3 n4 n5 n6 t0 t1 t2 t3 t4 t5 t6
            cases hrm : o.room with
            | true =>
              rw [hrm] at u3
              clear hrm
              go_wp2_with (at_builtin; refine print_append_cells (W := W3) (w0 := w0) w0.heap.size rfl (.tmp 56) (.tmp 59) 53 28 (.int .u64 0) 1 8 rfl Try.underlying53 info28 rfl (by decide) (by decide) _ rooms.length (nums .u64 (natsI rooms)) [.int .u64 (o.at_ : Int)] rfl rfl rfl (by simp [Value.oneCell']) HA3.out.row HA3.out.bel hz3 (by omega) ?_; intro v1 w1 ho1 hb1 hg1 hx1; have HS4 := Aside0.mk (HA3.out.push o.at_ HAL.out ho1 hb1 hg1 hx1); clear ho1 hb1 hg1 hx1)
              go_roundw
              case rel => exact ⟨k + 1, own', v', s', rooms ++ [o.at_], by go_num, by omega, by rw [List.length_append, List.length_singleton]; omega, HBB, HS4⟩
              case measure => simp [intOf]; omega
            | false =>
              rw [hrm] at u3
              clear hrm
              go_wp2
              go_roundw
              case rel => exact ⟨k + 1, own', v', s', rooms, by go_num, by omega, by omega, HBB, HA3⟩
              case measure => simp [intOf]; omega
          · have hgo := (HKK.out wr.heap.size (Nat.le_refl _) (by simp)).2
            have hgr : (Value.slice A7 rooms.length c7).ownBlock ≠ some wr.heap.size := fun e => Nat.lt_irrefl _ (own_lt HS.out.row wr.heap.size e)
            have hst3 : St w0 ((((W2.setCell ⟨wr.heap.size, 0, none⟩ (.int .i64 o.e)).setCell ⟨wr.heap.size, 1, none⟩ (.string (strOfNums o.b))).setCell ⟨wr.heap.size, 2, none⟩ (.int .u64 (o.at_ : Int))).setCell ⟨wr.heap.size, 3, none⟩ (.bool o.room)) own' w0.heap.size v' s' (.slice A7 rooms.length c7) rooms := (((HS2.out.set hzw hgo hgr 0 _).set hzw hgo hgr 1 _).set hzw hgo hgr 2 _).set hzw hgo hgr 3 _
            have hblk : Blk ((((W2.setCell ⟨wr.heap.size, 0, none⟩ (.int .i64 o.e)).setCell ⟨wr.heap.size, 1, none⟩ (.string (strOfNums o.b))).setCell ⟨wr.heap.size, 2, none⟩ (.int .u64 (o.at_ : Int))).setCell ⟨wr.heap.size, 3, none⟩ (.bool o.room)) wr.heap.size #[.int .i64 o.e, .string (strOfNums o.b), .int .u64 (o.at_ : Int), .bool o.room] 63 := (((HG2.out.set 0 _).set 1 _).set 2 _).set 3 _
            clear hgo hgr x0 x1 x2 x3 y0 y1 y2 y3
            generalize hW3 : (((W2.setCell ⟨wr.heap.size, 0, none⟩ (.int .i64 o.e)).setCell ⟨wr.heap.size, 1, none⟩ (.string (strOfNums o.b))).setCell ⟨wr.heap.size, 2, none⟩ (.int .u64 (o.at_ : Int))).setCell ⟨wr.heap.size, 3, none⟩ (.bool o.room) = W3 at *
            generalize hgg : wr.heap.size = g at *
            have HA3 := Aside0.mk hst3
            have HAL := Aside0.mk (HD.out.at_le HS.out.hold.good)
            have HBB := Aside0.mk (HD.out.budget.trans HBG.out)
            have hal : o.at_ ≤ 18446744073709551615 := HAL.out
            have hz3 : w0.heap.size ≤ W3.heap.size := HA3.out.bel.size
            have u2 : W3.cell? ⟨g, 2, none⟩ = some (.int .u64 (o.at_ : Int)) := hblk.cell 2 _ rfl
            have u3 : W3.cell? ⟨g, 3, none⟩ = some (.bool o.room) := hblk.cell 3 _ rfl
            clear hst3 hblk hW3 hgg g0 g1 g2 g3 g4 g5 g6 n0 n1 n2 n3 n4 n5 n6 t0 t1 t2 t3 t4 t5 t6
            cases hrm : o.room with
            | true =>
              rw [hrm] at u3
              clear hrm
              go_wp2_with (at_builtin; refine print_append_cells (W := W3) (w0 := w0) w0.heap.size rfl (.tmp 56) (.tmp 59) 53 28 (.int .u64 0) 1 8 rfl Try.underlying53 info28 rfl (by decide) (by decide) _ rooms.length (nums .u64 (natsI rooms)) [.int .u64 (o.at_ : Int)] rfl rfl rfl (by simp [Value.oneCell']) HA3.out.row HA3.out.bel hz3 (by omega) ?_; intro v1 w1 ho1 hb1 hg1 hx1; have HS4 := Aside0.mk (HA3.out.push o.at_ HAL.out ho1 hb1 hg1 hx1); clear ho1 hb1 hg1 hx1)
              go_roundw
              case rel => exact ⟨k + 1, own', v', s', rooms ++ [o.at_], by go_num, by omega, by rw [List.length_append, List.length_singleton]; omega, HBB, HS4⟩
              case measure => simp [intOf]; omega
            | false =>
              rw [hrm] at u3
              clear hrm
              go_wp2
              go_roundw
              case rel => exact ⟨k + 1, own', v', s', rooms, by go_num, by omega, by omega, HBB, HA3⟩
              case measure => simp [intOf]; omega
        · obtain rfl : k = n := by omega
          have hle := HS.out.hold.good.len
          obtain ⟨m2, hm2⟩ : ∃ m2, m2 = s.rs.length := ⟨_, rfl⟩
          obtain ⟨m3, hm3⟩ : ∃ m3, m3 = (pgsOf s.rs).length := ⟨_, rfl⟩
          have HM2 := Aside0.mk hm2
          have HM3 := Aside0.mk hm3
          rw [← hm2] at hle
          go_wp2_with (first
            | (go_at_call 37; (with_reducible refine (regions_in HS.out.hold).mono ?_); rintro _ W2 ⟨v2, rfl, hO2, hB2⟩; obtain ⟨A2, c2, rfl, hR⟩ := regs_at hO2; rw [← hm2]; clear hm2; have HR2 := Aside0.mk hR; have HS2 := Aside0.mk (HS.out.below hB2); clear hO2 hB2 hR)
            | (go_at_call 29; (with_reducible refine (pages_all HS2.out.hold).mono ?_); rintro _ W3 ⟨v3, rfl, hO3, hB3⟩; obtain ⟨A3, c3, rfl, hP⟩ := pgs_at hO3 HS2.out.hold.lens; have hm3b := own_max hO3; rw [← hm3] at hm3b; rw [← hm3]; clear hm3; have HP3 := Aside0.mk (fun (W : World) (hB : Below W3.heap.size W3 W) (q : Nat) (g : Pg) (hg : (pgsOf s.rs)[q]? = some g) => (show ∃ ad, A3 = some ad ∧ W.cell? (ad.add (q * 258)) = some (.int .u64 g.at_) from by obtain ⟨ad, e, h0, -⟩ := hP q g hg; exact ⟨ad, e, (hB.cell (cell_lt h0)).trans h0⟩)); have HR3 := Aside0.mk (fun (W : World) (hB : Below W3.heap.size W3 W) (q : Nat) (r : Rm) (hr : s.rs[q]? = some r) => (show ∃ ad, A2 = some ad ∧ W.cell? (ad.add (q * 2)) = some (.int .u64 r.at_) ∧ W.cell? ⟨(ad.add (q * 2)).block, (ad.add (q * 2)).off + 1, none⟩ = some (.int .i64 r.ps.length) from by obtain ⟨ad, e, h0, h1⟩ := HR2.out q r hr; have hb := hB3.trans (Below.mono hB hB3.size); exact ⟨ad, e, (hb.cell (cell_lt h0)).trans h0, (hb.cell (cell_lt h1)).trans h1⟩)); have HS3 := Aside0.mk (HS2.out.below hB3); clear hO3 hB3 hP))
          go_loopw [12, 13, 14] (fun en al i wr => ∃ q e t : Nat, i = .int .i64 q ∧ en = .int .u64 e ∧ al = .int .i64 t ∧ q ≤ m2 ∧ e ≤ 1099511627776 ∧ t ≤ 1024 ∧ Aside0 (∀ r, s.rs[q]? = some r → e ≤ r.at_) ∧ Aside0 (t = total (s.rs.take q)) ∧ Aside0 (Below W3.heap.size W3 wr)) (fun _ _ i _ => m2 - (intOf i).toNat)
          case atStart => exact ⟨0, 256, 0, rfl, rfl, rfl, Nat.zero_le _, by omega, by omega, ⟨fun r hr => (HS3.out.hold.good.rm r (List.mem_of_getElem? hr)).lo⟩, ⟨rfl⟩, ⟨Below.refl _ _⟩⟩
          case round =>
            obtain ⟨q, e, t, rfl, rfl, rfl, hq, he, ht, HE, HT, HB⟩ := hrel
            by_cases hlt2 : q < m2
            · obtain ⟨r, hr⟩ : ∃ r, s.rs[q]? = some r := ⟨s.rs[q]'(by rw [← HM2.out]; exact hlt2), List.getElem?_eq_getElem _⟩
              have hrg := HS3.out.hold.good.rm r (List.mem_of_getElem? hr)
              obtain ⟨ad, rfl, r0, r1⟩ := HR3.out wr HB.out q r hr
              have her := HE.out r hr
              have hl1 := hrg.l1
              have hl2 := hrg.l2
              have hfi := hrg.hi
              have hfin : r.fin = r.at_ + r.ps.length * 256 := rfl
              have hz : ((r.at_ : Int) % 256 != 0) = false := by have := hrg.al; simp; omega
              have HE' := Aside0.mk (show ∀ r', s.rs[q + 1]? = some r' → r.fin ≤ r'.at_ from fun r' hr' => HS3.out.hold.good.apart hr hr' (Nat.lt_succ_self q))
              have htt : total (s.rs.take (q + 1)) = t + r.ps.length := by rw [total_snoc _ _ _ hr, HT.out]
              have HT' := Aside0.mk htt.symm
              have ht2 : t + r.ps.length ≤ 1024 := by
                have h1 := total_take s.rs (q + 1)
                have h2 := HS3.out.hold.good.us
                have h3 := HS3.out.hold.good.ub
                have h4 := HS3.out.hold.good.b2
                omega
              obtain ⟨P, hP⟩ : ∃ P, P = r.ps.length := ⟨_, rfl⟩
              obtain ⟨F, hF⟩ : ∃ F, F = r.fin := ⟨_, rfl⟩
              rw [← hP] at r1 hl1 hl2 hfin HT' ht2
              rw [← hF] at hfi hfin HE'
              clear hrg hP hF htt hr
              go_wp2
              have e0 : IntKind.u64.wrap (P : Int) = (P : Int) := by rw [IntKind.wrap_u64]; omega
              have e1 : IntKind.u64.wrap ((P : Int) * 256) = (P : Int) * 256 := by rw [IntKind.wrap_u64]; omega
              have e2 : IntKind.u64.wrap ((r.at_ : Int) + (P : Int) * 256) = (F : Int) := by rw [IntKind.wrap_u64]; omega
              go_quiet (fail)
              go_wp2
              go_roundw
              case rel => exact ⟨q + 1, F, t + P, by go_num, by rw [hfin]; congr 1, by go_num, by omega, hfi, ht2, HE', HT', ⟨pw_below_drewN HB.out _⟩⟩
              case measure => simp [intOf]; omega
            · obtain rfl : q = m2 := by omega
              have htu := HT.out
              rw [HM2.out, List.take_length, ← HS3.out.hold.good.us] at htu
              have htb : t ≤ bg := by have := HS3.out.hold.good.ub; have := HBG.out; omega
              have HTU := Aside0.mk htu
              clear htu
              go_wp2
              clear hlt2 hq HE HT
              go_loopw [15] (fun i wr => ∃ y : Nat, i = .int .i64 y ∧ y ≤ m3 ∧ Aside0 (Below W3.heap.size W3 wr)) (fun i _ => m3 - (intOf i).toNat)
              case atStart => exact ⟨0, rfl, Nat.zero_le _, HB⟩
              case round =>
                obtain ⟨y, rfl, hy, HBy⟩ := hrel
                by_cases hlt3 : y < m3
                · obtain ⟨g, hg⟩ : ∃ g, (pgsOf s.rs)[y]? = some g := ⟨(pgsOf s.rs)[y]'(by rw [← HM3.out]; exact hlt3), List.getElem?_eq_getElem _⟩
                  obtain ⟨ad3, rfl, -⟩ := HP3.out W3 (Below.refl _ _) y g hg
                  obtain ⟨rr, hrr, kk, hkk⟩ := pgs_mem (List.mem_of_getElem? hg)
                  have hpi := page_in (HS3.out.hold.good.rm rr hrr) hkk
                  obtain ⟨jj, hjj⟩ := List.mem_iff_getElem?.1 hrr
                  have HIN := Aside0.mk (show ∃ j r, j < q ∧ s.rs[j]? = some r ∧ r.at_ ≤ g.at_ ∧ g.at_ < r.fin from ⟨jj, rr, by rw [HM2.out]; exact (List.getElem?_eq_some_iff.1 hjj).1, hjj, hpi.2.1, hpi.2.2.1⟩)
                  have hgz : ((g.at_ : Int) % 256 != 0) = false := by have := hpi.2.2.2; simp; omega
                  have hgl : g.at_ ≤ 1099511627776 := by have := (HS3.out.hold.good.rm rr hrr).hi; omega
                  have HG := Aside0.mk hg
                  clear hg hrr hkk hpi hjj
                  go_wp2
                  go_loopw [16, 17] (fun b i wr => ∃ (z : Nat) (B : Bool), i = .int .i64 z ∧ b = .bool B ∧ z ≤ q ∧ Aside0 ((∃ j r, j < z ∧ s.rs[j]? = some r ∧ r.at_ ≤ g.at_ ∧ g.at_ < r.fin) → B = true) ∧ Aside0 (Below W3.heap.size W3 wr)) (fun _ i _ => q - (intOf i).toNat)
                  case atStart => exact ⟨0, false, rfl, rfl, Nat.zero_le _, ⟨fun ⟨j, r, hj, _⟩ => by omega⟩, HBy⟩
                  case round =>
                    obtain ⟨z, B, rfl, rfl, hz, HZ, HBz⟩ := hrel
                    by_cases hlt4 : z < q
                    · cases B with
                      | true =>
                        go_wp2
                        go_quiet (fail)
                        go_wp2
                        go_roundw
                        case rel => exact ⟨z + 1, true, by go_num, rfl, by omega, ⟨fun _ => rfl⟩, ⟨pw_below_drewN HBz.out _⟩⟩
                        case measure => simp [intOf]; omega
                      | false =>
                        obtain ⟨r, hr⟩ : ∃ r, s.rs[z]? = some r := ⟨s.rs[z]'(by rw [← HM2.out]; exact hlt4), List.getElem?_eq_getElem _⟩
                        have hrg := HS3.out.hold.good.rm r (List.mem_of_getElem? hr)
                        obtain ⟨ad2, e2, r0, r1⟩ := HR3.out wr HBz.out z r hr
                        cases e2
                        obtain ⟨ad4, e4, p0⟩ := HP3.out wr HBz.out y g HG.out
                        cases e4
                        have hl2 := hrg.l2
                        have hfi := hrg.hi
                        have hfin : r.fin = r.at_ + r.ps.length * 256 := rfl
                        have HR := Aside0.mk hr
                        obtain ⟨P, hP⟩ : ∃ P, P = r.ps.length := ⟨_, rfl⟩
                        obtain ⟨F, hF⟩ : ∃ F, F = r.fin := ⟨_, rfl⟩
                        rw [← hP] at r1 hl2 hfin
                        rw [← hF] at hfi hfin
                        have HFF := Aside0.mk hF
                        clear hrg hr hP hF
                        have e0 : IntKind.u64.wrap (P : Int) = (P : Int) := by rw [IntKind.wrap_u64]; omega
                        have e1 : IntKind.u64.wrap ((P : Int) * 256) = (P : Int) * 256 := by rw [IntKind.wrap_u64]; omega
                        by_cases c1 : r.at_ ≤ g.at_
                        · by_cases c2 : g.at_ < r.at_ + P * 256
                          · go_wp2
                            go_quiet (fail)
                            go_wp2
                            go_roundw
                            case rel => exact ⟨z + 1, true, by go_num, by congr 1; exact decide_eq_true (by omega), by omega, ⟨fun _ => rfl⟩, ⟨pw_below_drewN HBz.out _⟩⟩
                            case measure => simp [intOf]; omega
                          · have HZ' := Aside0.mk (show (∃ j r, j < z + 1 ∧ s.rs[j]? = some r ∧ r.at_ ≤ g.at_ ∧ g.at_ < r.fin) → false = true from fun ⟨j, r', h1, h2, h3, h4⟩ => by
                              rcases Nat.lt_or_ge j z with cj | cj
                              · exact HZ.out ⟨j, r', cj, h2, h3, h4⟩
                              · obtain rfl : j = z := by omega
                                rw [HR.out] at h2
                                cases h2
                                have := HFF.out
                                omega)
                            go_wp2
                            go_quiet (fail)
                            go_wp2
                            go_roundw
                            case rel => exact ⟨z + 1, false, by go_num, by congr 1; exact decide_eq_false (by omega), by omega, HZ', ⟨pw_below_drewN HBz.out _⟩⟩
                            case measure => simp [intOf]; omega
                        · have HZ' := Aside0.mk (show (∃ j r, j < z + 1 ∧ s.rs[j]? = some r ∧ r.at_ ≤ g.at_ ∧ g.at_ < r.fin) → false = true from fun ⟨j, r', h1, h2, h3, h4⟩ => by
                            rcases Nat.lt_or_ge j z with cj | cj
                            · exact HZ.out ⟨j, r', cj, h2, h3, h4⟩
                            · obtain rfl : j = z := by omega
                              rw [HR.out] at h2
                              cases h2
                              exact absurd h3 c1)
                          go_wp2
                          go_quiet (fail)
                          go_wp2
                          go_roundw
                          case rel => exact ⟨z + 1, false, by go_num, rfl, by omega, HZ', ⟨pw_below_drewN HBz.out _⟩⟩
                          case measure => simp [intOf]; omega
                    · obtain rfl : z = q := by omega
                      have hBt := HZ.out HIN.out
                      subst hBt
                      go_wp2
                      obtain ⟨ad4, e4, p0⟩ := HP3.out wr HBz.out y g HG.out
                      cases e4
                      by_cases hy0 : y = 0
                      · subst hy0
                        have ha0 : ad3.add (0 * 258) = ad3 := by unfold Addr.add; simp
                        have p01 : wr.cell? ad3 = some (.int .u64 g.at_) := by rw [ha0] at p0; exact p0
                        go_quiet (fail)
                        go_wp2
                        exact ⟨⟨1, by go_num, by omega, ⟨pw_below_drewN HBz.out _⟩⟩, by simp [intOf]; omega⟩
                      · obtain ⟨y', hy'⟩ : ∃ y', y' + 1 = y := ⟨y - 1, by omega⟩
                        obtain ⟨g', hg'⟩ : ∃ g', (pgsOf s.rs)[y']? = some g' := ⟨(pgsOf s.rs)[y']'(by rw [← HM3.out]; omega), List.getElem?_eq_getElem _⟩
                        obtain ⟨ad5, e5, p1⟩ := HP3.out wr HBz.out y' g' hg'
                        cases e5
                        have hlt5 : g'.at_ < g.at_ := pgs_sorted HS3.out.hold.good hg' (hy' ▸ HG.out)
                        have hy1 : y' < m3 := by omega
                        have hpos : 0 < y := by omega
                        have e184 : (y : Int) - 1 = (y' : Int) := by omega
                        have hpos2 : (0 : Int) < (y : Int) := by omega
                        have hw184 : IntKind.i64.wrap (y' : Int) = (y' : Int) := IntWalk.i64_in _ ⟨by omega, by omega⟩
                        have hgt : ((g.at_ : Int).tmod 256 != 0) = false := by rw [Int.tmod_eq_emod_of_nonneg (by omega)]; exact hgz
                        clear hg' hy'
                        go_quiet (fail)
                        go_wp2
                        exact ⟨⟨y + 1, by go_num, by omega, ⟨pw_below_drewN HBz.out _⟩⟩, by simp [intOf]; omega⟩
                · obtain rfl : y = m3 := by omega
                  go_wp2_with (first
                    | (go_at_call 28; (with_reducible refine (used_in (HS3.out.below HBy.out).hold).mono ?_); rintro _ _ ⟨rfl, rfl⟩; rw [← HTU.out])
                    | (go_at_call 25; (with_reducible refine (alive_in _).mono ?_); rintro _ W9 ⟨rfl, hB9⟩; have HB9 := Aside0.mk (below_then (HS3.out.below HBy.out).bel (HS3.out.below HBy.out).bel.size hB9); clear hB9))
                  go_ret
                  exact ⟨rfl, HB9.out⟩
end Go.Proofs.Ytmpahimeljbliaa.Vm
