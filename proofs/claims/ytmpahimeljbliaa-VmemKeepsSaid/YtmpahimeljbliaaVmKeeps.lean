/- VmemKeeps: walked. No condition but that the calls lie in memory as told. Printed by gen_keeps.py of this session's repository. -/
import Derived.Test.YtmpahimeljbliaaVmWas
import Derived.StillTailTactics
namespace Go.Proofs.Ytmpahimeljbliaa.Vm
open Go.RowKit Go.Proofs Go.Proofs.YtmpahimeljbliaaW.PrintWords

theorem Ops.below {w W : World} {A : Option Addr} {l : List Opn} (h : Ops w A l) (hB : Below w.heap.size w W) : Ops W A l := fun i p hp => by
  obtain ⟨ad, A6, c6, e, hat⟩ := h i p hp
  exact ⟨ad, A6, c6, e, hat.below hB⟩
theorem src_of {wb W : World} {own : Nat → Option Role} {a : Nat} {v : Value} {s : Sp} {A : Option Addr} {c : Nat} {xs : List Int} (h : ReadsInt wb .u8 A xs.length xs) (hc : xs.length ≤ c) (hB : Below wb.heap.size wb W) (hH : Holds W own wb.heap.size a v s) : Src W own A c xs :=
  ⟨h.below hB, hc, fun hn ad' e => by
    obtain ⟨ad0, e0, hc⟩ := h.2.2 hn
    have hl := cell_lt (hc 0 hn)
    have hb : (ad0.add 0).block = ad0.block := by unfold Addr.add; split <;> rfl
    rw [hb] at hl
    rw [e] at e0
    obtain rfl := Option.some.inj e0
    refine ⟨Classical.byContradiction fun cc => ?_, Nat.lt_of_lt_of_le hl hB.size⟩
    have := (hH.lt _ cc).1
    omega⟩
set_option maxRecDepth 100000 in
set_option maxHeartbeats 4000000 in
theorem keeps_in {w0 : World} {A : Option Addr} {l : List Opn} (hO : Ops w0 A l) (hf : ∀ p ∈ l, p.Fine) (c : Nat) (budget : Int) (x : Opn) (hxf : x.Fine) (Ax : Option Addr) (cx : Nat) (hcx : x.data.length ≤ cx) (hxr : ReadsInt w0 .u8 Ax x.data.length x.data) : Calls Try.prog 10 #[.int .i64 budget, .slice A l.length c, .agg (cellsO x Ax cx)] w0 fun e w' => e = .returned (.bool true) ∧ Below w0.heap.size w0 w' := by
  obtain ⟨wb, hwb⟩ : ∃ wb, wb = w0.alloc (.cells (cellsO x Ax cx) 60) := ⟨_, rfl⟩
  have hBb : Below w0.heap.size w0 wb := hwb ▸ below_new w0 _
  have hbx : Blk wb w0.heap.size (cellsO x Ax cx) 60 := hwb ▸ Blk.new w0 _ 60
  have hQ := big_in (hO.below hBb) c
  unfold cellsO at hwb hbx ⊢
  rw [hwb] at hQ
  have HBB := Aside0.mk hBb
  have b6 : wb.cell? ⟨w0.heap.size, 6, none⟩ = some (.slice Ax x.data.length cx) := hbx.cell 6 _ rfl
  have HBX := Aside0.mk hbx
  cases hb : bigF l with
  | true =>
    rw [hb] at hQ
    have HQ := Aside0.mk hQ
    clear hO hf hb hQ hbx hBb hwb b6 hxf hcx hxr
    go_enter Try.func10, Try.ntmps10
    go_wp2_with (go_at_call 23; (with_reducible refine HQ.out.mono ?_); rintro _ _ ⟨rfl, rfl⟩)
    go_ret
    exact ⟨rfl, below_new w0 _⟩
  | false =>
    rw [hb] at hQ
    have HQ := Aside0.mk hQ
    clear hQ
    by_cases hx2 : x.data.length > 2048
    · obtain ⟨m, hm⟩ : ∃ m, m = x.data.length := ⟨_, rfl⟩
      rw [← hm] at hx2 b6 hwb HQ ⊢
      have HWB := Aside0.mk hwb
      clear hO hf hb hbx hBb hwb hxf hcx hxr hm
      go_enter Try.func10, Try.ntmps10
      go_wp2_with (go_at_call 23; (with_reducible refine HQ.out.mono ?_); rintro _ w1 ⟨rfl, hw⟩; rw [← HWB.out] at hw; subst hw)
      go_ret
      exact ⟨rfl, HBB.out⟩
    · by_cases hbad : budget < 1 ∨ budget > 1024
      · have HN := Aside0.mk (new_bad budget wb hbad)
        have HAL := Aside0.mk (alive_in wb)
        obtain ⟨m, hm⟩ : ∃ m, m = x.data.length := ⟨_, rfl⟩
        rw [← hm] at hx2 b6 hwb HQ ⊢
        have HWB := Aside0.mk hwb
        clear hbad hO hf hb hbx hBb hwb hxf hcx hxr hm
        go_enter Try.func10, Try.ntmps10
        go_wp2_with (first
          | (go_at_call 23; (with_reducible refine HQ.out.mono ?_); rintro _ w1 ⟨rfl, hw⟩; rw [← HWB.out] at hw; subst hw)
          | (go_at_call 24; (with_reducible refine HN.out.mono ?_); rintro _ _ ⟨rfl, rfl⟩)
          | (go_at_call 25; (with_reducible refine HAL.out.mono ?_); rintro _ W1 ⟨rfl, hB⟩; have HB := Aside0.mk hB; clear hB))
        go_ret
        exact ⟨rfl, below_then HBB.out HBB.out.size HB.out⟩
      · obtain ⟨bg, rfl⟩ : ∃ n : Nat, budget = n := ⟨budget.toNat, by omega⟩
        have hb1 : 1 ≤ bg := by omega
        have hb2 : bg ≤ 1024 := by omega
        obtain ⟨hl60, hdl⟩ := bigF_no hb
        have HF := Aside0.mk (fun p hp => (hf p hp).ok (hdl p hp))
        have HXK := Aside0.mk (hxf.ok (by omega))
        have HO := Aside0.mk (hO.below hBb)
        have HXR := Aside0.mk (hxr.below hBb)
        have HNW := Aside0.mk (new_in bg hb1 hb2 wb)
        obtain ⟨a, haa⟩ : ∃ a, a = wb.heap.size := ⟨_, rfl⟩
        have hst0 : St wb (wb.alloc (.cells #[.int .i64 bg, .int .i64 0, .slice none 0 0] 113)) _ wb.heap.size (.slice none 0 0) (empty bg) (.slice none 0 0) [] := ⟨new_holds bg hb1 hb2 wb wb.heap.size (Nat.le_refl _), below_new _ _, own_nil _ _ _ _, fun k hk => by simp [Value.ownBlock] at hk, fun r hr => by cases hr⟩
        rw [← haa] at hst0
        have HST := Aside0.mk hst0
        have HBA := Aside0.mk haa
        obtain ⟨n, hn⟩ : ∃ n, n = l.length := ⟨_, rfl⟩
        obtain ⟨m, hm⟩ : ∃ m, m = x.data.length := ⟨_, rfl⟩
        rw [← hn] at HQ hl60 ⊢
        rw [← hm] at hx2 b6 hwb HBX hcx HXR HQ ⊢
        have HCX := Aside0.mk hcx
        have HN := Aside0.mk hn
        have HM := Aside0.mk hm
        have HWB := Aside0.mk hwb
        clear hbad hO hf hb hdl hn hm hwb hBb hbx hxf hxr hcx haa hst0
        go_enter Try.func10, Try.ntmps10
        go_wp2_with (first
          | (go_at_call 23; (with_reducible refine HQ.out.mono ?_); rintro _ w1 ⟨rfl, hw⟩; rw [← HWB.out] at hw; subst hw)
          | (go_at_call 24; (with_reducible refine HNW.out.mono ?_); rintro _ W1 ⟨rfl, hW1⟩; rw [← hW1] at HST; rw [← HBA.out]; clear hW1))
        go_loopw [9, 10] (fun rv i wr => ∃ (k : Nat) (own : Nat → Option Role) (v : Value) (s : Sp) (rooms : List Nat), i = .int .i64 k ∧ k ≤ n ∧ rooms.length ≤ k ∧ Aside0 (St wb wr own a v s rv rooms)) (fun _ i _ => n - (intOf i).toNat)
        case atStart => exact ⟨0, _, _, _, [], rfl, Nat.zero_le _, Nat.le_refl _, HST⟩
        case round =>
          obtain ⟨k, own, v, s, rooms, rfl, hk, hrl, HS⟩ := hrel
          by_cases hlt : k < n
          · obtain ⟨p, hp⟩ : ∃ p, l[k]? = some p := ⟨l[k]'(by rw [← HN.out]; exact hlt), List.getElem?_eq_getElem _⟩
            obtain ⟨ad, A6, c6, rfl, hat⟩ := HO.out k p hp
            have hok := HF.out p (List.mem_of_getElem? hp)
            have HAT := Aside0.mk hat
            have HOK := Aside0.mk hok
            obtain ⟨A7, c7, rfl, hrr⟩ := HS.out.reads
            clear hat hok hp hrr b6
            go_wp2_with (first
              | (go_at_call 29; (with_reducible refine (was_in HS.out.hold).mono ?_); rintro _ W1 ⟨A1, c1, rfl, hW1, hB1⟩; have HWAS := Aside0.mk hW1; have HS1 := Aside0.mk (HS.out.below hB1); obtain ⟨g0, g1, g2, g3, g4, g5, g6, -, -⟩ := HAT.out.below HS1.out.bel; clear hW1 hB1)
              | (go_at_call 28; (with_reducible refine (used_in HS1.out.hold).mono ?_); rintro _ _ ⟨rfl, rfl⟩))
            have hzw : wb.heap.size ≤ W1.heap.size := HS1.out.bel.size
            have n0 := World.new_ne W1 _ g0
            have n1 := World.new_ne W1 _ g1
            have n2 := World.new_ne W1 _ g2
            have n3 := World.new_ne W1 _ g3
            have n4 := World.new_ne W1 _ g4
            have n5 := World.new_ne W1 _ g5
            have n6 := World.new_ne W1 _ g6
            have HBD := Aside0.mk (show Below W1.heap.size W1 W1.drew from below_drew1 (Below.refl _ _))
            have HBA := Aside0.mk (show Below W1.heap.size W1 (W1.alloc (.cells #[.int .i64 0, .string ⟨#[]⟩, .int .u64 0, .bool false] 63)).drew from below_drew1 (below_alloc (Below.refl _ _) _))
            go_region_held3 (fun w' => w'.cell? (ad.add (k * 7)) = some (.int .i64 p.kind) ∧ w'.cell? ⟨(ad.add (k * 7)).block, (ad.add (k * 7)).off + 1, none⟩ = some (.int .i64 p.room) ∧ w'.cell? ⟨(ad.add (k * 7)).block, (ad.add (k * 7)).off + 2, none⟩ = some (.int .u64 p.off) ∧ w'.cell? ⟨(ad.add (k * 7)).block, (ad.add (k * 7)).off + 3, none⟩ = some (.int .u64 p.size) ∧ w'.cell? ⟨(ad.add (k * 7)).block, (ad.add (k * 7)).off + 4, none⟩ = some (.int .i64 p.prot) ∧ w'.cell? ⟨(ad.add (k * 7)).block, (ad.add (k * 7)).off + 5, none⟩ = some (.int .u64 p.hint) ∧ w'.cell? ⟨(ad.add (k * 7)).block, (ad.add (k * 7)).off + 6, none⟩ = some (.slice A6 p.data.length c6)) (go_keep) (first | (go_at_call 27; (with_reducible refine (St.call2 HS1.out HAT.out HOK.out (by omega) p.hint HOK.out.h2 HBD.out).mono ?_); rintro _ W2 ⟨own', v', s', o, rfl, hD, hS2, hCC, hoo⟩; obtain ⟨t0, t1, t2, t3, t4, t5, t6, -, -⟩ := HAT.out.below hS2.bel; have HD := Aside0.mk hD; have HS2 := Aside0.mk hS2; have HOO := Aside0.mk (show ∀ q, q < W1.heap.size → own' q = own q from fun q h => hoo q (by simp; omega)); have HCC := Aside0.mk (Calm.trans (Calm.of_below HBD.out) hCC (fun _ _ h => h)); clear hD hS2 hCC hoo) | (go_at_call 27; (with_reducible refine (St.call2 HS1.out HAT.out HOK.out (by omega) p.hint HOK.out.h2 HBA.out).mono ?_); rintro _ W2 ⟨own', v', s', o, rfl, hD, hS2, hCC, hoo⟩; obtain ⟨t0, t1, t2, t3, t4, t5, t6, -, -⟩ := HAT.out.below hS2.bel; have HD := Aside0.mk hD; have HS2 := Aside0.mk hS2; have HOO := Aside0.mk (show ∀ q, q < W1.heap.size → own' q = own q from fun q h => hoo q (by simp; omega)); have HNG := Aside0.mk (show own W1.heap.size = none from Classical.byContradiction fun cc => Nat.lt_irrefl _ (HS1.out.hold.lt _ cc).2); have HG2 := Aside0.mk (show Blk W2 W1.heap.size #[.int .i64 0, .string ⟨#[]⟩, .int .u64 0, .bool false] 63 from (hCC.2 W1.heap.size (by simp) HNG.out).trans (Blk.new W1 _ 63)); have HCC := Aside0.mk (Calm.trans (Calm.of_below HBA.out) hCC (fun _ _ h => h)); have hgo : own' W1.heap.size = none := (hoo _ (by simp)).trans HNG.out; have HGO := Aside0.mk hgo; have x0 := HG2.out.cell 0 _ rfl; have x1 := HG2.out.cell 1 _ rfl; have x2 := HG2.out.cell 2 _ rfl; have x3 := HG2.out.cell 3 _ rfl; have y0 := HG2.out.free 0; have y1 := HG2.out.free 1; have y2 := HG2.out.free 2; have y3 := HG2.out.free 3; clear hgo hD hS2 hCC hoo))
            · have hst3 : St wb (W2.alloc (.cells #[.int .i64 o.e, .string (strOfNums o.b), .int .u64 (o.at_ : Int), .bool o.room] 63)) own' a v' s' (.slice A7 rooms.length c7) rooms := HS2.out.below (below_new W2 _)
              have hblk : Blk (W2.alloc (.cells #[.int .i64 o.e, .string (strOfNums o.b), .int .u64 (o.at_ : Int), .bool o.room] 63)) W2.heap.size #[.int .i64 o.e, .string (strOfNums o.b), .int .u64 (o.at_ : Int), .bool o.room] 63 := Blk.new W2 _ 63
              have hc3 : Calm own W1 (W2.alloc (.cells #[.int .i64 o.e, .string (strOfNums o.b), .int .u64 (o.at_ : Int), .bool o.room] 63)) := HCC.out.trans (Calm.of_below (own := own) (below_new W2 _)) (fun _ _ h => h)
              have hgn : own' W2.heap.size = none := Classical.byContradiction fun cc => Nat.lt_irrefl _ (HS2.out.hold.lt _ cc).2
              have hgw : W1.heap.size ≤ W2.heap.size := HCC.out.1
              have hrg : (Value.slice A7 rooms.length c7).ownBlock ≠ some W2.heap.size := fun e => Nat.lt_irrefl _ (Nat.lt_of_lt_of_le (own_lt HS1.out.row _ e) hgw)
              have hwas := HWAS.out.move hc3 (fun q h1 h2 => (HOO.out q h1).trans h2)
              generalize hW3 : W2.alloc (.cells #[.int .i64 o.e, .string (strOfNums o.b), .int .u64 (o.at_ : Int), .bool o.room] 63) = W3 at *
              generalize hgg : W2.heap.size = g at *
              clear hW3 hgg g0 g1 g2 g3 g4 g5 g6 n0 n1 n2 n3 n4 n5 n6 t0 t1 t2 t3 t4 t5 t6
              have HA3 := Aside0.mk hst3
              have HC3 := Aside0.mk hc3
              have HBLK := Aside0.mk hblk
              have HGW := Aside0.mk hgw
              have HGN := Aside0.mk hgn
              have HAL := Aside0.mk (HD.out.at_le HS1.out.hold.good)
              have hal : o.at_ ≤ 18446744073709551615 := HAL.out
              have hz3 : wb.heap.size ≤ W3.heap.size := HA3.out.bel.size
              have HW3 := Aside0.mk hwas
              have HRG := Aside0.mk hrg
              have u0 : W3.cell? ⟨g, 0, none⟩ = some (.int .i64 o.e) := hblk.cell 0 _ rfl
              have u2 : W3.cell? ⟨g, 2, none⟩ = some (.int .u64 (o.at_ : Int)) := hblk.cell 2 _ rfl
              have u3 : W3.cell? ⟨g, 3, none⟩ = some (.bool o.room) := hblk.cell 3 _ rfl
              clear hst3 hblk hc3 hgw hgn hwas hrg
              cases hrm : o.room with
              | true =>
                have he0 := HD.out.room0 hrm
                have HE0 := Aside0.mk he0
                rw [hrm] at u3
                rw [he0] at u0
                clear hrm
                go_wp2_with (at_builtin; refine print_append_cells (W := W3) (w0 := wb) wb.heap.size rfl (.tmp 68) (.tmp 71) 53 28 (.int .u64 0) 1 8 rfl Try.underlying53 info28 rfl (by decide) (by decide) _ rooms.length (nums .u64 (natsI rooms)) [.int .u64 (o.at_ : Int)] rfl rfl rfl (by simp [Value.oneCell']) HA3.out.row HA3.out.bel hz3 (by omega) ?_; intro v3 w1 ho1 hb1 hg1 hx1; have HS4 := Aside0.mk (HA3.out.push o.at_ HAL.out ho1 hb1 hg1 hx1); have u0' : w1.cell? ⟨g, 0, none⟩ = some (.int .i64 0) := ((HBLK.out.move (hg1.block g HBLK.out.lt (fun e => HRG.out e.symm))).cell 0 (.int .i64 o.e) rfl).trans (by rw [HE0.out]); clear ho1 hb1 hg1 hx1)
                go_roundw
                case rel => exact ⟨k + 1, own', v', s', rooms ++ [o.at_], by go_num, by omega, by rw [List.length_append, List.length_singleton]; omega, HS4⟩
                case measure => simp [intOf]; omega
              | false =>
                rw [hrm] at u3
                clear hrm
                by_cases he0 : o.e = 0
                · rw [he0] at u0
                  go_wp2
                  go_roundw
                  case rel => exact ⟨k + 1, own', v', s', rooms, by go_num, by omega, by omega, HA3⟩
                  case measure => simp [intOf]; omega
                · have hss : s' = s := HD.out.err he0
                  have HSIM := Aside0.mk (show Sim 0 0 (pgsOf s.rs) (pgsOf s'.rs) from by rw [hss]; exact sim_refl HS1.out.hold.good 0 0)
                  have hus : ((s'.used : Int) != (s.used : Int)) = false := by rw [hss]; simp
                  have heb : (o.e != 0) = true := by simp [he0]
                  clear hss he0
                  go_wp2_with (first
                    | (go_at_call 29; (with_reducible refine (was_in HA3.out.hold).mono ?_); rintro _ W4 ⟨A4, c4, rfl, hW4, hB4⟩; have HN4 := Aside0.mk hW4; have HW4 := Aside0.mk (HW3.out.below hB4); have HS4 := Aside0.mk (HA3.out.below hB4); clear hW4 hB4)
                    | (go_at_call 30; have HQ30 : Calls Try.prog 30 #[.slice A1 (pgsOf s.rs).length c1, .slice A4 (pgsOf s'.rs).length c4, .int .u64 0, .int .u64 0] W4 fun e w' => e = .returned (.bool true) ∧ Below W4.heap.size W4 w' := sim_in HW4.out.at_ HN4.out.at_ HSIM.out c1 c4 (by omega) (by omega) HW4.out.max; (with_reducible refine HQ30.mono ?_); clear HQ30; rintro _ W5 ⟨rfl, hB5⟩; have HS5 := Aside0.mk (HS4.out.below hB5); clear hB5)
                    | (go_at_call 28; (with_reducible refine (used_in HS5.out.hold).mono ?_); rintro _ _ ⟨rfl, rfl⟩))
                  go_roundw
                  case rel => exact ⟨k + 1, own', v', s', rooms, by go_num, by omega, by omega, HS5⟩
                  case measure => simp [intOf]; omega
            · have hgo := HGO.out
              have hgr : (Value.slice A7 rooms.length c7).ownBlock ≠ some W1.heap.size := fun e => Nat.lt_irrefl _ (own_lt HS1.out.row W1.heap.size e)
              have hst3 : St wb ((((W2.setCell ⟨W1.heap.size, 0, none⟩ (.int .i64 o.e)).setCell ⟨W1.heap.size, 1, none⟩ (.string (strOfNums o.b))).setCell ⟨W1.heap.size, 2, none⟩ (.int .u64 (o.at_ : Int))).setCell ⟨W1.heap.size, 3, none⟩ (.bool o.room)) own' a v' s' (.slice A7 rooms.length c7) rooms := (((HS2.out.set hzw hgo hgr 0 _).set hzw hgo hgr 1 _).set hzw hgo hgr 2 _).set hzw hgo hgr 3 _
              have hblk : Blk ((((W2.setCell ⟨W1.heap.size, 0, none⟩ (.int .i64 o.e)).setCell ⟨W1.heap.size, 1, none⟩ (.string (strOfNums o.b))).setCell ⟨W1.heap.size, 2, none⟩ (.int .u64 (o.at_ : Int))).setCell ⟨W1.heap.size, 3, none⟩ (.bool o.room)) W1.heap.size #[.int .i64 o.e, .string (strOfNums o.b), .int .u64 (o.at_ : Int), .bool o.room] 63 := (((HG2.out.set 0 _).set 1 _).set 2 _).set 3 _
              have hc3 : Calm own W1 ((((W2.setCell ⟨W1.heap.size, 0, none⟩ (.int .i64 o.e)).setCell ⟨W1.heap.size, 1, none⟩ (.string (strOfNums o.b))).setCell ⟨W1.heap.size, 2, none⟩ (.int .u64 (o.at_ : Int))).setCell ⟨W1.heap.size, 3, none⟩ (.bool o.room)) := (((HCC.out.set (Nat.le_refl _) 0 _).set (Nat.le_refl _) 1 _).set (Nat.le_refl _) 2 _).set (Nat.le_refl _) 3 _
              have hgn := hgo
              have hgw : W1.heap.size ≤ W1.heap.size := Nat.le_refl _
              have hrg := hgr
              have hwas := HWAS.out.move hc3 (fun q h1 h2 => (HOO.out q h1).trans h2)
              clear hgr hgo x0 x1 x2 x3 y0 y1 y2 y3
              generalize hW3 : (((W2.setCell ⟨W1.heap.size, 0, none⟩ (.int .i64 o.e)).setCell ⟨W1.heap.size, 1, none⟩ (.string (strOfNums o.b))).setCell ⟨W1.heap.size, 2, none⟩ (.int .u64 (o.at_ : Int))).setCell ⟨W1.heap.size, 3, none⟩ (.bool o.room) = W3 at *
              generalize hgg : W1.heap.size = g at *
              clear hW3 hgg g0 g1 g2 g3 g4 g5 g6 n0 n1 n2 n3 n4 n5 n6 t0 t1 t2 t3 t4 t5 t6
              have HA3 := Aside0.mk hst3
              have HC3 := Aside0.mk hc3
              have HBLK := Aside0.mk hblk
              have HGW := Aside0.mk hgw
              have HGN := Aside0.mk hgn
              have HAL := Aside0.mk (HD.out.at_le HS1.out.hold.good)
              have hal : o.at_ ≤ 18446744073709551615 := HAL.out
              have hz3 : wb.heap.size ≤ W3.heap.size := HA3.out.bel.size
              have HW3 := Aside0.mk hwas
              have HRG := Aside0.mk hrg
              have u0 : W3.cell? ⟨g, 0, none⟩ = some (.int .i64 o.e) := hblk.cell 0 _ rfl
              have u2 : W3.cell? ⟨g, 2, none⟩ = some (.int .u64 (o.at_ : Int)) := hblk.cell 2 _ rfl
              have u3 : W3.cell? ⟨g, 3, none⟩ = some (.bool o.room) := hblk.cell 3 _ rfl
              clear hst3 hblk hc3 hgw hgn hwas hrg
              cases hrm : o.room with
              | true =>
                have he0 := HD.out.room0 hrm
                have HE0 := Aside0.mk he0
                rw [hrm] at u3
                rw [he0] at u0
                clear hrm
                go_wp2_with (at_builtin; refine print_append_cells (W := W3) (w0 := wb) wb.heap.size rfl (.tmp 68) (.tmp 71) 53 28 (.int .u64 0) 1 8 rfl Try.underlying53 info28 rfl (by decide) (by decide) _ rooms.length (nums .u64 (natsI rooms)) [.int .u64 (o.at_ : Int)] rfl rfl rfl (by simp [Value.oneCell']) HA3.out.row HA3.out.bel hz3 (by omega) ?_; intro v3 w1 ho1 hb1 hg1 hx1; have HS4 := Aside0.mk (HA3.out.push o.at_ HAL.out ho1 hb1 hg1 hx1); have u0' : w1.cell? ⟨g, 0, none⟩ = some (.int .i64 0) := ((HBLK.out.move (hg1.block g HBLK.out.lt (fun e => HRG.out e.symm))).cell 0 (.int .i64 o.e) rfl).trans (by rw [HE0.out]); clear ho1 hb1 hg1 hx1)
                go_roundw
                case rel => exact ⟨k + 1, own', v', s', rooms ++ [o.at_], by go_num, by omega, by rw [List.length_append, List.length_singleton]; omega, HS4⟩
                case measure => simp [intOf]; omega
              | false =>
                rw [hrm] at u3
                clear hrm
                by_cases he0 : o.e = 0
                · rw [he0] at u0
                  go_wp2
                  go_roundw
                  case rel => exact ⟨k + 1, own', v', s', rooms, by go_num, by omega, by omega, HA3⟩
                  case measure => simp [intOf]; omega
                · have hss : s' = s := HD.out.err he0
                  have HSIM := Aside0.mk (show Sim 0 0 (pgsOf s.rs) (pgsOf s'.rs) from by rw [hss]; exact sim_refl HS1.out.hold.good 0 0)
                  have hus : ((s'.used : Int) != (s.used : Int)) = false := by rw [hss]; simp
                  have heb : (o.e != 0) = true := by simp [he0]
                  clear hss he0
                  go_wp2_with (first
                    | (go_at_call 29; (with_reducible refine (was_in HA3.out.hold).mono ?_); rintro _ W4 ⟨A4, c4, rfl, hW4, hB4⟩; have HN4 := Aside0.mk hW4; have HW4 := Aside0.mk (HW3.out.below hB4); have HS4 := Aside0.mk (HA3.out.below hB4); clear hW4 hB4)
                    | (go_at_call 30; have HQ30 : Calls Try.prog 30 #[.slice A1 (pgsOf s.rs).length c1, .slice A4 (pgsOf s'.rs).length c4, .int .u64 0, .int .u64 0] W4 fun e w' => e = .returned (.bool true) ∧ Below W4.heap.size W4 w' := sim_in HW4.out.at_ HN4.out.at_ HSIM.out c1 c4 (by omega) (by omega) HW4.out.max; (with_reducible refine HQ30.mono ?_); clear HQ30; rintro _ W5 ⟨rfl, hB5⟩; have HS5 := Aside0.mk (HS4.out.below hB5); clear hB5)
                    | (go_at_call 28; (with_reducible refine (used_in HS5.out.hold).mono ?_); rintro _ _ ⟨rfl, rfl⟩))
                  go_roundw
                  case rel => exact ⟨k + 1, own', v', s', rooms, by go_num, by omega, by omega, HS5⟩
                  case measure => simp [intOf]; omega
          · obtain rfl : k = n := by omega
            obtain ⟨A7, c7, rfl, hrr⟩ := HS.out.reads
            have HRR := Aside0.mk hrr
            have hl100 : rooms.length ≤ 100 := by omega
            obtain ⟨Y, hY⟩ : ∃ Y, Y = placeF x rooms := ⟨_, rfl⟩
            have hYle : Y ≤ 18446744073709551615 := by
              have := HXK.out.o2
              rw [hY]
              unfold placeF
              split <;> omega
            have HYL := Aside0.mk hYle
            have HPL := Aside0.mk (fun (W : World) (hB : Below wr.heap.size wr W) => (show Calls Try.prog 31 #[.agg #[.int .i64 x.kind, .int .i64 x.room, .int .u64 x.off, .int .u64 x.size, .int .i64 x.prot, .int .u64 x.hint, .slice Ax m cx], .slice A7 rooms.length c7] W fun e w' => e = .returned (.int .u64 (Y : Int)) ∧ Below W.heap.size W w' from by
              have h := place_in x HXK.out Ax cx rooms A7 c7 W (hrr.below hB) HS.out.le hl100
              unfold cellsO at h
              rw [← HM.out, ← hY] at h
              exact h))
            obtain ⟨E, hE⟩ : ∃ E, E = (writeF s Y x.data).2 := ⟨_, rfl⟩
            obtain ⟨S, hS⟩ : ∃ S, S = (writeF s Y x.data).1 := ⟨_, rfl⟩
            have HWR := Aside0.mk (fun (W : World) (hH : Holds W own wb.heap.size a v s) (hB : Below wb.heap.size wb W) => (show Calls Try.prog 32 #[.pointer (some ⟨a, 0, none⟩), .int .u64 Y, .slice Ax m cx] W fun e w' => e = .returned (.int .i64 E) ∧ Holds w' own wb.heap.size a v S ∧ Kp own wb.heap.size W w' from by
              have h := write_in hH Y Ax cx x.data hYle (src_of (HM.out ▸ HXR.out) (HM.out ▸ HCX.out) hB hH) HXK.out.bytes (by have := HXK.out.len; omega)
              rw [← HM.out, ← hE, ← hS] at h
              exact h))
            clear hrr b6 hlt hk hY hYle
            by_cases hE0 : E = 0
            · have HSIM := Aside0.mk (show Sim Y m (pgsOf s.rs) (pgsOf S.rs) from by rw [hS, HM.out]; exact write_sim HS.out.hold.good Y x.data)
              have hRB : readF S.rs Y m = (x.data, 0) ∨ (readF S.rs Y m).2 = 54 := by rw [hS, HM.out]; exact read_back HS.out.hold.good Y x.data HXK.out.len (by rw [← hE]; exact hE0)
              have HRD := Aside0.mk (fun (W : World) (hH : Holds W own wb.heap.size a v S) => read_in hH Y m HYL.out (by omega))
              have hmw : IntKind.u64.wrap (m : Int) = (m : Int) := by rw [IntKind.wrap_u64]; omega
              have heb : (E != 0) = false := by rw [hE0]; rfl
              obtain ⟨G, hG⟩ : ∃ G, G = (readF S.rs Y m).2 := ⟨_, rfl⟩
              obtain ⟨L, hL⟩ : ∃ L, L = (readF S.rs Y m).1 := ⟨_, rfl⟩
              rw [← hG, ← hL] at HRD
              have hcase : G = 54 ∨ (G = 0 ∧ L = x.data) := by
                rcases hRB with h | h
                · exact .inr ⟨by rw [hG, h], by rw [hL, h]⟩
                · exact .inl (hG.trans h)
              clear hE hS hRB hE0 hG hL
              have hnw : Below wr.heap.size wr wr := Below.refl _ _
              rcases hcase with rfl | ⟨rfl, rfl⟩
              · go_wp2_with (first
                  | (go_at_call 29; (with_reducible refine (was_in HS.out.hold).mono ?_); rintro _ W1 ⟨A1, c1, rfl, hW1, hB1⟩; have HWAS := Aside0.mk hW1; have HB1 := Aside0.mk hB1; have HS1 := Aside0.mk (HS.out.below hB1); have hbw := HBX.out.below HS1.out.bel; have b0 := hbw.cell 0 _ rfl; have b1 := hbw.cell 1 _ rfl; have b2 := hbw.cell 2 _ rfl; have b3 := hbw.cell 3 _ rfl; have b4 := hbw.cell 4 _ rfl; have b5 := hbw.cell 5 _ rfl; have b6 := hbw.cell 6 _ rfl; clear hW1 hB1 hbw)
                  | (go_at_call 31; (with_reducible refine (HPL.out W1 HB1.out).mono ?_); rintro _ W2 ⟨rfl, hB2⟩; have HS2 := Aside0.mk (HS1.out.below hB2); have HW2 := Aside0.mk (HWAS.out.below hB2); clear b0 b1 b2 b3 b4 b5 b6; have b6 : W2.cell? ⟨w0.heap.size, 6, none⟩ = some (.slice Ax m cx) := (HBX.out.below HS2.out.bel).cell 6 _ rfl; clear hB2)
                  | (go_at_call 32; (with_reducible refine (HWR.out W2 HS2.out.hold HS2.out.bel).mono ?_); rintro _ W3 ⟨rfl, hH3, hK3⟩; have HH3 := Aside0.mk hH3; have HW3 := Aside0.mk (HW2.out.move (Calm.of_kp hK3) (fun _ _ h => h)); have HB3 := Aside0.mk (HS2.out.bel.trans hK3.bel); clear hH3 hK3 b6)
                  | (go_at_call 29; (with_reducible refine (was_in HH3.out).mono ?_); rintro _ W4 ⟨A4, c4, rfl, hW4, hB4⟩; have HN4 := Aside0.mk hW4; have HW4 := Aside0.mk (HW3.out.below hB4); have HH4 := Aside0.mk (HH3.out.below hB4); have HB4 := Aside0.mk (below_then HB3.out HB3.out.size hB4); have b6 : W4.cell? ⟨w0.heap.size, 6, none⟩ = some (.slice Ax m cx) := (HBX.out.below HB4.out).cell 6 _ rfl; clear hW4 hB4)
                  | (go_at_call 33; (with_reducible refine (HRD.out W4 HH4.out).mono ?_); rintro _ W5 ⟨v5, rfl, hO5, hB5⟩; have HN5 := Aside0.mk (HN4.out.below hB5); have HW5 := Aside0.mk (HW4.out.below hB5); have HB5 := Aside0.mk (below_then HB4.out HB4.out.size hB5); have b6 : W5.cell? ⟨w0.heap.size, 6, none⟩ = some (.slice Ax m cx) := (HBX.out.below HB5.out).cell 6 _ rfl; obtain ⟨A5, c5, rfl⟩ := own_slice hO5; have hcv : (convert 22 9 (.slice A5 L.length c5)).run Try.prog W5 = .ok (.string (strOfNums L)) W5 := own_string Try.underlying22 Try.underlying5 Try.underlying9 hO5; have hcw : (convert 22 9 (.slice Ax m cx)).run Try.prog W5 = .ok (.string (strOfNums x.data)) W5 := string_of_reads Try.underlying22 Try.underlying5 Try.underlying9 (HXR.out.below HB5.out); clear hO5 hB5)
                  | (go_at_call 30; have HQ30 : Calls Try.prog 30 #[.slice A1 (pgsOf s.rs).length c1, .slice A4 (pgsOf S.rs).length c4, .int .u64 Y, .int .u64 m] W5 fun e w' => e = .returned (.bool true) ∧ Below W5.heap.size W5 w' := sim_in HW5.out.at_ HN5.out.at_ HSIM.out c1 c4 HYL.out (by omega) HW5.out.max; (with_reducible refine HQ30.mono ?_); clear HQ30; rintro _ W6 ⟨rfl, hB6⟩; have HB6 := Aside0.mk (below_then HB5.out HB5.out.size hB6); clear hB6)
                  | (go_at_call 25; (with_reducible refine (alive_in W6).mono ?_); rintro _ W7 ⟨rfl, hB7⟩; have HB7 := Aside0.mk (below_then HB6.out HB6.out.size hB7); clear hB7))
                go_ret
                exact ⟨rfl, below_then HBB.out HBB.out.size HB7.out⟩
              · go_wp2_with (first
                  | (go_at_call 29; (with_reducible refine (was_in HS.out.hold).mono ?_); rintro _ W1 ⟨A1, c1, rfl, hW1, hB1⟩; have HWAS := Aside0.mk hW1; have HB1 := Aside0.mk hB1; have HS1 := Aside0.mk (HS.out.below hB1); have hbw := HBX.out.below HS1.out.bel; have b0 := hbw.cell 0 _ rfl; have b1 := hbw.cell 1 _ rfl; have b2 := hbw.cell 2 _ rfl; have b3 := hbw.cell 3 _ rfl; have b4 := hbw.cell 4 _ rfl; have b5 := hbw.cell 5 _ rfl; have b6 := hbw.cell 6 _ rfl; clear hW1 hB1 hbw)
                  | (go_at_call 31; (with_reducible refine (HPL.out W1 HB1.out).mono ?_); rintro _ W2 ⟨rfl, hB2⟩; have HS2 := Aside0.mk (HS1.out.below hB2); have HW2 := Aside0.mk (HWAS.out.below hB2); clear b0 b1 b2 b3 b4 b5 b6; have b6 : W2.cell? ⟨w0.heap.size, 6, none⟩ = some (.slice Ax m cx) := (HBX.out.below HS2.out.bel).cell 6 _ rfl; clear hB2)
                  | (go_at_call 32; (with_reducible refine (HWR.out W2 HS2.out.hold HS2.out.bel).mono ?_); rintro _ W3 ⟨rfl, hH3, hK3⟩; have HH3 := Aside0.mk hH3; have HW3 := Aside0.mk (HW2.out.move (Calm.of_kp hK3) (fun _ _ h => h)); have HB3 := Aside0.mk (HS2.out.bel.trans hK3.bel); clear hH3 hK3 b6)
                  | (go_at_call 29; (with_reducible refine (was_in HH3.out).mono ?_); rintro _ W4 ⟨A4, c4, rfl, hW4, hB4⟩; have HN4 := Aside0.mk hW4; have HW4 := Aside0.mk (HW3.out.below hB4); have HH4 := Aside0.mk (HH3.out.below hB4); have HB4 := Aside0.mk (below_then HB3.out HB3.out.size hB4); have b6 : W4.cell? ⟨w0.heap.size, 6, none⟩ = some (.slice Ax m cx) := (HBX.out.below HB4.out).cell 6 _ rfl; clear hW4 hB4)
                  | (go_at_call 33; (with_reducible refine (HRD.out W4 HH4.out).mono ?_); rintro _ W5 ⟨v5, rfl, hO5, hB5⟩; have HN5 := Aside0.mk (HN4.out.below hB5); have HW5 := Aside0.mk (HW4.out.below hB5); have HB5 := Aside0.mk (below_then HB4.out HB4.out.size hB5); have b6 : W5.cell? ⟨w0.heap.size, 6, none⟩ = some (.slice Ax m cx) := (HBX.out.below HB5.out).cell 6 _ rfl; obtain ⟨A5, c5, rfl⟩ := own_slice hO5; have hcv : (convert 22 9 (.slice A5 x.data.length c5)).run Try.prog W5 = .ok (.string (strOfNums x.data)) W5 := own_string Try.underlying22 Try.underlying5 Try.underlying9 hO5; have hcw : (convert 22 9 (.slice Ax m cx)).run Try.prog W5 = .ok (.string (strOfNums x.data)) W5 := string_of_reads Try.underlying22 Try.underlying5 Try.underlying9 (HXR.out.below HB5.out); clear hO5 hB5)
                  | (go_at_call 30; have HQ30 : Calls Try.prog 30 #[.slice A1 (pgsOf s.rs).length c1, .slice A4 (pgsOf S.rs).length c4, .int .u64 Y, .int .u64 m] W5 fun e w' => e = .returned (.bool true) ∧ Below W5.heap.size W5 w' := sim_in HW5.out.at_ HN5.out.at_ HSIM.out c1 c4 HYL.out (by omega) HW5.out.max; (with_reducible refine HQ30.mono ?_); clear HQ30; rintro _ W6 ⟨rfl, hB6⟩; have HB6 := Aside0.mk (below_then HB5.out HB5.out.size hB6); clear hB6)
                  | (go_at_call 25; (with_reducible refine (alive_in W6).mono ?_); rintro _ W7 ⟨rfl, hB7⟩; have HB7 := Aside0.mk (below_then HB6.out HB6.out.size hB7); clear hB7))
                go_ret
                exact ⟨rfl, below_then HBB.out HBB.out.size HB7.out⟩
            · have hss : S = s := by rw [hS]; exact write_err (by rw [← hE]; exact hE0)
              have HSIM := Aside0.mk (show Sim 0 0 (pgsOf s.rs) (pgsOf S.rs) from by rw [hss]; exact sim_refl HS.out.hold.good 0 0)
              have heb : (E != 0) = true := by simp [hE0]
              clear hE hS hss hE0
              go_wp2_with (first
                | (go_at_call 29; (with_reducible refine (was_in HS.out.hold).mono ?_); rintro _ W1 ⟨A1, c1, rfl, hW1, hB1⟩; have HWAS := Aside0.mk hW1; have HB1 := Aside0.mk hB1; have HS1 := Aside0.mk (HS.out.below hB1); have hbw := HBX.out.below HS1.out.bel; have b0 := hbw.cell 0 _ rfl; have b1 := hbw.cell 1 _ rfl; have b2 := hbw.cell 2 _ rfl; have b3 := hbw.cell 3 _ rfl; have b4 := hbw.cell 4 _ rfl; have b5 := hbw.cell 5 _ rfl; have b6 := hbw.cell 6 _ rfl; clear hW1 hB1 hbw)
                | (go_at_call 31; (with_reducible refine (HPL.out W1 HB1.out).mono ?_); rintro _ W2 ⟨rfl, hB2⟩; have HS2 := Aside0.mk (HS1.out.below hB2); have HW2 := Aside0.mk (HWAS.out.below hB2); clear b0 b1 b2 b3 b4 b5 b6; have b6 : W2.cell? ⟨w0.heap.size, 6, none⟩ = some (.slice Ax m cx) := (HBX.out.below HS2.out.bel).cell 6 _ rfl; clear hB2)
                | (go_at_call 32; (with_reducible refine (HWR.out W2 HS2.out.hold HS2.out.bel).mono ?_); rintro _ W3 ⟨rfl, hH3, hK3⟩; have HH3 := Aside0.mk hH3; have HW3 := Aside0.mk (HW2.out.move (Calm.of_kp hK3) (fun _ _ h => h)); have HB3 := Aside0.mk (HS2.out.bel.trans hK3.bel); clear hH3 hK3 b6)
                | (go_at_call 29; (with_reducible refine (was_in HH3.out).mono ?_); rintro _ W4 ⟨A4, c4, rfl, hW4, hB4⟩; have HN4 := Aside0.mk hW4; have HW4 := Aside0.mk (HW3.out.below hB4); have HH4 := Aside0.mk (HH3.out.below hB4); have HB4 := Aside0.mk (below_then HB3.out HB3.out.size hB4); have b6 : W4.cell? ⟨w0.heap.size, 6, none⟩ = some (.slice Ax m cx) := (HBX.out.below HB4.out).cell 6 _ rfl; clear hW4 hB4)
                | (go_at_call 30; have HQ30 : Calls Try.prog 30 #[.slice A1 (pgsOf s.rs).length c1, .slice A4 (pgsOf S.rs).length c4, .int .u64 0, .int .u64 0] W4 fun e w' => e = .returned (.bool true) ∧ Below W4.heap.size W4 w' := sim_in HW4.out.at_ HN4.out.at_ HSIM.out c1 c4 (by omega) (by omega) HW4.out.max; (with_reducible refine HQ30.mono ?_); clear HQ30; rintro _ W6 ⟨rfl, hB6⟩; have HB6 := Aside0.mk (below_then HB4.out HB4.out.size hB6); clear hB6)
                | (go_at_call 25; (with_reducible refine (alive_in W6).mono ?_); rintro _ W7 ⟨rfl, hB7⟩; have HB7 := Aside0.mk (below_then HB6.out HB6.out.size hB7); clear hB7))
              go_ret
              exact ⟨rfl, below_then HBB.out HBB.out.size HB7.out⟩
end Go.Proofs.Ytmpahimeljbliaa.Vm
