/- A room is taken. No condition but that the space lies in memory as told. -/
import Derived.Test.YtmpahimeljbliaaVmPut
import Derived.StillTailTactics
namespace Go.Proofs.Ytmpahimeljbliaa.Vm
open Go.RowKit Go.Proofs Go.Proofs.YtmpahimeljbliaaW.PrintWords

theorem take_put (l : List Rm) (r : Rm) : splice (l.map ptrR ++ [Value.pointer none]) (behind r.at_ l + 1) ((l.drop (behind r.at_ l)).map ptrR) = (l.map ptrR).take (behind r.at_ l) ++ ((l.map ptrR ++ [Value.pointer none])[behind r.at_ l]'(by have := behind_le r.at_ l; simp; omega)) :: (l.drop (behind r.at_ l)).map ptrR := by
  have hb := behind_le r.at_ l
  unfold splice
  have h1 : (l.map ptrR ++ [Value.pointer none]).take (behind r.at_ l + 1) = (l.map ptrR).take (behind r.at_ l) ++ [(l.map ptrR ++ [Value.pointer none])[behind r.at_ l]'(by simp; omega)] := by
    rw [List.take_succ_eq_append_getElem (by simp; omega), List.take_append_of_le_length (by simp; omega)]
  rw [h1, show (l.map ptrR ++ [Value.pointer none]).drop (behind r.at_ l + 1 + ((l.drop (behind r.at_ l)).map ptrR).length) = [] from List.drop_of_length_le (by simp; omega), List.append_nil, List.append_assoc, List.singleton_append]
/-- What is answered, and what the space is then. -/
def ResOk (w : World) (own : Nat → Option Role) (base a : Nat) (s : Sp) (hint pages : Nat) (e : Ending) (w' : World) : Prop :=
  ∃ (own' : Nat → Option Role) (v' : Value) (b ab : Nat), e = .returned (.tuple #[.int .u64 ((reserveF s hint pages b ab).2.1 : Int), .int .i64 (reserveF s hint pages b ab).2.2]) ∧ Holds w' own' base a v' (reserveF s hint pages b ab).1 ∧ (∀ k, k < w.heap.size → own' k = own k) ∧ Kp own base w w'
set_option maxRecDepth 100000 in
set_option maxHeartbeats 4000000 in
theorem reserve_in {w : World} {own : Nat → Option Role} {base a : Nat} {v : Value} {s : Sp} (h : Holds w own base a v s) (hint pages : Nat) (hh : hint ≤ 18446744073709551615) (hp : pages ≤ 1000) :
    Calls Try.prog 54 #[.pointer (some ⟨a, 0, none⟩), .int .u64 hint, .int .i64 pages] w (ResOk w own base a s hint pages) := by
  have hbs : base ≤ w.heap.size := by have := h.lt a (by rw [h.osp]; simp); omega
  have HH := Aside0.mk h
  by_cases c1 : pages < 1 ∨ pages > 64
  · have HR := Aside0.mk (show ∀ b ab, reserveF s hint pages b ab = (s, 0, 51) from fun b ab => by unfold reserveF; rw [if_pos c1])
    have hfin : ResOk w own base a s hint pages (.returned (.tuple #[.int .u64 0, .int .i64 51])) w := ⟨own, v, 0, 0, by rw [HR.out]; rfl, by rw [HR.out]; exact h, fun _ _ => rfl, Kp.refl _ _ _⟩
    have HF := Aside0.mk hfin
    clear hfin h
    rcases c1 with c1 | c1
    · go_enter Try.func54, Try.ntmps54
      go_wp2
      go_ret2
      exact HF.out
    · have c0 : ¬ pages < 1 := by omega
      go_enter Try.func54, Try.ntmps54
      go_wp2
      go_ret2
      exact HF.out
  · have c2 : 1 ≤ pages := by omega
    have c3 : pages ≤ 64 := by omega
    have hs0 := h.s0
    have hs1 := h.s1
    have hbu := h.good.b2
    have hub := h.good.ub
    by_cases c4 : s.used + pages > s.budget
    · have HR := Aside0.mk (show ∀ b ab, reserveF s hint pages b ab = (s, 0, 50) from fun b ab => by unfold reserveF; rw [if_neg c1, if_pos c4])
      have HF := Aside0.mk (show ∀ n, ResOk w own base a s hint pages (.returned (.tuple #[.int .u64 0, .int .i64 50])) (w.drewN n) from fun n => ⟨own, v, 0, 0, by rw [HR.out]; rfl, by rw [HR.out]; exact h.drewN n, fun _ _ => rfl, (Kp.refl _ _ _).below hbs (pw_below_drewN (Below.refl _ _) n)⟩)
      have e25 : IntKind.i64.wrap ((s.used : Int) + (pages : Int)) = (s.used : Int) + (pages : Int) := IntWalk.i64_in _ ⟨by omega, by omega⟩
      clear h c1
      go_enter Try.func54, Try.ntmps54
      go_wp2
      go_quiet (fail)
      clear e25
      go_wp2
      go_ret2
      exact HF.out _
    · have hgood := fun b ab => put_good h.good hint pages b ab c2 c3 (by omega)
      have HG := Aside0.mk hgood
      obtain ⟨q, hq⟩ : ∃ q, q = max (hint % 1099511627776 / 256) 1 := ⟨_, rfl⟩
      have hq2 : q * 256 ≤ 1099511627776 := by omega
      have hmx : (if (hint : Int) % 1099511627776 / 256 < 1 then 1 else (hint : Int) % 1099511627776 / 256) = (q : Int) := by split <;> omega
      have HMX := Aside0.mk hmx
      obtain ⟨g1, hg1⟩ : ∃ g1, g1 = gap (pages * 256) s.rs (q * 256) := ⟨_, rfl⟩
      obtain ⟨g2, hg2⟩ : ∃ g2, g2 = gap (pages * 256) s.rs 256 := ⟨_, rfl⟩
      have HPL := Aside0.mk (show placeFor s hint pages = if g1 ≤ 1099511627776 - pages * 256 then g1 else g2 from by unfold placeFor; rw [← hq, ← hg1, ← hg2])
      have hpo := place_ok h.good hint pages c2 c3
      have HPO := Aside0.mk hpo
      have hQ1 : ∀ n : Nat, Calls Try.prog 76 #[.pointer (some ⟨a, 0, none⟩), .int .u64 ((q : Int) * 256), .int .u64 ((pages : Int) * 256)] (w.drewN n) fun e w' => e = .returned (.tuple #[.int .u64 g1, .bool (decide (g1 ≤ 1099511627776 - pages * 256))]) ∧ ∃ m, w' = (w.drewN n).drewN m := fun n => by
        have := gap_in (h.drewN n) (q * 256) (pages * 256) hq2 (by omega)
        rw [← hg1, show ((q * 256 : Nat) : Int) = (q : Int) * 256 from by omega, show ((pages * 256 : Nat) : Int) = (pages : Int) * 256 from by omega] at this
        exact this
      have hQ2 : ∀ n : Nat, Calls Try.prog 76 #[.pointer (some ⟨a, 0, none⟩), .int .u64 256, .int .u64 ((pages : Int) * 256)] (w.drewN n) fun e w' => e = .returned (.tuple #[.int .u64 g2, .bool (decide (g2 ≤ 1099511627776 - pages * 256))]) ∧ ∃ m, w' = (w.drewN n).drewN m := fun n => by
        have := gap_in (h.drewN n) 256 (pages * 256) (by omega) (by omega)
        rw [← hg2, show ((pages * 256 : Nat) : Int) = (pages : Int) * 256 from by omega] at this
        exact this
      have HQ1 := Aside0.mk hQ1
      have HQ2 := Aside0.mk hQ2
      have e25 : IntKind.i64.wrap ((s.used : Int) + (pages : Int)) = (s.used : Int) + (pages : Int) := IntWalk.i64_in _ ⟨by omega, by omega⟩
      have hr0 : ∀ b ab, reserveF s hint pages b ab = ({ s with used := s.used + pages, rs := putRoom s.rs ⟨b, ab, placeFor s hint pages, List.replicate pages none⟩ }, placeFor s hint pages, 0) := fun b ab => by unfold reserveF; rw [if_neg c1, if_neg c4]
      have HR := Aside0.mk hr0
      clear h c1 hr0 hQ1 hQ2 hmx hgood hpo hg1 hg2 hq
      obtain ⟨P, hP⟩ : ∃ P, P = placeFor s hint pages := ⟨_, rfl⟩
      rw [← hP] at HPL HPO HR HG
      have HPd := Aside0.mk hP
      clear hP
      by_cases c5 : g1 ≤ 1099511627776 - pages * 256
      · have hd5 : decide (g1 ≤ 1099511627776 - pages * 256) = true := decide_eq_true c5
        have hPg : P = g1 := by rw [HPL.out, if_pos c5]
        subst hPg
        rw [hd5] at HQ1
        clear hd5 HPL HQ2
        go_enter Try.func54, Try.ntmps54
        go_wp2
        go_quiet (fail)
        clear e25
        go_wp2_with (first
          | (refine max_arm rfl (.tmp 33) (.const (.int .u64 1)) rfl _ _ _ rfl rfl HMX.out ?_)
          | (go_at_call 76; (with_reducible refine (HQ1.out _).mono ?_); rintro _ _ ⟨rfl, m1, rfl⟩; clear HQ1; rw [World.drewN_drewN]; generalize hW0 : w.drewN (nq + m1) = W0; have HH0 := Aside0.mk (show Holds W0 own base a v s from by rw [← hW0]; exact HH.out.drewN _); have HF0 := Aside0.mk (show Few own base w W0 from by rw [← hW0]; exact (Few.refl _ _ _).below hbs (pw_below_drewN (Below.refl _ _) _)); have hz0 : w.heap.size = W0.heap.size := (by rw [← hW0]; simp); clear hW0 hs0 hs1; have hmk := make_pages pages (by omega))
          | fail)
        have HX := Aside0.mk (show Below W0.heap.size W0 ((W0.alloc (.cells (Array.replicate pages (Value.pointer none)) 126)).alloc (.cells #[.int .u64 (P : Int), .slice (some ⟨W0.heap.size, 0, none⟩) pages pages] 125)) from below_alloc (below_alloc (Below.refl _ _) _) _)
        have hbs0 : base ≤ W0.heap.size := by omega
        have HQb := behind_in (HH0.out.below HX.out) P (by have := HPO.out; omega)
        (with_reducible refine HQb.mono ?_)
        clear HQb
        rintro _ W2 ⟨rfl, hB2⟩
        have hX1 : W0.heap.size + 2 ≤ W2.heap.size := by have := hB2.size; simp at this; omega
        have HF2 := Aside0.mk ((HF0.out.below hbs0 HX.out).below (by have := HX.out.size; omega) hB2)
        have HH2 := Aside0.mk ((HH0.out.below HX.out).below hB2)
        have HA2 := Aside0.mk (show Blk W2 W0.heap.size (Array.replicate pages (Value.pointer none)) 126 from ((Blk.new W0 _ _).below (below_alloc (Below.refl _ _) _)).below hB2)
        have HRb2 := Aside0.mk (show Blk W2 (W0.heap.size + 1) #[.int .u64 (P : Int), .slice (some ⟨W0.heap.size, 0, none⟩) pages pages] 125 from by
          have := Blk.new (W0.alloc (.cells (Array.replicate pages (Value.pointer none)) 126)) #[.int .u64 (P : Int), .slice (some ⟨W0.heap.size, 0, none⟩) pages pages] 125
          rw [show (W0.alloc (.cells (Array.replicate pages (Value.pointer none)) 126)).heap.size = W0.heap.size + 1 from by simp] at this
          exact this.below hB2)
        clear hB2 HX
        obtain ⟨A, c, hv, hc⟩ := HH2.out.slice
        subst hv
        have hs2 := HH2.out.s2
        have hz2 := HH2.out.sp.lt
        have hlen := HH2.out.good.len
        have hbn := behind_le P s.rs
        obtain ⟨i, hi⟩ : ∃ i, i = behind P s.rs := ⟨_, rfl⟩
        rw [← hi] at hbn ⊢
        have HI := Aside0.mk hi
        clear hi
        obtain ⟨n, hn⟩ : ∃ n, n = s.rs.length := ⟨_, rfl⟩
        rw [← hn] at hs2 hlen hbn hc
        have HH3 := Aside0.mk (show Holds W2 own base a (.slice A n c) s from by rw [hn]; exact HH2.out)
        have HN := Aside0.mk hn
        clear hn HH2
        go_wp2_with (first
          | (at_builtin; refine row_append (W := W2) rfl (.tmp 66) (.tmp 67) rfl base (.slice A n c) n (s.rs.map ptrR) (.pointer none) rfl rfl rfl (by have := HH3.out.row; rwa [← HN.out] at this) (by omega) (by omega) ?_; intro v1 W3 ho3 hg3 hat3; obtain ⟨g, c1, cur, hv1, hgb, hgB, hnc, hcm, hcl, hct⟩ := own_open ho3 (by omega); subst hv1; have HG3 := Aside0.mk hg3; have HAT := Aside0.mk hat3; have HGB3 := Aside0.mk hgB; have HCT := Aside0.mk hct; have HCL := Aside0.mk hcl; clear ho3 hg3 hat3 hgB hct hcl; have HS3 := Aside0.mk (show Blk W3 a (cellsS s (.slice A n c)) 113 from HH3.out.sp.move (HG3.out.block a hz2 (fun e => by have := HH3.out.orow a e.symm; rw [HH3.out.osp] at this; cases this))); have hs30 := HS3.out.cell 2 _ rfl; have hs3f := HS3.out.free 2; clear hs2))
        have hgo : own g = some .rooms ∨ W2.heap.size ≤ g := by
          rcases HAT.out with hh | ⟨b, hb1, hb2⟩
          · exact .inl (HH3.out.orow g hh.symm)
          · have hgb2 : g = b := by simpa [Value.ownBlock] using hb1
            exact .inr (by omega)
        have hoa := HH3.out.osp
        have hag : a ≠ g := by
          rcases hgo with hh | hh
          · intro e; rw [e, hh] at hoa; cases hoa
          · omega
        have hnone : ∀ k, w.heap.size ≤ k → own k = none := fun k hk => by
          cases ho : own k with
          | none => rfl
          | some r => have := (HH.out.lt k (by rw [ho]; simp)).2; omega
        have hfar : ∀ k, w.heap.size ≤ k → k < W2.heap.size → W3.heap[k]? = W2.heap[k]? := fun k hk hk2 => HG3.out.block k hk2 (fun e => by have := HH3.out.orow k e.symm; rw [hnone k hk] at this; cases this)
        have hsz3 : W2.heap.size ≤ W3.heap.size := HG3.out.size
        have HF3 := Aside0.mk (HF2.out.grown (by omega) HG3.out (fun k hk => ⟨(HH3.out.lt k (by rw [HH3.out.orow k hk]; simp)).1, .inr (.inr (HH3.out.orow k hk))⟩))
        have haz : a < W0.heap.size := by have := HH.out.sp.lt; omega
        have hba : base ≤ a := (HH3.out.lt a (by rw [hoa]; simp)).1
        generalize hW4 : W3.setCell ⟨a, 2, none⟩ (.slice (some ⟨g, 0, none⟩) (n + 1) c1) = W4
        have HS4 := Aside0.mk (show Blk W4 a (cellsS s (.slice (some ⟨g, 0, none⟩) (n + 1) c1)) 113 from by rw [← hW4]; exact HS3.out.set 2 _)
        have HB4 := Aside0.mk (show Blk W4 g cur.toArray 122 from by rw [← hW4]; exact HGB3.out.far 2 _ hag)
        have HA4 := Aside0.mk (show Blk W4 W0.heap.size (Array.replicate pages (Value.pointer none)) 126 from by rw [← hW4]; exact (HA2.out.move (hfar _ (by omega) (by omega))).far 2 _ (by omega))
        have HR4 := Aside0.mk (show Blk W4 (W0.heap.size + 1) #[.int .u64 (P : Int), .slice (some ⟨W0.heap.size, 0, none⟩) pages pages] 125 from by rw [← hW4]; exact (HRb2.out.move (hfar _ (by omega) (by omega))).far 2 _ (by omega))
        have HF4 := Aside0.mk (show Few own base w W4 from by rw [← hW4]; exact HF3.out.set hba (.inr (.inl hoa)) 2 _)
        have hsz4 : W4.heap.size = W3.heap.size := by rw [← hW4]; simp [World.setCell]
        have HGO := Aside0.mk hgo
        have HNONE := Aside0.mk hnone
        have HOA := Aside0.mk hoa
        clear hW4 hgo hnone hfar HGB3 HS3 hs30 hs3f HAT HF3 HA2 HRb2 HF2 HG3 HH0 HF0 hoa
        have hs42 : W4.cell? ⟨a, 2, none⟩ = some (.slice (some ⟨g, 0, none⟩) (n + 1) c1) := HS4.out.cell 2 _ rfl
        obtain ⟨D, hD⟩ : ∃ D : Option Addr, D = if c1 = i + 1 then some ⟨g, 0, none⟩ else some ⟨g, i + 1, none⟩ := ⟨_, rfl⟩
        have hcut1 : ∀ W : World, (Instr.slice 111 (.slice (some ⟨g, 0, none⟩) (n + 1) c1) (some (.int .i64 ((i : Int) + 1))) none none).run Try.prog W = .ok (.slice D (n - i) (c1 - (i + 1))) W := fun W => by
          have hh := cut_rooms g (n + 1) c1 (i + 1) (by omega) hnc D hD W
          rw [show ((i + 1 : Nat) : Int) = (i : Int) + 1 from by omega, Nat.add_sub_add_right] at hh
          exact hh
        have hcut2 := cut_rooms g (n + 1) c1 i (by omega) hnc (some ⟨g, i, none⟩) (by rw [if_neg (by omega)])
        have HD := Aside0.mk hD
        clear hD
        have e76 : IntKind.i64.wrap ((i : Int) + 1) = (i : Int) + 1 := IntWalk.i64_in _ ⟨by omega, by omega⟩
        go_still_tail 13, (by kernel_rfl)
        clear e76
        change wpList _ _ _ _ _ (World.drew W4)
        have hcs : ∀ (j : Nat) (u : Value), ((s.rs.drop i).map ptrR)[j]? = some u → cur[i + j]? = some u := fun j u hu => by
          have hjl : i + j < n := by
            have := (List.getElem?_eq_some_iff.1 hu).1
            rw [List.length_map, List.length_drop, ← HN.out] at this
            omega
          rw [← List.getElem?_take_of_lt (show i + j < n + 1 by omega), HCT.out, List.getElem?_append_left (by rw [List.length_map, ← HN.out]; exact hjl), List.getElem?_map]
          rwa [List.getElem?_map, List.getElem?_drop] at hu
        refine copy_row rfl (.tmp 77) (.tmp 83) rfl g (i + 1) (n - i) (c1 - (i + 1)) D ⟨g, i, none⟩ (n + 1 - i) (c1 - i) rfl rfl cur 122 HB4.out ((s.rs.drop i).map ptrR) (by rw [List.length_map, List.length_drop, ← HN.out]; omega) (fun hpos => by rw [HD.out, if_neg (by rw [List.length_map, List.length_drop, ← HN.out] at hpos; omega)]) (fun j u hu => by rw [add_at]; exact Blk.cell (w := W4.drew) HB4.out (i + j) u (by rw [List.getElem?_toArray]; exact hcs j u hu)) (by rw [List.length_map, List.length_drop, ← HN.out, HCL.out]; omega) (fun u hu => by obtain ⟨r, -, rfl⟩ := List.mem_map.1 hu; rfl) ?_
        intro W5 hb5 hk5 hs5 hB5
        obtain ⟨cs, hcs0⟩ : ∃ cs, cs = (s.rs.drop i).map ptrR := ⟨_, rfl⟩
        rw [← hcs0] at hb5 ⊢
        have hcsl : cs.length = n - i := by rw [hcs0, List.length_map, List.length_drop, ← HN.out]
        have hag2 : W0.heap.size ≠ g := by
          rcases HGO.out with hh | hh
          · intro e; have := HNONE.out g (by omega); rw [hh] at this; cases this
          · omega
        have hag3 : W0.heap.size + 1 ≠ g := by
          rcases HGO.out with hh | hh
          · intro e; have := HNONE.out g (by omega); rw [hh] at this; cases this
          · omega
        have hk5' : ∀ k, k ≠ g → W5.heap[k]? = W4.heap[k]? := fun k hk => hk5 k hk
        have HS5 := Aside0.mk (HS4.out.move (hk5' a hag))
        have HA5 := Aside0.mk (HA4.out.move (hk5' _ hag2))
        have HR5 := Aside0.mk (HR4.out.move (hk5' _ hag3))
        have HF5 := Aside0.mk (show Few own base w W5 from HF4.out.far hgb (by rcases HGO.out with hh | hh; exact .inr (.inr hh); exact .inl (by omega)) hk5' (Below.trans (Below.refl _ _) ((below_drew1 (Below.refl base W4)).trans (hB5 base hgb))))
        have hsz5 : W5.heap.size = W4.heap.size := hs5
        have hli : i < (splice cur (i + 1) cs).length := by rw [length_splice _ _ _ (by rw [hcsl, HCL.out]; omega), HCL.out]; omega
        have hci : W5.cell? ⟨g, i, none⟩ = some ((splice cur (i + 1) cs)[i]) := hb5.cell i _ (by rw [List.getElem?_toArray, List.getElem?_eq_getElem hli])
        have hcf : W5.frozen? ⟨g, i, none⟩ = false := hb5.free i
        have HB5 := Aside0.mk hb5
        have HCS := Aside0.mk hcs0
        have HK5 := Aside0.mk hk5'
        clear hb5 hk5 hk5' hs5 hB5 hcs hcs0 hcut1 hcut2 hs42
        have hs52 : W5.cell? ⟨a, 2, none⟩ = some (.slice (some ⟨g, 0, none⟩) (n + 1) c1) := HS5.out.cell 2 _ rfl
        have hs51 : W5.cell? ⟨a, 1, none⟩ = some (.int .i64 (s.used : Int)) := HS5.out.cell 1 _ rfl
        have hs5f : W5.frozen? ⟨a, 1, none⟩ = false := HS5.out.free 1
        have hfin : ResOk w own base a s hint pages (.returned (.tuple #[.int .u64 (P : Int), .int .i64 0])) ((W5.setCell ⟨g, i, none⟩ (.pointer (some ⟨W0.heap.size + 1, 0, none⟩))).setCell ⟨a, 1, none⟩ (.int .i64 ((s.used : Int) + (pages : Int)))) := by
          obtain ⟨W7, hW7⟩ : ∃ W7, W7 = (W5.setCell ⟨g, i, none⟩ (.pointer (some ⟨W0.heap.size + 1, 0, none⟩))).setCell ⟨a, 1, none⟩ (.int .i64 ((s.used : Int) + (pages : Int))) := ⟨_, rfl⟩
          rw [← hW7]
          have hF7 : Few own base w W7 := by rw [hW7]; exact (HF5.out.set hgb (by rcases HGO.out with hh | hh; exact .inr (.inr hh); exact .inl (by omega)) i _).set hba (.inr (.inl HOA.out)) 1 _
          have hsz7 : W7.heap.size = W5.heap.size := by rw [hW7]; simp [World.setCell]
          have hown : ∀ k, own k ≠ none → (if k = W0.heap.size then some (Role.arr P) else if k = W0.heap.size + 1 then some (Role.room P) else if k = g then some Role.rooms else own k) = own k := fun k hk => by
            have := (HH.out.lt k hk).2
            rw [if_neg (by omega), if_neg (by omega)]
            by_cases e : k = g
            · subst e
              rw [if_pos rfl]
              rcases HGO.out with hh | hh
              · exact hh.symm
              · omega
            · rw [if_neg e]
          refine ⟨fun k => if k = W0.heap.size then some (.arr P) else if k = W0.heap.size + 1 then some (.room P) else if k = g then some .rooms else own k, .slice (some ⟨g, 0, none⟩) (n + 1) c1, W0.heap.size + 1, W0.heap.size, by rw [HR.out], ?_, fun k hk => ?_, hF7.kp⟩
          · rw [HR.out]
            refine HH.out.rebuild hF7 hown ?_ ?_ (fun k hk => ?_) (fun k hk => ?_) (HG.out _ _) (fun j q hq => ?_)
            · have hh := (HS5.out.far (g := g) i (.pointer (some ⟨W0.heap.size + 1, 0, none⟩)) (Ne.symm hag)).set 1 (.int .i64 ((s.used : Int) + (pages : Int)))
              rw [hW7]
              simpa [cellsS] using hh
            · have hh := (HB5.out.set i (.pointer (some ⟨W0.heap.size + 1, 0, none⟩))).far (g := a) 1 (.int .i64 ((s.used : Int) + (pages : Int))) hag
              rw [← hW7] at hh
              rw [put_map, put_len, ← HN.out]
              simp only []
              rw [← HI.out]
              have h2 := row_put (z := .pointer none) n i (.pointer (some ⟨W0.heap.size + 1, 0, none⟩)) HCT.out (by rw [List.length_map, ← HN.out]) hbn (by rw [HCL.out]; exact hnc)
              rw [← List.map_drop, ← HCS.out] at h2
              rw [← List.map_drop, ← HCS.out]
              exact .inl (own_shut hgb (by simpa using hh) hnc hcm (by rw [List.length_set, length_splice _ _ _ (by rw [hcsl, HCL.out]; omega), HCL.out]) h2)
            · have : g = k := by simpa [Value.ownBlock] using hk
              subst this
              simp only []
              rw [if_neg (Ne.symm hag2), if_neg (Ne.symm hag3), if_pos trivial]
            · rw [hsz7, hsz5, hsz4]
              replace hk : (if k = W0.heap.size then some (Role.arr P) else if k = W0.heap.size + 1 then some (Role.room P) else if k = g then some Role.rooms else own k) ≠ none := hk
              by_cases e1 : k = W0.heap.size
              · omega
              · rw [if_neg e1] at hk
                by_cases e2 : k = W0.heap.size + 1
                · omega
                · rw [if_neg e2] at hk
                  by_cases e3 : k = g
                  · have := HB5.out.lt
                    rw [hsz5, hsz4] at this
                    omega
                  · rw [if_neg e3] at hk
                    have := HH.out.lt k hk
                    omega
            · rcases put_at _ _ _ _ hq with ⟨_, h1⟩ | ⟨_, h1⟩ | ⟨_, h1⟩
              · exact .inl ⟨_, h1⟩
              · right
                subst h1
                simp only []
                refine ⟨⟨?_, by rw [if_neg (by omega), if_pos trivial]⟩, ⟨?_, by rw [if_pos trivial]⟩, fun k p hp => ?_⟩
                · rw [hW7]
                  unfold cellsR
                  simp only [List.length_replicate]
                  exact (HR5.out.far i _ (Ne.symm hag3)).far 1 _ (by omega)
                · rw [hW7]
                  unfold cellsA
                  simp only [List.map_replicate, List.toArray_replicate]
                  exact (HA5.out.far i _ (Ne.symm hag2)).far 1 _ (by omega)
                · simp only [List.getElem?_replicate] at hp
                  split at hp <;> cases hp
              · exact .inl ⟨_, h1⟩
          · simp only []
            rw [if_neg (by omega), if_neg (by omega)]
            by_cases e : k = g
            · subst e
              rw [if_pos rfl]
              rcases HGO.out with hh | hh
              · exact hh.symm
              · omega
            · rw [if_neg e]
        have HFin := Aside0.mk hfin
        clear hfin
        go_wp2
        go_ret2
        exact HFin.out
      · have hd5 : decide (g1 ≤ 1099511627776 - pages * 256) = false := decide_eq_false c5
        have hPg : P = g2 := by rw [HPL.out, if_neg c5]
        subst hPg
        rw [hd5] at HQ1
        clear hd5 HPL
        go_enter Try.func54, Try.ntmps54
        go_wp2
        go_quiet (fail)
        clear e25
        go_wp2_with (first
          | (refine max_arm rfl (.tmp 33) (.const (.int .u64 1)) rfl _ _ _ rfl rfl HMX.out ?_)
          | (go_at_call 76; (with_reducible refine (HQ1.out _).mono ?_); rintro _ _ ⟨rfl, m1, rfl⟩; clear HQ1)
          | (go_at_call 76; (with_reducible refine (HQ2.out _).mono ?_); rintro _ _ ⟨rfl, m2, rfl⟩; clear HQ2; rw [World.drewN_drewN]; generalize hW0 : w.drewN (nq + m1 + m2) = W0; have HH0 := Aside0.mk (show Holds W0 own base a v s from by rw [← hW0]; exact HH.out.drewN _); have HF0 := Aside0.mk (show Few own base w W0 from by rw [← hW0]; exact (Few.refl _ _ _).below hbs (pw_below_drewN (Below.refl _ _) _)); have hz0 : w.heap.size = W0.heap.size := (by rw [← hW0]; simp); clear hW0 hs0 hs1; have hmk := make_pages pages (by omega))
          | fail)
        have HX := Aside0.mk (show Below W0.heap.size W0 ((W0.alloc (.cells (Array.replicate pages (Value.pointer none)) 126)).alloc (.cells #[.int .u64 (P : Int), .slice (some ⟨W0.heap.size, 0, none⟩) pages pages] 125)) from below_alloc (below_alloc (Below.refl _ _) _) _)
        have hbs0 : base ≤ W0.heap.size := by omega
        have HQb := behind_in (HH0.out.below HX.out) P (by have := HPO.out; omega)
        (with_reducible refine HQb.mono ?_)
        clear HQb
        rintro _ W2 ⟨rfl, hB2⟩
        have hX1 : W0.heap.size + 2 ≤ W2.heap.size := by have := hB2.size; simp at this; omega
        have HF2 := Aside0.mk ((HF0.out.below hbs0 HX.out).below (by have := HX.out.size; omega) hB2)
        have HH2 := Aside0.mk ((HH0.out.below HX.out).below hB2)
        have HA2 := Aside0.mk (show Blk W2 W0.heap.size (Array.replicate pages (Value.pointer none)) 126 from ((Blk.new W0 _ _).below (below_alloc (Below.refl _ _) _)).below hB2)
        have HRb2 := Aside0.mk (show Blk W2 (W0.heap.size + 1) #[.int .u64 (P : Int), .slice (some ⟨W0.heap.size, 0, none⟩) pages pages] 125 from by
          have := Blk.new (W0.alloc (.cells (Array.replicate pages (Value.pointer none)) 126)) #[.int .u64 (P : Int), .slice (some ⟨W0.heap.size, 0, none⟩) pages pages] 125
          rw [show (W0.alloc (.cells (Array.replicate pages (Value.pointer none)) 126)).heap.size = W0.heap.size + 1 from by simp] at this
          exact this.below hB2)
        clear hB2 HX
        obtain ⟨A, c, hv, hc⟩ := HH2.out.slice
        subst hv
        have hs2 := HH2.out.s2
        have hz2 := HH2.out.sp.lt
        have hlen := HH2.out.good.len
        have hbn := behind_le P s.rs
        obtain ⟨i, hi⟩ : ∃ i, i = behind P s.rs := ⟨_, rfl⟩
        rw [← hi] at hbn ⊢
        have HI := Aside0.mk hi
        clear hi
        obtain ⟨n, hn⟩ : ∃ n, n = s.rs.length := ⟨_, rfl⟩
        rw [← hn] at hs2 hlen hbn hc
        have HH3 := Aside0.mk (show Holds W2 own base a (.slice A n c) s from by rw [hn]; exact HH2.out)
        have HN := Aside0.mk hn
        clear hn HH2
        go_wp2_with (first
          | (at_builtin; refine row_append (W := W2) rfl (.tmp 66) (.tmp 67) rfl base (.slice A n c) n (s.rs.map ptrR) (.pointer none) rfl rfl rfl (by have := HH3.out.row; rwa [← HN.out] at this) (by omega) (by omega) ?_; intro v1 W3 ho3 hg3 hat3; obtain ⟨g, c1, cur, hv1, hgb, hgB, hnc, hcm, hcl, hct⟩ := own_open ho3 (by omega); subst hv1; have HG3 := Aside0.mk hg3; have HAT := Aside0.mk hat3; have HGB3 := Aside0.mk hgB; have HCT := Aside0.mk hct; have HCL := Aside0.mk hcl; clear ho3 hg3 hat3 hgB hct hcl; have HS3 := Aside0.mk (show Blk W3 a (cellsS s (.slice A n c)) 113 from HH3.out.sp.move (HG3.out.block a hz2 (fun e => by have := HH3.out.orow a e.symm; rw [HH3.out.osp] at this; cases this))); have hs30 := HS3.out.cell 2 _ rfl; have hs3f := HS3.out.free 2; clear hs2))
        have hgo : own g = some .rooms ∨ W2.heap.size ≤ g := by
          rcases HAT.out with hh | ⟨b, hb1, hb2⟩
          · exact .inl (HH3.out.orow g hh.symm)
          · have hgb2 : g = b := by simpa [Value.ownBlock] using hb1
            exact .inr (by omega)
        have hoa := HH3.out.osp
        have hag : a ≠ g := by
          rcases hgo with hh | hh
          · intro e; rw [e, hh] at hoa; cases hoa
          · omega
        have hnone : ∀ k, w.heap.size ≤ k → own k = none := fun k hk => by
          cases ho : own k with
          | none => rfl
          | some r => have := (HH.out.lt k (by rw [ho]; simp)).2; omega
        have hfar : ∀ k, w.heap.size ≤ k → k < W2.heap.size → W3.heap[k]? = W2.heap[k]? := fun k hk hk2 => HG3.out.block k hk2 (fun e => by have := HH3.out.orow k e.symm; rw [hnone k hk] at this; cases this)
        have hsz3 : W2.heap.size ≤ W3.heap.size := HG3.out.size
        have HF3 := Aside0.mk (HF2.out.grown (by omega) HG3.out (fun k hk => ⟨(HH3.out.lt k (by rw [HH3.out.orow k hk]; simp)).1, .inr (.inr (HH3.out.orow k hk))⟩))
        have haz : a < W0.heap.size := by have := HH.out.sp.lt; omega
        have hba : base ≤ a := (HH3.out.lt a (by rw [hoa]; simp)).1
        generalize hW4 : W3.setCell ⟨a, 2, none⟩ (.slice (some ⟨g, 0, none⟩) (n + 1) c1) = W4
        have HS4 := Aside0.mk (show Blk W4 a (cellsS s (.slice (some ⟨g, 0, none⟩) (n + 1) c1)) 113 from by rw [← hW4]; exact HS3.out.set 2 _)
        have HB4 := Aside0.mk (show Blk W4 g cur.toArray 122 from by rw [← hW4]; exact HGB3.out.far 2 _ hag)
        have HA4 := Aside0.mk (show Blk W4 W0.heap.size (Array.replicate pages (Value.pointer none)) 126 from by rw [← hW4]; exact (HA2.out.move (hfar _ (by omega) (by omega))).far 2 _ (by omega))
        have HR4 := Aside0.mk (show Blk W4 (W0.heap.size + 1) #[.int .u64 (P : Int), .slice (some ⟨W0.heap.size, 0, none⟩) pages pages] 125 from by rw [← hW4]; exact (HRb2.out.move (hfar _ (by omega) (by omega))).far 2 _ (by omega))
        have HF4 := Aside0.mk (show Few own base w W4 from by rw [← hW4]; exact HF3.out.set hba (.inr (.inl hoa)) 2 _)
        have hsz4 : W4.heap.size = W3.heap.size := by rw [← hW4]; simp [World.setCell]
        have HGO := Aside0.mk hgo
        have HNONE := Aside0.mk hnone
        have HOA := Aside0.mk hoa
        clear hW4 hgo hnone hfar HGB3 HS3 hs30 hs3f HAT HF3 HA2 HRb2 HF2 HG3 HH0 HF0 hoa
        have hs42 : W4.cell? ⟨a, 2, none⟩ = some (.slice (some ⟨g, 0, none⟩) (n + 1) c1) := HS4.out.cell 2 _ rfl
        obtain ⟨D, hD⟩ : ∃ D : Option Addr, D = if c1 = i + 1 then some ⟨g, 0, none⟩ else some ⟨g, i + 1, none⟩ := ⟨_, rfl⟩
        have hcut1 : ∀ W : World, (Instr.slice 111 (.slice (some ⟨g, 0, none⟩) (n + 1) c1) (some (.int .i64 ((i : Int) + 1))) none none).run Try.prog W = .ok (.slice D (n - i) (c1 - (i + 1))) W := fun W => by
          have hh := cut_rooms g (n + 1) c1 (i + 1) (by omega) hnc D hD W
          rw [show ((i + 1 : Nat) : Int) = (i : Int) + 1 from by omega, Nat.add_sub_add_right] at hh
          exact hh
        have hcut2 := cut_rooms g (n + 1) c1 i (by omega) hnc (some ⟨g, i, none⟩) (by rw [if_neg (by omega)])
        have HD := Aside0.mk hD
        clear hD
        have e76 : IntKind.i64.wrap ((i : Int) + 1) = (i : Int) + 1 := IntWalk.i64_in _ ⟨by omega, by omega⟩
        go_still_tail 13, (by kernel_rfl)
        clear e76
        change wpList _ _ _ _ _ (World.drew W4)
        have hcs : ∀ (j : Nat) (u : Value), ((s.rs.drop i).map ptrR)[j]? = some u → cur[i + j]? = some u := fun j u hu => by
          have hjl : i + j < n := by
            have := (List.getElem?_eq_some_iff.1 hu).1
            rw [List.length_map, List.length_drop, ← HN.out] at this
            omega
          rw [← List.getElem?_take_of_lt (show i + j < n + 1 by omega), HCT.out, List.getElem?_append_left (by rw [List.length_map, ← HN.out]; exact hjl), List.getElem?_map]
          rwa [List.getElem?_map, List.getElem?_drop] at hu
        refine copy_row rfl (.tmp 77) (.tmp 83) rfl g (i + 1) (n - i) (c1 - (i + 1)) D ⟨g, i, none⟩ (n + 1 - i) (c1 - i) rfl rfl cur 122 HB4.out ((s.rs.drop i).map ptrR) (by rw [List.length_map, List.length_drop, ← HN.out]; omega) (fun hpos => by rw [HD.out, if_neg (by rw [List.length_map, List.length_drop, ← HN.out] at hpos; omega)]) (fun j u hu => by rw [add_at]; exact Blk.cell (w := W4.drew) HB4.out (i + j) u (by rw [List.getElem?_toArray]; exact hcs j u hu)) (by rw [List.length_map, List.length_drop, ← HN.out, HCL.out]; omega) (fun u hu => by obtain ⟨r, -, rfl⟩ := List.mem_map.1 hu; rfl) ?_
        intro W5 hb5 hk5 hs5 hB5
        obtain ⟨cs, hcs0⟩ : ∃ cs, cs = (s.rs.drop i).map ptrR := ⟨_, rfl⟩
        rw [← hcs0] at hb5 ⊢
        have hcsl : cs.length = n - i := by rw [hcs0, List.length_map, List.length_drop, ← HN.out]
        have hag2 : W0.heap.size ≠ g := by
          rcases HGO.out with hh | hh
          · intro e; have := HNONE.out g (by omega); rw [hh] at this; cases this
          · omega
        have hag3 : W0.heap.size + 1 ≠ g := by
          rcases HGO.out with hh | hh
          · intro e; have := HNONE.out g (by omega); rw [hh] at this; cases this
          · omega
        have hk5' : ∀ k, k ≠ g → W5.heap[k]? = W4.heap[k]? := fun k hk => hk5 k hk
        have HS5 := Aside0.mk (HS4.out.move (hk5' a hag))
        have HA5 := Aside0.mk (HA4.out.move (hk5' _ hag2))
        have HR5 := Aside0.mk (HR4.out.move (hk5' _ hag3))
        have HF5 := Aside0.mk (show Few own base w W5 from HF4.out.far hgb (by rcases HGO.out with hh | hh; exact .inr (.inr hh); exact .inl (by omega)) hk5' (Below.trans (Below.refl _ _) ((below_drew1 (Below.refl base W4)).trans (hB5 base hgb))))
        have hsz5 : W5.heap.size = W4.heap.size := hs5
        have hli : i < (splice cur (i + 1) cs).length := by rw [length_splice _ _ _ (by rw [hcsl, HCL.out]; omega), HCL.out]; omega
        have hci : W5.cell? ⟨g, i, none⟩ = some ((splice cur (i + 1) cs)[i]) := hb5.cell i _ (by rw [List.getElem?_toArray, List.getElem?_eq_getElem hli])
        have hcf : W5.frozen? ⟨g, i, none⟩ = false := hb5.free i
        have HB5 := Aside0.mk hb5
        have HCS := Aside0.mk hcs0
        have HK5 := Aside0.mk hk5'
        clear hb5 hk5 hk5' hs5 hB5 hcs hcs0 hcut1 hcut2 hs42
        have hs52 : W5.cell? ⟨a, 2, none⟩ = some (.slice (some ⟨g, 0, none⟩) (n + 1) c1) := HS5.out.cell 2 _ rfl
        have hs51 : W5.cell? ⟨a, 1, none⟩ = some (.int .i64 (s.used : Int)) := HS5.out.cell 1 _ rfl
        have hs5f : W5.frozen? ⟨a, 1, none⟩ = false := HS5.out.free 1
        have hfin : ResOk w own base a s hint pages (.returned (.tuple #[.int .u64 (P : Int), .int .i64 0])) ((W5.setCell ⟨g, i, none⟩ (.pointer (some ⟨W0.heap.size + 1, 0, none⟩))).setCell ⟨a, 1, none⟩ (.int .i64 ((s.used : Int) + (pages : Int)))) := by
          obtain ⟨W7, hW7⟩ : ∃ W7, W7 = (W5.setCell ⟨g, i, none⟩ (.pointer (some ⟨W0.heap.size + 1, 0, none⟩))).setCell ⟨a, 1, none⟩ (.int .i64 ((s.used : Int) + (pages : Int))) := ⟨_, rfl⟩
          rw [← hW7]
          have hF7 : Few own base w W7 := by rw [hW7]; exact (HF5.out.set hgb (by rcases HGO.out with hh | hh; exact .inr (.inr hh); exact .inl (by omega)) i _).set hba (.inr (.inl HOA.out)) 1 _
          have hsz7 : W7.heap.size = W5.heap.size := by rw [hW7]; simp [World.setCell]
          have hown : ∀ k, own k ≠ none → (if k = W0.heap.size then some (Role.arr P) else if k = W0.heap.size + 1 then some (Role.room P) else if k = g then some Role.rooms else own k) = own k := fun k hk => by
            have := (HH.out.lt k hk).2
            rw [if_neg (by omega), if_neg (by omega)]
            by_cases e : k = g
            · subst e
              rw [if_pos rfl]
              rcases HGO.out with hh | hh
              · exact hh.symm
              · omega
            · rw [if_neg e]
          refine ⟨fun k => if k = W0.heap.size then some (.arr P) else if k = W0.heap.size + 1 then some (.room P) else if k = g then some .rooms else own k, .slice (some ⟨g, 0, none⟩) (n + 1) c1, W0.heap.size + 1, W0.heap.size, by rw [HR.out], ?_, fun k hk => ?_, hF7.kp⟩
          · rw [HR.out]
            refine HH.out.rebuild hF7 hown ?_ ?_ (fun k hk => ?_) (fun k hk => ?_) (HG.out _ _) (fun j q hq => ?_)
            · have hh := (HS5.out.far (g := g) i (.pointer (some ⟨W0.heap.size + 1, 0, none⟩)) (Ne.symm hag)).set 1 (.int .i64 ((s.used : Int) + (pages : Int)))
              rw [hW7]
              simpa [cellsS] using hh
            · have hh := (HB5.out.set i (.pointer (some ⟨W0.heap.size + 1, 0, none⟩))).far (g := a) 1 (.int .i64 ((s.used : Int) + (pages : Int))) hag
              rw [← hW7] at hh
              rw [put_map, put_len, ← HN.out]
              simp only []
              rw [← HI.out]
              have h2 := row_put (z := .pointer none) n i (.pointer (some ⟨W0.heap.size + 1, 0, none⟩)) HCT.out (by rw [List.length_map, ← HN.out]) hbn (by rw [HCL.out]; exact hnc)
              rw [← List.map_drop, ← HCS.out] at h2
              rw [← List.map_drop, ← HCS.out]
              exact .inl (own_shut hgb (by simpa using hh) hnc hcm (by rw [List.length_set, length_splice _ _ _ (by rw [hcsl, HCL.out]; omega), HCL.out]) h2)
            · have : g = k := by simpa [Value.ownBlock] using hk
              subst this
              simp only []
              rw [if_neg (Ne.symm hag2), if_neg (Ne.symm hag3), if_pos trivial]
            · rw [hsz7, hsz5, hsz4]
              replace hk : (if k = W0.heap.size then some (Role.arr P) else if k = W0.heap.size + 1 then some (Role.room P) else if k = g then some Role.rooms else own k) ≠ none := hk
              by_cases e1 : k = W0.heap.size
              · omega
              · rw [if_neg e1] at hk
                by_cases e2 : k = W0.heap.size + 1
                · omega
                · rw [if_neg e2] at hk
                  by_cases e3 : k = g
                  · have := HB5.out.lt
                    rw [hsz5, hsz4] at this
                    omega
                  · rw [if_neg e3] at hk
                    have := HH.out.lt k hk
                    omega
            · rcases put_at _ _ _ _ hq with ⟨_, h1⟩ | ⟨_, h1⟩ | ⟨_, h1⟩
              · exact .inl ⟨_, h1⟩
              · right
                subst h1
                simp only []
                refine ⟨⟨?_, by rw [if_neg (by omega), if_pos trivial]⟩, ⟨?_, by rw [if_pos trivial]⟩, fun k p hp => ?_⟩
                · rw [hW7]
                  unfold cellsR
                  simp only [List.length_replicate]
                  exact (HR5.out.far i _ (Ne.symm hag3)).far 1 _ (by omega)
                · rw [hW7]
                  unfold cellsA
                  simp only [List.map_replicate, List.toArray_replicate]
                  exact (HA5.out.far i _ (Ne.symm hag2)).far 1 _ (by omega)
                · simp only [List.getElem?_replicate] at hp
                  split at hp <;> cases hp
              · exact .inl ⟨_, h1⟩
          · simp only []
            rw [if_neg (by omega), if_neg (by omega)]
            by_cases e : k = g
            · subst e
              rw [if_pos rfl]
              rcases HGO.out with hh | hh
              · exact hh.symm
              · omega
            · rw [if_neg e]
        have HFin := Aside0.mk hfin
        clear hfin
        go_wp2
        go_ret2
        exact HFin.out
end Go.Proofs.Ytmpahimeljbliaa.Vm
