/- A room is given back. No condition but that the space lies in memory as told. -/
import Derived.Test.YtmpahimeljbliaaVmPut
import Derived.StillTailTactics
import Derived.Deep.RegionLawGrows
namespace Go.Proofs.Ytmpahimeljbliaa.Vm
open Go.RowKit Go.Proofs Go.Proofs.YtmpahimeljbliaaW.PrintWords

/-- The number of the room that begins at a place. -/
def roomAt (x : Nat) : List Rm → Option Nat
  | [] => none
  | r :: l => if r.at_ = x then some 0 else (roomAt x l).map (· + 1)
def releaseF (s : Sp) (x : Nat) : Sp × Int :=
  match roomAt x s.rs with
  | none => (s, 52)
  | some i => match s.rs[i]? with
    | none => (s, 52)
    | some r => ({ s with used := s.used - r.ps.length, rs := s.rs.eraseIdx i }, 0)
theorem roomAt_first (x : Nat) : ∀ (l : List Rm) (k : Nat) (r : Rm), l[k]? = some r → r.at_ = x → (∀ j q, j < k → l[j]? = some q → q.at_ ≠ x) → roomAt x l = some k
  | [], k, r, h, _, _ => by simp at h
  | q :: l, 0, r, h, hx, _ => by
    obtain rfl : q = r := by simpa using h
    rw [roomAt, if_pos hx]
  | q :: l, k + 1, r, h, hx, hn => by
    rw [roomAt, if_neg (hn 0 q (by omega) rfl), roomAt_first x l k r (by simpa using h) hx (fun j p hj hp => hn (j + 1) p (by omega) (by simpa using hp))]
    rfl
theorem roomAt_none (x : Nat) : ∀ (l : List Rm), (∀ r ∈ l, r.at_ ≠ x) → roomAt x l = none
  | [], _ => rfl
  | q :: l, h => by rw [roomAt, if_neg (h q List.mem_cons_self), roomAt_none x l (fun r hr => h r (List.mem_cons_of_mem _ hr))]; rfl
theorem total_erase : ∀ (l : List Rm) (i : Nat) (r : Rm), l[i]? = some r → total (l.eraseIdx i) + r.ps.length = total l
  | [], i, r, h => by simp at h
  | q :: l, 0, r, h => by
    obtain rfl : q = r := by simpa using h
    simp [total]
    omega
  | q :: l, i + 1, r, h => by
    have := total_erase l i r (by simpa using h)
    simp only [total, List.eraseIdx_cons_succ, List.map_cons, List.sum_cons] at this ⊢
    omega
theorem erase_good {s : Sp} (h : s.Good) {i : Nat} {r : Rm} (hr : s.rs[i]? = some r) : Sp.Good { s with used := s.used - r.ps.length, rs := s.rs.eraseIdx i } := by
  have ht := total_erase s.rs i r hr
  have hu := h.us
  exact ⟨h.b1, h.b2, by simp only []; omega, by have := h.ub; simp only []; omega, h.srt.sublist (List.eraseIdx_sublist _ _), fun q hq => h.rm q (List.mem_of_mem_eraseIdx hq)⟩
/-- append of nothing, as a step of a region that draws. -/
theorem step_app_none {ops : Array Oper} {o : Oper} {a : Act} {w : World} {K : Act → World → Prop} {Q : Exit → Act → World → Prop} {E : Prop} (hgd : o.guard = none) (s x : Operand)
    (ho : o.op = .call { callee := .builtin .append, args := #[s, x], argTypes := #[111, 111] }) (g n c : Nat) (D : Addr) (c' : Nat) (hs : a.eval s = .slice (some ⟨g, 0, none⟩) n c) (hx : a.eval x = .slice (some D) 0 c') (hc : n ≤ c)
    (hK : K (a.put o.dst (.slice (some ⟨g, 0, none⟩) n c)) w) : if Region.wanted o (yielded ops a.tmps) = true then Oper.wp Try.prog o a w K Q else E := by
  have hw : Region.wanted o (yielded ops a.tmps) = true := by simp [Region.wanted, hgd]
  rw [if_pos hw]
  obtain ⟨i0, hi, -⟩ := info_parts info122
  have hrun := run_append_room_cells (P := Try.prog) w 111 o.type 122 i0 Try.underlying111 hi g 0 n c D 0 c' [] (by simp) (fun j u hu => by simp at hu) (fun u hu => by cases hu) (by omega) (fun j hj => by simp at hj) (fun j hj => by simp at hj)
  unfold Oper.wp
  simp [execOp, ho, resolve, invoke, builtin, hs, hx, hrun, Result.andThen]
  exact hK
theorem cut_head (g n c k : Nat) (hk : k ≤ n) (hc : n ≤ c) : ∀ W : World, (Instr.slice 111 (.slice (some ⟨g, 0, none⟩) n c) none (some (.int .i64 k)) (some (.int .i64 k))).run Try.prog W = .ok (.slice (some ⟨g, 0, none⟩) k k) W := by
  obtain ⟨i, hi0, _, hsz, _⟩ := info_parts info122
  intro W
  have hel : Try.prog.elem 111 = 122 := by kernel_rfl
  have hu : Try.prog.underlying 111 = some (.slice (Try.prog.elem 111)) := by rw [hel]; exact Try.underlying111
  rw [run_slice_hm W 111 (some ⟨g, 0, none⟩) n c hu .i64 .i64 (k : Int) (k : Int) (by omega) (by omega) (by omega), hel]
  simp [sizeOf, typeInfo, hi0, hsz, sliced, Result.andThen, Addr.add]
theorem hF {own : Nat → Option Role} {base a : Nat} {w W4 : World} {u : Value} (h : Few own base w W4) (hb : base ≤ W4.heap.size) (hba : base ≤ a) (ho : own a = some .space) : Few own base w (W4.drew.setCell ⟨a, 1, none⟩ u) :=
  (h.below hb (below_drew1 (Below.refl _ _))).set hba (.inr (.inl ho)) 1 u
def RelOk (w : World) (own : Nat → Option Role) (base a : Nat) (s : Sp) (x : Nat) (e : Ending) (w' : World) : Prop :=
  ∃ (own' : Nat → Option Role) (v' : Value), e = .returned (.int .i64 (releaseF s x).2) ∧ Holds w' own' base a v' (releaseF s x).1 ∧ (∀ k, k < w.heap.size → own' k = own k) ∧ Kp own base w w'
set_option maxRecDepth 100000 in
set_option maxHeartbeats 4000000 in
theorem release_in {w : World} {own : Nat → Option Role} {base a : Nat} {v : Value} {s : Sp} (h : Holds w own base a v s) (x : Nat) (hx : x ≤ 18446744073709551615) :
    Calls Try.prog 57 #[.pointer (some ⟨a, 0, none⟩), .int .u64 x] w (RelOk w own base a s x) := by
  have hbs : base ≤ w.heap.size := by have := h.lt a (by rw [h.osp]; simp); omega
  obtain ⟨A, c, rfl, hc⟩ := h.slice
  have h2 := h.s2
  have hl := h.good.len
  have HH := Aside0.mk h
  obtain ⟨n, hn⟩ : ∃ n, n = s.rs.length := ⟨_, rfl⟩
  rw [← hn] at h2 hl hc
  have HN := Aside0.mk hn
  clear h hn
  go_enter Try.func57, Try.ntmps57
  go_wp2
  go_loop [12] (fun i => ∃ k : Nat, i = .int .i64 k ∧ k ≤ n ∧ Aside0 (∀ (j : Nat) (q : Rm), j < k → s.rs[j]? = some q → q.at_ ≠ x)) (fun i => n - (intOf i).toNat)
  case atStart => exact ⟨0, rfl, Nat.zero_le _, ⟨fun j q hj => by omega⟩⟩
  case round =>
    obtain ⟨k, rfl, hk, HA⟩ := hrel
    by_cases hlt : k < n
    · obtain ⟨r, hr⟩ : ∃ r, s.rs[k]? = some r := ⟨_, List.getElem?_eq_getElem (by rw [← HN.out]; exact hlt)⟩
      obtain ⟨ad, hA, hp⟩ := HH.out.rows.2 k r hr
      have hr0 := HH.out.r0 hr
      have HR := Aside0.mk hr
      have hrg := (HH.out.good.rm r (List.mem_of_getElem? hr)).hi
      have hrl : r.at_ ≤ 1099511627776 := by unfold Rm.fin at hrg; omega
      clear hr hrg
      by_cases hat : r.at_ = x
      · have hb : ((r.at_ : Int) == (x : Int)) = true := beq_iff_eq.2 (by omega)
        have HZ := Aside0.mk (show releaseF s x = ({ s with used := s.used - r.ps.length, rs := s.rs.eraseIdx k }, 0) from by
          unfold releaseF
          rw [roomAt_first x s.rs k r HR.out hat (fun j q hj hq => HA.out j q hj hq)]
          simp only [HR.out])
        obtain ⟨g, c1, cur, hv, hgb, hg, hnc, hcc, hcm, hct⟩ := HH.out.row.open_ (by rw [← HN.out]; omega)
        injection hv with hv1 hv2 hv3
        subst hv3
        subst hv1
        injection hA with hA
        subst hA
        rw [← HN.out] at hnc hct
        rw [add_plain] at hp
        have HG := Aside0.mk hg
        have HCT := Aside0.mk hct
        have hu1 := HH.out.s1
        have hr1 := HH.out.r1 HR.out
        have hsf := HH.out.sp.free 2
        have hsf1 := HH.out.sp.free 1
        have e36 : IntKind.i64.wrap ((k : Int) + 1) = (k : Int) + 1 := IntWalk.i64_in _ ⟨by omega, by omega⟩
        have hcutA := cut_head g n c k hk hnc
        have hle : r.ps.length ≤ s.used := by have := total_erase s.rs k r HR.out; have := HH.out.good.us; omega
        have hra : r.b ≠ a := fun e => by have := (HH.out.rb k r HR.out).2; rw [e, HH.out.osp] at this; cases this
        have hub := HH.out.good.ub
        have hbb := HH.out.good.b2
        have e50 : IntKind.i64.wrap ((s.used : Int) - (r.ps.length : Int)) = (s.used : Int) - (r.ps.length : Int) := IntWalk.i64_in _ ⟨by omega, by omega⟩
        clear hat HA hg hct hv2
        by_cases hlast : k + 1 = n
        · obtain ⟨D, hD⟩ : ∃ D : Addr, some D = (if c = k + 1 then some ⟨g, 0, none⟩ else some ⟨g, k + 1, none⟩) := by
            split
            · exact ⟨_, rfl⟩
            · exact ⟨_, rfl⟩
          have hcutB : ∀ W : World, (Instr.slice 111 (.slice (some ⟨g, 0, none⟩) n c) (some (.int .i64 ((k : Int) + 1))) none none).run Try.prog W = .ok (.slice (some D) 0 (c - n)) W := fun W => by
            have hh := cut_rooms g n c (k + 1) (by omega) hnc (some D) hD W
            rw [show ((k + 1 : Nat) : Int) = (k : Int) + 1 from by omega, show n - (k + 1) = 0 from by omega, show c - (k + 1) = c - n from by omega] at hh
            exact hh
          clear hD
          go_wp2
          go_region_law (refine step_app_none rfl (.tmp 30) (.tmp 37) rfl g k k D (c - n) rfl rfl (Nat.le_refl _) ?_)
          all_goals clear e36 hcutA hcutB
          all_goals go_wp2
          all_goals generalize hW4 : (w.setCell ⟨a, 2, none⟩ (.slice (some ⟨g, 0, none⟩) k k)).drew = W4
          all_goals
            have hba := (HH.out.lt a (by rw [HH.out.osp]; simp)).1
            have HS4 := Aside0.mk (show Blk W4 a (cellsS s (.slice (some ⟨g, 0, none⟩) k k)) 113 from by rw [← hW4]; exact HH.out.sp.set 2 _)
            have HF4 := Aside0.mk (show Few own base w W4 from by rw [← hW4]; exact ((Few.refl own base w).set hba (.inr (.inl HH.out.osp)) 2 (.slice (some ⟨g, 0, none⟩) k k)).below (by simp [World.setCell]; exact hbs) (below_drew1 (Below.refl _ _)))
            have hog : own g = some .rooms := HH.out.orow g rfl
            have hag : a ≠ g := fun e => by have := HH.out.osp; rw [e, hog] at this; cases this
            have HG4 := Aside0.mk (show Blk W4 g cur.toArray 122 from by rw [← hW4]; exact Blk.far (w := w) HG.out 2 _ hag)
            have HR4 := Aside0.mk (show Blk W4 r.b (cellsR r) 125 from by rw [← hW4]; exact (HH.out.rb k r HR.out).1.far 2 _ (Ne.symm hra))
            have HOG := Aside0.mk hog
            clear hW4 hog hu1 hr1 hsf hsf1 h2 hp hr0
            have hu4 : W4.cell? ⟨a, 1, none⟩ = some (.int .i64 (s.used : Int)) := HS4.out.cell 1 _ rfl
            have hf4 : W4.frozen? ⟨a, 1, none⟩ = false := HS4.out.free 1
            have hr4 : W4.cell? ⟨r.b, 1, none⟩ = some (.slice (some ⟨r.ab, 0, none⟩) r.ps.length r.ps.length) := HR4.out.cell 1 _ rfl
            go_still_tail 12, (by kernel_rfl)
            change wpList _ _ _ _ _ (World.drew W4)
            clear e50
            go_wp2
            go_ret
            refine ⟨own, .slice (some ⟨g, 0, none⟩) k k, by rw [HZ.out]; rfl, ?_, fun _ _ => rfl, ?_⟩
            · rw [HZ.out]
              have hs4 : w.heap.size ≤ W4.heap.size := HF4.out.bel.size
              refine HH.out.rebuild (hF HF4.out (Nat.le_trans hbs hs4) hba HH.out.osp) (fun _ _ => rfl) ?_ ?_ (fun q hq => ?_) (fun q hq => ⟨(HH.out.lt q hq).1, by simp [World.setCell]; exact Nat.lt_of_lt_of_le (HH.out.lt q hq).2 hs4⟩) (erase_good HH.out.good HR.out) (fun i q hq => ?_)
              case refine_3 =>
                have hgq : g = q := by simpa [Value.ownBlock] using hq
                rw [← hgq]
                exact HOG.out
              · have hh := Blk.set (w := W4.drew) HS4.out 1 (.int .i64 ((s.used : Int) - (r.ps.length : Int)))
                rw [show (cellsS s (.slice (some ⟨g, 0, none⟩) k k)).setIfInBounds 1 (.int .i64 ((s.used : Int) - (r.ps.length : Int))) = cellsS { s with used := s.used - r.ps.length, rs := s.rs.eraseIdx k } (.slice (some ⟨g, 0, none⟩) k k) from by simp [cellsS]; omega] at hh
                exact hh
              · have hcl : n ≤ cur.length := by
                  have := congrArg List.length HCT.out
                  rw [List.length_take, List.length_map, ← HN.out] at this
                  omega
                refine .inr ⟨g, cur, by rw [List.length_eraseIdx, if_pos (by rw [← HN.out]; exact hlt), ← HN.out, show n - 1 = k from by omega], hgb, Blk.far (w := W4.drew) HG4.out 1 _ hag, by rw [List.length_eraseIdx, if_pos (by rw [← HN.out]; exact hlt), ← HN.out]; omega, by rw [List.length_eraseIdx, if_pos (by rw [← HN.out]; exact hlt), ← HN.out]; unfold maxLen; omega, ?_⟩
                rw [List.length_eraseIdx, if_pos (by rw [← HN.out]; exact hlt), ← HN.out, show n - 1 = k from by omega, List.eraseIdx_eq_take_drop_succ, List.drop_of_length_le (by rw [← HN.out]; omega), List.append_nil, List.map_take, ← HCT.out, List.take_take, Nat.min_eq_left (by omega)]
              · obtain ⟨m, hm⟩ := List.mem_iff_getElem?.1 (List.mem_of_mem_eraseIdx (List.mem_of_getElem? hq))
                exact .inl ⟨m, hm⟩
            · exact (hF HF4.out (Nat.le_trans hbs HF4.out.bel.size) hba HH.out.osp).kp
        · have hcutB : ∀ W : World, (Instr.slice 111 (.slice (some ⟨g, 0, none⟩) n c) (some (.int .i64 ((k : Int) + 1))) none none).run Try.prog W = .ok (.slice (some ⟨g, k + 1, none⟩) (n - (k + 1)) (c - (k + 1))) W := fun W => by
            have hh := cut_rooms g n c (k + 1) (by omega) hnc (some ⟨g, k + 1, none⟩) (by rw [if_neg (by omega)]) W
            rw [show ((k + 1 : Nat) : Int) = (k : Int) + 1 from by omega] at hh
            exact hh
          have hall : ∀ (j : Nat) (u : Value), (s.rs.map ptrR)[j]? = some u → w.cell? ⟨g, j, none⟩ = some u := fun j u hu => by
            have hj : j < n := by have := (List.getElem?_eq_some_iff.1 hu).1; rw [List.length_map, ← HN.out] at this; exact this
            refine Blk.cell (w := w) HG.out j u ?_
            rw [List.getElem?_toArray, ← List.getElem?_take_of_lt hj, HCT.out]
            exact hu
          have HALL := Aside0.mk hall
          clear hall
          have hlen1 : ((s.rs.map ptrR).take k).length = k := by rw [List.length_take, List.length_map, ← HN.out]; omega
          have hlen2 : ((s.rs.map ptrR).drop (k + 1)).length = n - (k + 1) := by rw [List.length_drop, List.length_map, ← HN.out]
          obtain ⟨olds, ho⟩ : ∃ olds, olds = (s.rs.map ptrR).take k := ⟨_, rfl⟩
          obtain ⟨news, hn⟩ : ∃ news, news = (s.rs.map ptrR).drop (k + 1) := ⟨_, rfl⟩
          rw [← ho] at hlen1
          rw [← hn] at hlen2
          obtain ⟨m, hm⟩ : ∃ m, m = n - (k + 1) := ⟨_, rfl⟩
          rw [← hm] at hlen2 hcutB
          have hm1 : 0 < m ∧ k + 1 + m = n := by omega
          have HO := Aside0.mk ho
          have HNW := Aside0.mk hn
          have HL1 := Aside0.mk hlen1
          have HL2 := Aside0.mk hlen2
          have hold : ∀ b, some (⟨g, 0, none⟩ : Addr) = some b → ∀ j u, olds[j]? = some u → w.drew.cell? (b.add j) = some u := fun b e j u hu => by
            injection e with e
            subst e
            rw [add_plain]
            refine HALL.out j u ?_
            rw [HO.out] at hu
            have hj := (List.getElem?_eq_some_iff.1 hu).1
            rw [List.length_take] at hj
            rwa [List.getElem?_take_of_lt (by omega)] at hu
          have hnew : ∀ j u, news[j]? = some u → w.drew.cell? ((⟨g, k + 1, none⟩ : Addr).add j) = some u := fun j u hu => by
            rw [add_at]
            refine HALL.out (k + 1 + j) u ?_
            rw [HNW.out, List.getElem?_drop] at hu
            exact hu
          have hone : ∀ u ∈ news, u.oneCell' = true := fun u hu => by
            rw [HNW.out] at hu
            obtain ⟨q, -, rfl⟩ := List.mem_map.1 (List.mem_of_mem_drop hu)
            rfl
          obtain ⟨i0, hi, hz0, hz1, hz2⟩ := info_parts info122
          have HI := Aside0.mk (And.intro hi (And.intro hz0 (And.intro hz1 hz2)))
          have HOLD := Aside0.mk hold
          have HNEW := Aside0.mk hnew
          have HONE := Aside0.mk hone
          have hba := (HH.out.lt a (by rw [HH.out.osp]; simp)).1
          have haz := (HH.out.lt a (by rw [HH.out.osp]; simp)).2
          have hrz := (HH.out.rb k r HR.out).1.lt
          clear hi hz0 hz1 hz2 ho hn hlen1 hlen2 hm hold hnew hone
          go_wp2
          go_region_law (refine step_append_grows rfl (.tmp 30) (.tmp 37) 111 rfl 122 i0 (.pointer none) 1 8 Try.underlying111 HI.out.1 HI.out.2.1 HI.out.2.2.1 HI.out.2.2.2 rfl (by decide) (some ⟨g, 0, none⟩) k k olds rfl (fun e => by cases e) (by rw [HL1.out, Nat.mul_one]) HOLD.out ⟨g, k + 1, none⟩ m (c - (k + 1)) news rfl (by rw [HL2.out, Nat.mul_one]) HNEW.out HONE.out (by omega) (by unfold maxLen; omega) (by omega) ?_; intro v1 W3 ho3 hg3; obtain ⟨g1, c1, cur1, hv1, hgb1, hgB1, hnc1, hcm1, hcl1, hct1⟩ := own_open ho3 (by omega); subst hv1; have HG1 := Aside0.mk hgB1; have HCT1 := Aside0.mk hct1; have HCL1 := Aside0.mk hcl1; have HF3 := Aside0.mk (Few.grown ((Few.refl own base w).below hbs (below_drew1 (Below.refl _ _))) (show base ≤ w.drew.heap.size from hbs) hg3 (fun q hq => by cases hq)); have HS3 := Aside0.mk (show Blk W3 a (cellsS s (.slice (some ⟨g, 0, none⟩) n c)) 113 from HN.out ▸ HH.out.sp.move (hg3.block a haz (by simp))); have hs32 := HS3.out.cell 2 _ rfl; have hs3f := HS3.out.free 2; have HR3 := Aside0.mk (show Blk W3 r.b (cellsR r) 125 from (HH.out.rb k r HR.out).1.move (hg3.block r.b hrz (by simp))); have hgz : w.heap.size ≤ g1 := hgb1; clear ho3 hg3 hgB1 hct1 hcl1)
          all_goals clear e36 hcutA hcutB
          all_goals go_wp2
          all_goals generalize hW4 : W3.setCell ⟨a, 2, none⟩ (.slice (some ⟨g1, 0, none⟩) (k + m) c1) = W4
          all_goals
            have hag : a ≠ g1 := by omega
            have HS4 := Aside0.mk (show Blk W4 a (cellsS s (.slice (some ⟨g1, 0, none⟩) (k + m) c1)) 113 from by rw [← hW4]; exact HS3.out.set 2 _)
            have HF4 := Aside0.mk (show Few own base w W4 from by rw [← hW4]; exact HF3.out.set hba (.inr (.inl HH.out.osp)) 2 _)
            have HG4 := Aside0.mk (show Blk W4 g1 cur1.toArray 122 from by rw [← hW4]; exact HG1.out.far 2 _ hag)
            have HR4 := Aside0.mk (show Blk W4 r.b (cellsR r) 125 from by rw [← hW4]; exact HR3.out.far 2 _ (Ne.symm hra))
            clear hW4 hu1 hr1 hsf hsf1 h2 hp hr0 hs32 hs3f HS3 HF3 HG1 HR3
            have hu4 : W4.cell? ⟨a, 1, none⟩ = some (.int .i64 (s.used : Int)) := HS4.out.cell 1 _ rfl
            have hf4 : W4.frozen? ⟨a, 1, none⟩ = false := HS4.out.free 1
            have hr4 : W4.cell? ⟨r.b, 1, none⟩ = some (.slice (some ⟨r.ab, 0, none⟩) r.ps.length r.ps.length) := HR4.out.cell 1 _ rfl
            go_still_tail 12, (by kernel_rfl)
            change wpList _ _ _ _ _ (World.drew W4)
            clear e50
            go_wp2
            go_ret
            have hs4 : w.heap.size ≤ W4.heap.size := HF4.out.bel.size
            have hlen : (s.rs.eraseIdx k).length = k + m := by rw [List.length_eraseIdx, if_pos (by rw [← HN.out]; exact hlt), ← HN.out]; omega
            have hown : ∀ q, own q ≠ none → (if q = g1 then some Role.rooms else own q) = own q := fun q hq => by
              have := (HH.out.lt q hq).2
              rw [if_neg (by omega)]
            have hF7 := hF (u := .int .i64 ((s.used : Int) - (r.ps.length : Int))) HF4.out (Nat.le_trans hbs hs4) hba HH.out.osp
            refine ⟨fun q => if q = g1 then some .rooms else own q, .slice (some ⟨g1, 0, none⟩) (k + m) c1, by rw [HZ.out]; rfl, ?_, fun q hq => by show (if q = g1 then some Role.rooms else own q) = own q; rw [if_neg (by omega)], hF7.kp⟩
            rw [HZ.out]
            refine HH.out.rebuild hF7 hown ?_ ?_ (fun q hq => ?_) (fun q hq => ?_) (erase_good HH.out.good HR.out) (fun i q hq => ?_)
            · have hh := Blk.set (w := W4.drew) HS4.out 1 (.int .i64 ((s.used : Int) - (r.ps.length : Int)))
              rw [show (cellsS s (.slice (some ⟨g1, 0, none⟩) (k + m) c1)).setIfInBounds 1 (.int .i64 ((s.used : Int) - (r.ps.length : Int))) = cellsS { s with used := s.used - r.ps.length, rs := s.rs.eraseIdx k } (.slice (some ⟨g1, 0, none⟩) (k + m) c1) from by simp [cellsS]; omega] at hh
              exact hh
            · simp only []
              rw [hlen]
              refine .inl (own_shut (Nat.le_trans hbs hgz) (Blk.far (w := W4.drew) HG4.out 1 _ hag) hnc1 hcm1 HCL1.out ?_)
              rw [HCT1.out, HO.out, HNW.out, List.eraseIdx_eq_take_drop_succ, List.map_append, List.map_take, List.map_drop]
            · have hgq : g1 = q := by simpa [Value.ownBlock] using hq
              show (if q = g1 then some Role.rooms else own q) = some .rooms
              rw [if_pos hgq.symm]
            · replace hq : (if q = g1 then some Role.rooms else own q) ≠ none := hq
              have hz7 : (W4.setCell ⟨a, 1, none⟩ (.int .i64 ((s.used : Int) - (r.ps.length : Int)))).drew.heap.size = W4.heap.size := by simp [World.setCell]
              rw [hz7]
              by_cases e : q = g1
              · have := HG4.out.lt
                omega
              · rw [if_neg e] at hq
                have := HH.out.lt q hq
                omega
            · obtain ⟨j, hm⟩ := List.mem_iff_getElem?.1 (List.mem_of_mem_eraseIdx (List.mem_of_getElem? hq))
              exact .inl ⟨j, hm⟩
      · have hb : ((r.at_ : Int) == (x : Int)) = false := beq_eq_false_iff_ne.2 (by omega)
        have HA2 := Aside0.mk (show ∀ (j : Nat) (q : Rm), j < k + 1 → s.rs[j]? = some q → q.at_ ≠ x from fun j q hj hq => by
          rcases Nat.lt_or_ge j k with c | c
          · exact HA.out j q c hq
          · obtain rfl : j = k := by omega
            rw [HR.out] at hq
            obtain rfl := Option.some.inj hq
            exact hat)
        subst hA
        clear HA hat
        go_wp2
        go_round
        case rel => exact ⟨k + 1, by go_num, by omega, HA2⟩
        case measure => simp [intOf]; omega
    · have HZ := Aside0.mk (show releaseF s x = (s, 52) from by
        unfold releaseF
        rw [roomAt_none x s.rs (fun r hr => by
          obtain ⟨j, hj⟩ := List.mem_iff_getElem?.1 hr
          exact HA.out j r (by have := (List.getElem?_eq_some_iff.1 hj).1; rw [← HN.out] at this; omega) hj)])
      go_wp2
      go_ret
      exact ⟨own, _, by rw [HZ.out]; rfl, by rw [HZ.out]; exact HH.out, fun _ _ => rfl, Kp.refl _ _ _⟩
end Go.Proofs.Ytmpahimeljbliaa.Vm
