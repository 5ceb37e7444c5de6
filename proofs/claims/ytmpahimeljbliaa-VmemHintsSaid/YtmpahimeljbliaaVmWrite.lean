/- Bytes are written into an address space. No condition but that the space lies in memory as told, and that the bytes lie apart from it. -/
import Derived.Test.YtmpahimeljbliaaVmCopy
namespace Go.Proofs.Ytmpahimeljbliaa.Vm
open Go.RowKit Go.Proofs Go.Proofs.YtmpahimeljbliaaW.PrintWords

/-- A page behind a write of dl at x. -/
def wrPg (x : Nat) (dl : List Int) (_ : Nat) (g : Pg) : Pg := { g with data := (List.range 256).map fun o => if x ≤ g.at_ + o ∧ g.at_ + o < x + dl.length then dl.getD (g.at_ + o - x) 0 else g.data.getD o 0 }
def writeF (s : Sp) (x : Nat) (dl : List Int) : Sp × Int :=
  match mayF s.rs x dl.length 2 with
  | .error e => (s, e)
  | .ok y => (s.mods y.1 y.2.1 (wrPg x dl) (y.2.2 - y.2.1), 0)
theorem wr_cells (g : Pg) (hd : g.data.length = 256) (x : Nat) (dl : List Int) (i f off : Nat) (hf : f < 256) (hx : x ≤ g.at_ + f) (ho : off = g.at_ + f - x) (hfx : f = 0 ∨ g.at_ + f = x) (hol : off ≤ dl.length) :
    (splice (cellsP g).toList (2 + f) (((dl.drop off).take (min (dl.drop off).length (256 - f))).map (.int .u8))).toArray = cellsP (wrPg x dl i g) := by
  unfold cellsP splice
  congr 1
  simp only [wrPg]
  refine List.ext_getElem? fun j => ?_
  have hl : (((dl.drop off).take (min (dl.drop off).length (256 - f))).map (Value.int .u8)).length = min (dl.length - off) (256 - f) := by simp
  rcases j with _ | _ | o
  · rw [List.getElem?_append_left (by simp; omega), List.getElem?_take_of_lt (by omega)]
    rfl
  · rw [List.getElem?_append_left (by simp; omega), List.getElem?_take_of_lt (by omega)]
    rfl
  · have hr : ((Value.int .u64 (g.at_ : Int) :: .int .i64 (g.prot : Int) :: ((List.range 256).map fun o => if x ≤ g.at_ + o ∧ g.at_ + o < x + dl.length then dl.getD (g.at_ + o - x) 0 else g.data.getD o 0).map (.int .u8)) : List Value)[o + 1 + 1]? = if o < 256 then some (.int .u8 (if x ≤ g.at_ + o ∧ g.at_ + o < x + dl.length then dl.getD (g.at_ + o - x) 0 else g.data.getD o 0)) else none := by
      rw [List.getElem?_cons_succ, List.getElem?_cons_succ, List.getElem?_map, List.getElem?_map]
      by_cases c : o < 256
      · rw [List.getElem?_range c, if_pos c]
        rfl
      · rw [List.getElem?_eq_none (by simp; omega), if_neg c]
        rfl
    rw [hr]
    have hcl : ((Value.int .u64 (g.at_ : Int) :: .int .i64 (g.prot : Int) :: g.data.map (.int .u8)) : List Value).length = 258 := by simp [hd]
    have hg : ∀ o, ((Value.int .u64 (g.at_ : Int) :: .int .i64 (g.prot : Int) :: g.data.map (.int .u8)) : List Value)[o + 1 + 1]? = (g.data[o]?).map (.int .u8) := fun o => by rw [List.getElem?_cons_succ, List.getElem?_cons_succ, List.getElem?_map]
    by_cases c1 : o < f
    · rw [List.getElem?_append_left (by rw [List.length_take, hcl]; omega), List.getElem?_take_of_lt (by omega), hg, if_pos (by omega), if_neg (by omega), List.getD_eq_getElem?_getD, List.getElem?_eq_getElem (by omega)]
      rfl
    · rw [List.getElem?_append_right (by rw [List.length_take, hcl]; omega), List.length_take, hcl, show min (2 + f) 258 = 2 + f from by omega]
      by_cases c2 : o < f + min (dl.length - off) (256 - f)
      · rw [List.getElem?_append_left (by rw [hl]; omega), List.getElem?_map, List.getElem?_take_of_lt (by rw [List.length_drop]; omega), List.getElem?_drop, if_pos (by omega), if_pos (by omega), List.getD_eq_getElem?_getD, show off + (o + 1 + 1 - (2 + f)) = g.at_ + o - x from by omega, List.getElem?_eq_getElem (by omega)]
        rfl
      · rw [List.getElem?_append_right (by rw [hl]; omega), hl, List.getElem?_drop]
        by_cases c3 : o < 256
        · rw [show 2 + f + min (dl.length - off) (256 - f) + (o + 1 + 1 - (2 + f) - min (dl.length - off) (256 - f)) = o + 1 + 1 from by omega, hg, if_pos c3, if_neg (by omega), List.getD_eq_getElem?_getD, List.getElem?_eq_getElem (by omega)]
          rfl
        · rw [if_neg c3, List.getElem?_eq_none (by rw [hcl]; omega)]
theorem wr_ok {r : Rm} {k i : Nat} {g : Pg} (h : PgOk r k g) (x : Nat) (dl : List Int) (hb : ∀ b ∈ dl, 0 ≤ b ∧ b ≤ 255) : PgOk r k (wrPg x dl i g) :=
  ⟨h.at_, h.prot, by simp [wrPg], fun b hm => by
    unfold wrPg at hm
    obtain ⟨o, ho, rfl⟩ := List.mem_map.1 hm
    have ho' := List.mem_range.1 ho
    split
    · next c =>
      rw [List.getD_eq_getElem?_getD, List.getElem?_eq_getElem (by omega)]
      exact hb _ (List.getElem_mem _)
    · rw [List.getD_eq_getElem?_getD, List.getElem?_eq_getElem (by have := h.len; omega)]
      exact h.bytes _ (List.getElem_mem _)⟩
/-- What is known of pages that may be turned. -/
theorem may_row {l : List Rm} {x z p : Nat} {y : Nat × Nat × Nat} (h : mayF l x z p = .ok y) : allF l x z = some y := by
  unfold mayF at h
  split at h
  · cases h
  · next y' ha =>
    split at h
    · injection h with h
      subst h
      exact ha
    · cases h
set_option maxRecDepth 100000 in
set_option maxHeartbeats 2000000 in
theorem write_in {w : World} {own : Nat → Option Role} {base a : Nat} {v : Value} {s : Sp} (h : Holds w own base a v s) (x : Nat) (A : Option Addr) (c : Nat) (dl : List Int) (hx : x ≤ 18446744073709551615) (hS : Src w own A c dl) (hb : ∀ b ∈ dl, 0 ≤ b ∧ b ≤ 255) (hlen : dl.length ≤ 140737488355328) :
    Calls Try.prog 32 #[.pointer (some ⟨a, 0, none⟩), .int .u64 x, .slice A dl.length c] w fun e w' => e = .returned (.int .i64 (writeF s x dl).2) ∧ Holds w' own base a v (writeF s x dl).1 ∧ Kp own base w w' := by
  have HQ : Calls Try.prog 61 #[.pointer (some ⟨a, 0, none⟩), .int .u64 x, .int .u64 dl.length, .int .i64 2] w fun e w' => e = .returned (mayVal s.rs x dl.length 2) ∧ Below w.heap.size w w' := may_in h x dl.length 2 hx (by omega) (.inl rfl)
  have hbs : base ≤ w.heap.size := by have := h.lt a (by rw [h.osp]; simp); omega
  obtain ⟨S, hS2⟩ : ∃ S, S = (writeF s x dl).1 := ⟨_, rfl⟩
  obtain ⟨E, hE⟩ : ∃ E, E = (writeF s x dl).2 := ⟨_, rfl⟩
  rw [← hS2, ← hE]
  have HH := Aside0.mk h
  have HS := Aside0.mk hS
  have HB := Aside0.mk hb
  clear hS hb
  obtain ⟨N, hN⟩ : ∃ N, N = dl.length := ⟨_, rfl⟩
  rw [← hN] at HQ hlen ⊢
  have HN := Aside0.mk hN
  cases ha : mayF s.rs x dl.length 2 with
  | error er =>
    rw [hN, show mayVal s.rs x dl.length 2 = .tuple #[.slice none 0 0, .int .i64 er] from by unfold mayVal; rw [ha], ← hN] at HQ
    have HR := Aside0.mk (show S = s ∧ E = er from by rw [hS2, hE]; unfold writeF; rw [ha]; exact ⟨rfl, rfl⟩)
    have her : (er != 0) = true := by
      unfold mayF at ha
      split at ha
      · injection ha with ha; rw [← ha]; decide
      · split at ha
        · cases ha
        · injection ha with ha; rw [← ha]; decide
    clear hS2 hE ha h hN
    go_enter Try.func32, Try.ntmps32
    go_wp2_with (go_at_call 61; (with_reducible refine HQ.mono ?_); rintro _ W1 ⟨rfl, hB1⟩; have HB1 := Aside0.mk hB1; clear hB1 HQ)
    go_ret
    exact ⟨by rw [HR.out.2]; rfl, by rw [HR.out.1]; exact HH.out.below HB1.out, (Kp.refl _ _ _).below hbs HB1.out⟩
  | ok y =>
    obtain ⟨r, hr, h1, h2, h3⟩ := all_row (may_row ha)
    rw [hN, show mayVal s.rs x dl.length 2 = .tuple #[rowVal s.rs y, .int .i64 0] from by unfold mayVal; rw [ha], ← hN] at HQ
    have HR := Aside0.mk (show S = s.mods y.1 y.2.1 (wrPg x dl) (y.2.2 - y.2.1) ∧ E = 0 from by rw [hS2, hE]; unfold writeF; rw [ha]; exact ⟨rfl, rfl⟩)
    rcases h3 with ⟨h3, h4, h5⟩ | ⟨h3, h4, h5, h6, h7, h8⟩
    · have hrow : rowVal s.rs y = .slice none 0 0 := by unfold rowVal; rw [if_pos (by omega)]
      rw [hrow] at HQ
      have HR2 := Aside0.mk (show S = s from by rw [HR.out.1, h4, h5]; rfl)
      clear hS2 hE ha h hrow h4 h5 h3 h1 h2 hr hN
      go_enter Try.func32, Try.ntmps32
      go_wp2_with (go_at_call 61; (with_reducible refine HQ.mono ?_); rintro _ W1 ⟨rfl, hB1⟩; have HB1 := Aside0.mk hB1; clear hB1 HQ)
      go_loop [29] (fun i => i = .int .i64 0) (fun i => 0)
      case atStart => rfl
      case round =>
        subst hrel
        go_wp2
        go_ret
        exact ⟨by rw [HR.out.2]; rfl, by rw [HR2.out]; exact HH.out.below HB1.out, (Kp.refl _ _ _).below hbs HB1.out⟩
    · have hrow : rowVal s.rs y = .slice (some ⟨r.ab, y.2.1, none⟩) (y.2.2 - y.2.1) (y.2.2 - y.2.1) := by unfold rowVal; rw [if_neg (by omega)]; simp only [hr]
      rw [hrow] at HQ
      have hn := (h.good.rm r (List.mem_of_getElem? hr)).l2
      have hal := (h.good.rm r (List.mem_of_getElem? hr)).al
      have hpg := (h.good.rm r (List.mem_of_getElem? hr)).pg
      obtain ⟨j, lo, hi⟩ := y
      simp only [] at hr h6 h7 h8 HQ HR h4 h5
      have HRm := Aside0.mk hr
      have HP := Aside0.mk h8
      have HG := Aside0.mk hpg
      have hlo : r.at_ + 256 * lo + x % 256 = x := by unfold loOf at h4; omega
      have hhi : r.at_ + 256 * hi < x + N + 256 ∧ x + N ≤ r.at_ + 256 * hi := by unfold hiOf pagesN at h5; omega
      have hNp : 0 < N := by omega
      have hx2 : x ≤ 1099511627776 := by
        have := (h.good.rm r (List.mem_of_getElem? hr)).hi
        omega
      clear hS2 hE ha h hrow h4 h5 h3 h1 h2 hr h8 hpg hN
      obtain ⟨T, hT⟩ : ∃ T, T = r.at_ := ⟨_, rfl⟩
      rw [← hT] at hlo hhi hal
      have HT := Aside0.mk hT
      clear hT
      obtain ⟨M, hM⟩ : ∃ M, M = hi - lo := ⟨_, rfl⟩
      rw [← hM] at HQ HR HP
      have hM1 : lo + M = hi := by omega
      clear hM
      obtain ⟨f0, hf0⟩ : ∃ f0, f0 = x % 256 := ⟨_, rfl⟩
      rw [← hf0] at hlo
      have hff : f0 < 256 := by omega
      have hfx : (x : Int) % 256 = (f0 : Int) := by omega
      have HF0 := Aside0.mk hfx
      clear hf0 hfx
      go_enter Try.func32, Try.ntmps32
      go_wp2_with (go_at_call 61; (with_reducible refine HQ.mono ?_); rintro _ W1 ⟨rfl, hB1⟩; have HK1 := Aside0.mk ((Kp.refl own base w).below hbs hB1); have HH1 := Aside0.mk (HH.out.below hB1); have HS1 := Aside0.mk (HS.out.move hB1.size (fun k hk _ => hB1.block k hk)); clear hB1 HQ)
      rw [HF0.out]
      go_loopw [2, 9, 29] (fun d f i wr => ∃ (k off m : Nat) (A' : Option Addr) (c' : Nat), i = .int .i64 k ∧ d = .slice A' m c' ∧ m + off = N ∧ Aside0 (m = (dl.drop off).length) ∧ f = .int .u64 ((if k = 0 then f0 else 0 : Nat) : Int) ∧ k ≤ M ∧ off ≤ N ∧ (k < M → off = 256 * k - f0) ∧ Aside0 (Src wr own A' c' (dl.drop off)) ∧ Aside0 (Holds wr own base a v (s.mods j lo (wrPg x dl) k)) ∧ Aside0 (Kp own base w wr)) (fun _ _ i _ => M - (intOf i).toNat)
      case atStart => exact ⟨0, 0, N, A, c, rfl, rfl, rfl, ⟨by rw [List.drop_zero, ← HN.out]⟩, rfl, Nat.zero_le _, Nat.zero_le _, fun _ => by omega, by rw [List.drop_zero]; exact HS1, HH1, HK1⟩
      case round =>
        obtain ⟨k, off, m, A', c', rfl, rfl, hmo, HMm, rfl, hk, hoN, hoff, HD, HW, HK⟩ := hrel
        by_cases hlt : k < M
        · obtain ⟨g, hgk⟩ := HP.out k hlt
          have hkl : lo + k < r.ps.length := by omega
          have hr2 := mods_room HRm.out lo (wrPg x dl) k
          have hgk2 : (r.mods lo (wrPg x dl) k).ps[lo + k]? = some (some g) := by rw [mods_at, if_neg (by omega)]; exact hgk
          have hp := HW.out.pp hr2 (k := lo + k) (by rw [(mods_parts r lo (wrPg x dl) k).2.2.2]; exact hkl)
          rw [(List.getElem?_eq_some_iff.1 hgk2).2, (mods_parts r lo (wrPg x dl) k).2.1] at hp
          have hp' : wr.cell? ⟨r.ab, lo + k, none⟩ = some (.pointer (some ⟨g.b, 0, none⟩)) := hp
          have hpg := HW.out.pg j _ hr2 _ g hgk2
          have hgd := (HW.out.good.rm _ (List.mem_of_getElem? hr2)).ok hgk2
          have hgat : g.at_ = T + 256 * (lo + k) := by rw [hgd.at_, (mods_parts r lo (wrPg x dl) k).2.2.1, HT.out]
          have HO := Aside0.mk hoff
          have HPG := Aside0.mk hpg
          have HGD := Aside0.mk hgd
          have HR2 := Aside0.mk hr2
          have HG2 := Aside0.mk hgk2
          clear hoff hpg hgd hr2 hgk2 hgk hp
          obtain ⟨f, hf⟩ : ∃ f, f = (if k = 0 then f0 else 0) := ⟨_, rfl⟩
          rw [← hf]
          have hf1 : f < 256 ∧ (k = 0 → f = f0) ∧ (k ≠ 0 → f = 0) := by rw [hf]; split <;> omega
          clear hf
          have hoo := HO.out hlt
          have hcut := arr_l g.b f hf1.1
          have HF1 := Aside0.mk hf1
          have HOO := Aside0.mk hoo
          have HGA := Aside0.mk hgat
          clear hf1 hoo hgat
          obtain ⟨n, hn⟩ : ∃ n, n = min m (256 - f) := ⟨_, rfl⟩
          have hn1 : n ≤ m := by omega
          have HNn := Aside0.mk hn
          obtain ⟨A2, hrun, hSrc⟩ := HD.out.cut n (by rw [← HMm.out]; exact hn1)
          obtain ⟨m2, hm2⟩ : ∃ m2, m2 = ((dl.drop off).drop n).length := ⟨_, rfl⟩
          rw [← HMm.out, ← hm2] at hrun
          have hm3 : m2 + n = m := by rw [hm2, List.length_drop, ← HMm.out]; omega
          have HSrc := Aside0.mk hSrc
          have HM2 := Aside0.mk hm2
          clear hn hn1 hSrc hm2
          go_wp2_with (first
            | (refine copy_blk rfl (.tmp 37) (.tmp 38) rfl g.b (2 + f) (256 - f) (256 - f) A' c' own (dl.drop off) rfl (by rw [← HMm.out]; rfl) (cellsP g).toList 90 HPG.out.1 HD.out (by have := HGD.out.len; have := HF1.out.1; rw [← HMm.out]; simp [cellsP]; omega) ?_; rw [← HMm.out, ← HNn.out]; intro w2 hb2 hk2 hs2 hB2; have HB2 := Aside0.mk hb2; have HK2 := Aside0.mk hk2; have HS2 := Aside0.mk hs2; have HBB := Aside0.mk hB2; clear hb2 hk2 hs2 hB2))
          have hnext := HW.out.mod (w' := w2) HR2.out HG2.out (f := wrPg x dl k) (wr_ok HGD.out x dl HB.out) rfl (by
            have := HB2.out
            rw [show n = min (dl.drop off).length (256 - f) from by rw [← HMm.out]; exact HNn.out, wr_cells g HGD.out.len x dl k f off HF1.out.1 (by have := HF1.out; have := HGA.out; by_cases k = 0 <;> omega) (by have := HF1.out; have := HGA.out; have := HOO.out; by_cases k = 0 <;> omega) (by have := HF1.out; have := HGA.out; by_cases k = 0 <;> omega) (by rw [← HN.out]; exact hoN)] at this
            exact this) (fun i hi => HK2.out i hi) HS2.out
          have ho : own g.b ≠ none := by rw [HPG.out.2]; simp
          have HKN := Aside0.mk (show Kp own base w w2 from ⟨HK.out.bel.trans (HBB.out base (HW.out.lt g.b ho).1), fun i hi hn => (HK2.out i (fun e => ho (e ▸ hn))).trans (HK.out.kp i hi hn)⟩)
          have HSN := Aside0.mk (HSrc.out.move (Nat.le_of_eq HS2.out.symm) (fun i _ hn => HK2.out i (fun e => ho (e ▸ hn))))
          have HNx := Aside0.mk hnext
          clear hnext ho
          go_roundw
          case rel => exact ⟨k + 1, off + n, m2, A2, c' - n, by go_num, rfl, by omega, ⟨by rw [HM2.out, List.drop_drop]⟩, by rw [if_neg (by omega)]; rfl, by omega, by omega, fun hlt2 => by have := HF1.out; have := HOO.out; have := HNn.out; by_cases k = 0 <;> omega, by rw [← List.drop_drop]; exact HSN, HNx, HKN⟩
          case measure => simp [intOf]; omega
        · obtain rfl : k = M := by omega
          go_wp2
          go_ret
          exact ⟨by rw [HR.out.2]; rfl, by rw [HR.out.1]; exact HW.out, HK.out⟩
end Go.Proofs.Ytmpahimeljbliaa.Vm
