/- Pages are laid into a room. No condition but that the space lies in memory as told, and that the bytes lie apart from it. -/
import Derived.Test.YtmpahimeljbliaaVmAdd
namespace Go.Proofs.Ytmpahimeljbliaa.Vm
open Go.RowKit Go.Proofs Go.Proofs.YtmpahimeljbliaaW.PrintWords

def newPg (x p : Nat) (dl : List Int) (nb : Nat → Nat) (k : Nat) : Pg := ⟨nb k, x + 256 * k, p, (List.range 256).map fun o => dl.getD (256 * k + o) 0⟩
/-- Pages are there for so many bytes from x on. -/
def mapF (s : Sp) (x z : Nat) (p : Int) (dl : List Int) (nb : Nat → Nat) : Sp × Int :=
  if x % 256 = 0 then
    if z = 0 ∨ dl.length > z then (s, 51)
    else if 0 ≤ p ∧ p ≤ 7 then
      match findRoom s.rs x z with
      | none => (s, 52)
      | some j => match s.rs[j]? with
        | none => (s, 52)
        | some r => if ((r.ps.take (hiOf r x z)).drop (loOf r x)).any Option.isSome = true then (s, 53) else (s.adds j (loOf r x) (newPg x p.toNat dl nb) (hiOf r x z - loOf r x), 0)
    else (s, 54)
  else (s, 11)
theorem new_cells (x p k b : Nat) (dl : List Int) (nb : Nat → Nat) (off n : Nat) (ho : off = min dl.length (256 * k)) (hn : n = min (dl.drop off).length 256) :
    (splice (cellsP (page0 (x + 256 * k) p)).toList 2 (((dl.drop off).take n).map (.int .u8))).toArray = cellsP { newPg x p dl nb k with b := b } := by
  unfold cellsP splice page0
  congr 1
  simp only [newPg]
  have hl : (((dl.drop off).take n).map (Value.int .u8)).length = n := by rw [List.length_map, List.length_take]; omega
  refine List.ext_getElem? fun j => ?_
  rcases j with _ | _ | o
  · rfl
  · rfl
  · rw [List.getElem?_append_right (by show 2 ≤ o + 1 + 1; omega), show (List.take 2 (Value.int .u64 ((x + 256 * k : Nat) : Int) :: .int .i64 (p : Int) :: (List.replicate 256 (0 : Int)).map (.int .u8))).length = 2 from rfl]
    rw [List.getElem?_cons_succ, List.getElem?_cons_succ, List.getElem?_map, List.getElem?_map]
    have e : o + 1 + 1 - 2 = o := by omega
    rw [e]
    by_cases c : o < 256
    · rw [List.getElem?_range c]
      by_cases c2 : o < n
      · rw [List.getElem?_append_left (by rw [hl]; exact c2), List.getElem?_map, List.getElem?_take_of_lt c2, List.getElem?_drop]
        rw [List.length_drop] at hn
        rw [List.getElem?_eq_getElem (by omega)]
        simp only [Option.map_some, List.getD_eq_getElem?_getD]
        rw [List.getElem?_eq_getElem (by omega)]
        simp only [Option.getD_some]
        congr 3
        omega
      · rw [List.getElem?_append_right (by rw [hl]; omega), hl]
        rw [List.length_drop] at hn
        simp only [Option.map_some, List.getD_eq_getElem?_getD]
        rw [List.getElem?_eq_none (show dl.length ≤ 256 * k + o by omega)]
        rw [List.getElem?_drop, show 2 + n + (o - n) = o + 1 + 1 from by omega, List.getElem?_cons_succ, List.getElem?_cons_succ, List.getElem?_map, List.getElem?_replicate, if_pos c]
        rfl
    · rw [List.getElem?_eq_none (l := List.range 256) (by simp; omega), List.getElem?_eq_none]
      · rfl
      · rw [List.length_append, hl, List.length_drop]
        rw [List.length_cons, List.length_cons, List.length_map, List.length_replicate]
        omega
/-- What is answered, and what the space is then. -/
def MapOk (w : World) (own : Nat → Option Role) (base a : Nat) (v : Value) (s : Sp) (x z : Nat) (p : Int) (dl : List Int) (e : Ending) (w' : World) : Prop :=
  ∃ (own' : Nat → Option Role) (nb : Nat → Nat), e = .returned (.int .i64 (mapF s x z p dl nb).2) ∧ Holds w' own' base a v (mapF s x z p dl nb).1 ∧ (∀ k, k < w.heap.size → own' k = own k) ∧ Kp own base w w'
theorem map_err {w w' : World} {own : Nat → Option Role} {base a : Nat} {v : Value} {s : Sp} {x z : Nat} {p : Int} {dl : List Int} {er : Int} (h : Holds w own base a v s) (hbs : base ≤ w.heap.size) (hr : ∀ nb, mapF s x z p dl nb = (s, er)) (hb : Below w.heap.size w w') :
    MapOk w own base a v s x z p dl (.returned (.int .i64 er)) w' := ⟨own, fun _ => 0, by rw [hr], by rw [hr]; exact h.below hb, fun _ _ => rfl, (Kp.refl _ _ _).below hbs hb⟩
set_option maxRecDepth 100000 in
set_option maxHeartbeats 4000000 in
theorem map_in {w : World} {own : Nat → Option Role} {base a : Nat} {v : Value} {s : Sp} (h : Holds w own base a v s) (x z : Nat) (p : Int) (A : Option Addr) (c : Nat) (dl : List Int) (hx : x ≤ 18446744073709551615) (hz : z ≤ 18446744073709551615) (hp : -9223372036854775808 ≤ p) (hp2 : p ≤ 9223372036854775807)
    (hS : Src w own A c dl) (hb : ∀ b ∈ dl, 0 ≤ b ∧ b ≤ 255) (hlen : dl.length ≤ 140737488355328) :
    Calls Try.prog 55 #[.pointer (some ⟨a, 0, none⟩), .int .u64 x, .int .u64 z, .int .i64 p, .slice A dl.length c] w (MapOk w own base a v s x z p dl) := by
  have HQ1 := whole_in x w hx
  have HQ2 := prot_in p w hp hp2
  have HQ3 := room_in h x z hx hz
  have hbs : base ≤ w.heap.size := by have := h.lt a (by rw [h.osp]; simp); omega
  have HH := Aside0.mk h
  have HS := Aside0.mk hS
  have HB := Aside0.mk hb
  clear hS hb
  obtain ⟨N, hN⟩ : ∃ N, N = dl.length := ⟨_, rfl⟩
  rw [← hN] at hlen ⊢
  have HN := Aside0.mk hN
  by_cases c1 : x % 256 = 0
  · rw [decide_eq_true c1] at HQ1
    by_cases c2 : z = 0 ∨ N > z
    · have HE := Aside0.mk (map_err (p := p) h hbs (fun nb => by unfold mapF; rw [if_pos c1, if_pos (by rw [← hN]; exact c2)]) (Below.refl _ _))
      clear h HQ2 HQ3 hN
      by_cases c3 : z = 0
      · have hb1 : ((z : Int) == 0) = true := beq_iff_eq.2 (by omega)
        clear c2 c1
        go_enter Try.func55, Try.ntmps55
        go_wp2_with (go_at_call 78; (with_reducible refine HQ1.mono ?_); rintro _ _ ⟨rfl, rfl⟩; clear HQ1)
        go_ret
        exact HE.out
      · have hb1 : ((z : Int) == 0) = false := beq_eq_false_iff_ne.2 (by omega)
        have c4 : z < N := by omega
        clear c2 c1
        go_enter Try.func55, Try.ntmps55
        go_wp2_with (go_at_call 78; (with_reducible refine HQ1.mono ?_); rintro _ _ ⟨rfl, rfl⟩; clear HQ1)
        go_ret
        exact HE.out
    · have hb1 : ((z : Int) == 0) = false := beq_eq_false_iff_ne.2 (by omega)
      have c4 : N ≤ z := by omega
      by_cases c5 : 0 ≤ p ∧ p ≤ 7
      · rw [decide_eq_true c5] at HQ2
        cases hf : findRoom s.rs x z with
        | none =>
          have HE := Aside0.mk (fun W1 hB => map_err (p := p) (w' := W1) h hbs (fun nb => by unfold mapF; rw [if_pos c1, if_neg (by rw [← hN]; exact c2), if_pos c5, hf]) hB)
          rw [show roomPtr s.rs x z = .pointer none from by unfold roomPtr; rw [hf]] at HQ3
          clear h hf hN c2 c1 c5
          go_enter Try.func55, Try.ntmps55
          go_wp2_with (first | (go_at_call 78; (with_reducible refine HQ1.mono ?_); rintro _ _ ⟨rfl, rfl⟩; clear HQ1) | (go_at_call 79; (with_reducible refine HQ2.mono ?_); rintro _ _ ⟨rfl, rfl⟩; clear HQ2) | (go_at_call 80; (with_reducible refine HQ3.mono ?_); rintro _ W1 ⟨rfl, hB1⟩; have HB1 := Aside0.mk hB1; clear hB1 HQ3))
          go_ret
          exact HE.out _ HB1.out
        | some j =>
          obtain ⟨r, hr, h1, h2, h3⟩ := find_some hf
          have hrg := h.good.rm r (List.mem_of_getElem? hr)
          have hn := hrg.l2
          have hal := hrg.al
          have hfi := hrg.hi
          have hfin : r.fin = r.at_ + r.ps.length * 256 := rfl
          rw [show roomPtr s.rs x z = .pointer (some ⟨r.b, 0, none⟩) from by unfold roomPtr; rw [hf]; simp only [hr]; rfl] at HQ3
          have HE := Aside0.mk (fun nb => show mapF s x z p dl nb = if ((r.ps.take (hiOf r x z)).drop (loOf r x)).any Option.isSome = true then (s, 53) else (s.adds j (loOf r x) (newPg x p.toNat dl nb) (hiOf r x z - loOf r x), 0) from by unfold mapF; rw [if_pos c1, if_neg (by rw [← hN]; exact c2), if_pos c5, hf]; simp only [hr])
          have hlo : loOf r x < hiOf r x z := by unfold loOf hiOf pagesN; omega
          have hhi : hiOf r x z ≤ r.ps.length := by unfold hiOf pagesN; omega
          have hxl : r.at_ + 256 * loOf r x = x := by unfold loOf; omega
          have hxh : x + z ≤ r.at_ + 256 * hiOf r x z := by unfold hiOf pagesN; omega
          have HSP := Aside0.mk (fun (W : World) (hw : W.cell? ⟨r.b, 0, none⟩ = some (.int .u64 r.at_)) => span_in r x z W hw h1 (by omega))
          obtain ⟨lo, hlo0⟩ : ∃ lo, lo = loOf r x := ⟨_, rfl⟩
          obtain ⟨hi, hhi0⟩ : ∃ hi, hi = hiOf r x z := ⟨_, rfl⟩
          rw [← hlo0, ← hhi0] at HE HSP hlo
          rw [← hhi0] at hhi hxh
          rw [← hlo0] at hxl
          have hcut := cut_lh r.ab r.ps.length lo hi hlo hhi
          obtain ⟨M, hM⟩ : ∃ M, M = hi - lo := ⟨_, rfl⟩
          rw [← hM] at hcut HE
          have hM1 : lo + M = hi := by omega
          obtain ⟨q, hq⟩ : ∃ q : Nat, p = (q : Int) := ⟨p.toNat, by omega⟩
          subst hq
          rw [Int.toNat_natCast] at HE
          have hq7 : q ≤ 7 := by omega
          obtain ⟨T, hT⟩ : ∃ T, T = r.at_ := ⟨_, rfl⟩
          rw [← hT] at hxl hxh hfin hal
          have HT := Aside0.mk hT
          have HR := Aside0.mk hr
          have HXL := Aside0.mk hxl
          clear hf hr hrg h hN c2 c1 c5 hlo0 hhi0 hM hT h1 h2 h3 hxl
          go_enter Try.func55, Try.ntmps55
          go_wp2_with (first
            | (go_at_call 78; (with_reducible refine HQ1.mono ?_); rintro _ _ ⟨rfl, rfl⟩; clear HQ1)
            | (go_at_call 79; (with_reducible refine HQ2.mono ?_); rintro _ _ ⟨rfl, rfl⟩; clear HQ2)
            | (go_at_call 80; (with_reducible refine HQ3.mono ?_); rintro _ W1 ⟨rfl, hB1⟩; have HB1 := Aside0.mk hB1; have HH1 := Aside0.mk (HH.out.below hB1); clear hB1 HQ3; have hr0 := HH1.out.r0 HR.out; have hr1 := HH1.out.r1 HR.out; rw [← HT.out] at hr0)
            | (go_at_call 81; (with_reducible refine (HSP.out W1 (HH1.out.r0 HR.out)).mono ?_); rintro _ _ ⟨rfl, n1, rfl⟩))
          generalize hW2 : W1.drewN n1 = W2
          have HB2 := Aside0.mk (show Below w.heap.size w W2 from hW2 ▸ pw_then HB1.out)
          have HH2 := Aside0.mk (show Holds W2 own base a v s from hW2 ▸ HH1.out.drewN n1)
          clear hW2 hr0 hr1 HH1 HB1
          go_loop [55] (fun i => ∃ k : Nat, i = .int .i64 k ∧ k ≤ M ∧ Aside0 (∀ q, q < k → r.ps[lo + q]? = some none)) (fun i => M - (intOf i).toNat)
          case atStart => exact ⟨0, rfl, Nat.zero_le _, ⟨fun q hq => by omega⟩⟩
          case round =>
            obtain ⟨k, rfl, hk, HA⟩ := hrel
            by_cases hlt : k < M
            · have hkl : lo + k < r.ps.length := by omega
              have hpp := HH2.out.pp HR.out hkl
              cases hg : r.ps[lo + k] with
              | some g =>
                rw [hg] at hpp
                have hp' : W2.cell? ⟨r.ab, lo + k, none⟩ = some (.pointer (some ⟨g.b, 0, none⟩)) := hpp
                have HZ := Aside0.mk (show ∀ nb, mapF s x z q dl nb = (s, 53) from fun nb => by
                  rw [HE.out, if_pos]
                  rw [List.any_eq_true]
                  exact ⟨some g, by rw [List.mem_iff_getElem?]; exact ⟨k, by rw [List.getElem?_drop, List.getElem?_take_of_lt (by omega), List.getElem?_eq_getElem hkl, hg]⟩, rfl⟩)
                clear hpp hg
                go_wp2
                go_ret
                exact map_err HH.out hbs HZ.out HB2.out
              | none =>
                rw [hg] at hpp
                have hp' : W2.cell? ⟨r.ab, lo + k, none⟩ = some (.pointer none) := hpp
                have HA' := Aside0.mk (show ∀ q, q < k + 1 → r.ps[lo + q]? = some none from fun q hq => by
                  rcases Nat.lt_or_ge q k with c | c
                  · exact HA.out q c
                  · obtain rfl : q = k := by omega
                    rw [List.getElem?_eq_getElem hkl, hg])
                clear hpp hg HA
                go_wp2
                go_round
                case rel => exact ⟨k + 1, by go_num, by omega, HA'⟩
                case measure => simp [intOf]; omega
            · have HZ := Aside0.mk (show ∀ nb, mapF s x z q dl nb = (s.adds j lo (newPg x q dl nb) M, 0) from fun nb => by
                rw [HE.out, if_neg]
                intro hany
                obtain ⟨g, hg, hs⟩ := List.any_eq_true.1 hany
                obtain ⟨m, hm⟩ := List.mem_iff_getElem?.1 hg
                rw [List.getElem?_drop] at hm
                rcases Nat.lt_or_ge (lo + m) hi with c | c
                · rw [List.getElem?_take_of_lt c, HA.out m (by omega)] at hm
                  rw [← Option.some.inj hm] at hs
                  cases hs
                · rw [List.getElem?_eq_none (by rw [List.length_take]; omega)] at hm
                  cases hm)
              have HNone := Aside0.mk (show ∀ m, m < M → r.ps[lo + m]? = some none from fun m hm => HA.out m (by omega))
              have hsz2 : w.heap.size ≤ W2.heap.size := HB2.out.size
              have HK2 := Aside0.mk ((Kp.refl own base w).below hbs HB2.out)
              have HS2 := Aside0.mk (HS.out.move hsz2 (fun k hk _ => HB2.out.block k hk))
              clear HA
              go_wp2
              clear hk hlt
              go_loopw [4, 16] (fun d i wr => ∃ (t k off m : Nat) (A' : Option Addr) (c' : Nat) (own' : Nat → Option Role) (nb : Nat → Nat), i = .int .i64 t ∧ d = .slice A' m c' ∧ lo + k = t ∧ t ≤ hi ∧ m + off = N ∧ Aside0 (m = (dl.drop off).length) ∧ Aside0 (off = min N (256 * k)) ∧ w.heap.size ≤ wr.heap.size ∧ Aside0 (Src wr own' A' c' (dl.drop off)) ∧ Aside0 (Holds wr own' base a v (s.adds j lo (newPg x q dl nb) k)) ∧ Aside0 (∀ y, y < w.heap.size → own' y = own y) ∧ Aside0 (Kp own base w wr)) (fun _ i _ => hi - (intOf i).toNat)
              case atStart => exact ⟨lo, 0, 0, N, A, c, own, fun _ => 0, rfl, rfl, rfl, by omega, rfl, ⟨by rw [List.drop_zero, ← HN.out]⟩, ⟨by omega⟩, hsz2, by rw [List.drop_zero]; exact HS2, HH2, ⟨fun _ _ => rfl⟩, HK2⟩
              case round =>
                obtain ⟨t, k, off, m, A', c', own', nb, rfl, rfl, hkt, hth, hmo, HMm, HOff, hszr, HD, HW, HOw, HK⟩ := hrel
                by_cases hlt : t < hi
                · have hkl : t < r.ps.length := by omega
                  have hr2 := adds_room HR.out lo (newPg x q dl nb) k
                  have hpar := adds_parts r lo (newPg x q dl nb) k
                  have hrb1 := HW.out.r1 hr2
                  rw [hpar.1, hpar.2.1, hpar.2.2.2] at hrb1
                  have hrb0 := HW.out.r0 hr2
                  rw [hpar.1, hpar.2.2.1, ← HT.out] at hrb0
                  have hrbz : r.b < wr.heap.size := by have := (HW.out.rb j _ hr2).1.lt; rwa [hpar.1] at this
                  have hrabz : r.ab < wr.heap.size := by have := (HW.out.ra j _ hr2).1.lt; rwa [hpar.2.1] at this
                  obtain ⟨P, hP⟩ : ∃ P, P = x + 256 * k := ⟨_, rfl⟩
                  have e75 : (T : Int) + (t : Int) * 256 = (P : Int) := by have := HXL.out; omega
                  have hPb : P ≤ 1099511627776 := by have := HXL.out; omega
                  have hall := arr_all wr.heap.size
                  obtain ⟨n, hn⟩ : ∃ n, n = min m 256 := ⟨_, rfl⟩
                  have hn1 : n ≤ m := by omega
                  obtain ⟨A2, hrun, hSrc⟩ := HD.out.cut n (by rw [← HMm.out]; exact hn1)
                  obtain ⟨m2, hm2⟩ : ∃ m2, m2 = ((dl.drop off).drop n).length := ⟨_, rfl⟩
                  rw [← HMm.out, ← hm2] at hrun
                  have hm3 : m2 + n = m := by rw [hm2, List.length_drop, ← HMm.out]; omega
                  have HR2 := Aside0.mk hr2
                  have HPar := Aside0.mk hpar
                  have HP := Aside0.mk hP
                  have HNn := Aside0.mk hn
                  have HSrc := Aside0.mk hSrc
                  have HM2 := Aside0.mk hm2
                  have hkM : k < M := by omega
                  clear hr2 hpar hP hn hn1 hSrc hm2
                  go_wp2_with (first
                    | (refine build_page rfl (.tmp 75) (.tmp 76) rfl P q rfl rfl ?_)
                    | (refine copy_blk rfl (.tmp 82) (.tmp 83) rfl wr.heap.size 2 256 256 A' c' own' (dl.drop off) rfl (by rw [← HMm.out]; rfl) (cellsP (page0 P q)).toList 90 (Blk.new wr _ _) (HD.out.move (by simp) (fun y hy _ => (below_alloc (Below.refl wr.heap.size wr) _).block y hy)) (by rw [← HMm.out]; simp [cellsP, page0]; omega) ?_; rw [← HMm.out, ← HNn.out]; intro w2 hb2 hk2 hs2 hB2; have HB2 := Aside0.mk hb2; have HK2 := Aside0.mk hk2; have HS2 := Aside0.mk hs2; have HBB := Aside0.mk hB2; have hk3 : ∀ y, y < wr.heap.size → w2.heap[y]? = wr.heap[y]? := (fun y hy => (hk2 y (by omega)).trans ((below_alloc (Below.refl wr.heap.size wr) _).block y hy)); have HK3 := Aside0.mk hk3; have hr21 : w2.cell? ⟨r.b, 1, none⟩ = some (.slice (some ⟨r.ab, 0, none⟩) r.ps.length r.ps.length) := (by have hh := (HW.out.rb j _ HR2.out).1; rw [HPar.out.1] at hh; have h4 := (hh.move (hk3 r.b hrbz)).cell 1 _ rfl; rw [h4]; show some (Value.slice (some ⟨(r.adds lo (newPg x q dl nb) k).ab, 0, none⟩) _ _) = _; rw [HPar.out.2.1, HPar.out.2.2.2]); have HAb := Aside0.mk (show Blk w2 r.ab (cellsA (r.adds lo (newPg x q dl nb) k)) 126 from by have hh := (HW.out.ra j _ HR2.out).1; rw [HPar.out.2.1] at hh; exact hh.move (hk3 r.ab hrabz)); have hca : t < (cellsA (r.adds lo (newPg x q dl nb) k)).size := (by unfold cellsA; simp [HPar.out.2.2.2]; exact hkl); have hcc : w2.cell? ⟨r.ab, t, none⟩ = some ((cellsA (r.adds lo (newPg x q dl nb) k))[t]) := HAb.out.cell t _ (by rw [Array.getElem?_eq_getElem hca]); have hcf := HAb.out.free t; clear hb2 hk2 hs2 hB2 hk3 hrb0 hrb1))
                  have hwsz : wr.heap.size < w2.heap.size := by have := HS2.out; simp at this; omega
                  have hne : r.ab ≠ wr.heap.size := by omega
                  have hnew : newPg x q dl (fun y => if y = k then wr.heap.size else nb y) k = { newPg x q dl nb k with b := wr.heap.size } := by simp [newPg]
                  have hok : PgOk (r.adds lo (newPg x q dl nb) k) t (newPg x q dl (fun y => if y = k then wr.heap.size else nb y) k) := ⟨by
                    rw [HPar.out.2.2.1, ← HT.out]
                    show x + 256 * k = T + 256 * t
                    have := HXL.out
                    omega, hq7, by simp [newPg], fun u hu => by
                    obtain ⟨o, ho, rfl⟩ := List.mem_map.1 hu
                    rw [List.getD_eq_getElem?_getD]
                    cases hg : dl[256 * k + o]? with
                    | none => simp
                    | some u => exact HB.out u (List.mem_of_getElem? hg)⟩
                  have hcells : (splice (cellsP (page0 P q)).toList 2 (((dl.drop off).take n).map (.int .u8))).toArray = cellsP (newPg x q dl (fun y => if y = k then wr.heap.size else nb y) k) := by
                    rw [hnew, HP.out]
                    exact new_cells x q k wr.heap.size dl nb off n (by rw [HOff.out, HN.out]) (by rw [HNn.out, HMm.out])
                  have hadd := HW.out.add (w' := w2.setCell ⟨r.ab, t, none⟩ (.pointer (some ⟨wr.heap.size, 0, none⟩))) HR2.out (q := t) (by rw [HPar.out.2.2.2]; exact hkl) hok (by rw [hnew]; exact Nat.le_refl _) (by rw [hnew]; show base ≤ wr.heap.size; omega)
                    (by
                      have hh := HB2.out
                      rw [hcells] at hh
                      have := hh.far (g := r.ab) t (.pointer (some ⟨wr.heap.size, 0, none⟩)) hne
                      rw [hnew] at this ⊢
                      exact this)
                    (by
                      have hh := HAb.out.set t (.pointer (some ⟨wr.heap.size, 0, none⟩))
                      rw [HPar.out.2.1]
                      have e : (cellsA (r.adds lo (newPg x q dl nb) k)).setIfInBounds t (.pointer (some ⟨wr.heap.size, 0, none⟩)) = cellsA ((r.adds lo (newPg x q dl nb) k).add t (newPg x q dl (fun y => if y = k then wr.heap.size else nb y) k)) := by
                        unfold cellsA Rm.add
                        rw [hnew]
                        simp [List.map_set, ptrP]
                      rwa [e] at hh)
                    (fun i h1 h2 h3 => by
                      rw [HPar.out.2.1] at h2
                      exact (Below.heap_setCell w2 ⟨r.ab, t, none⟩ _ i h2).trans (HK3.out i h3))
                    (by simp [World.setCell]; omega)
                  have e1 : (s.adds j lo (newPg x q dl nb) k).add j t (newPg x q dl (fun y => if y = k then wr.heap.size else nb y) k) = s.adds j lo (newPg x q dl (fun y => if y = k then wr.heap.size else nb y)) (k + 1) := by
                    rw [Sp.adds, adds_congr s j lo (newPg x q dl (fun y => if y = k then wr.heap.size else nb y)) (newPg x q dl nb) k (fun i hi => by simp only [newPg]; rw [if_neg (by omega)]), hkt]
                  rw [e1] at hadd
                  have hbb : (newPg x q dl (fun y => if y = k then wr.heap.size else nb y) k).b = wr.heap.size := by rw [hnew]
                  rw [hbb] at hadd
                  have HAdd := Aside0.mk hadd
                  have hoab : own' r.ab ≠ none := by have := (HW.out.ra j _ HR2.out).2; rw [HPar.out.2.1] at this; rw [this]; simp
                  have hbab : base ≤ r.ab := (HW.out.lt r.ab hoab).1
                  have HSN := Aside0.mk (show Src (w2.setCell ⟨r.ab, t, none⟩ (.pointer (some ⟨wr.heap.size, 0, none⟩))) (fun y => if y = wr.heap.size then some (Role.page (newPg x q dl (fun y => if y = k then wr.heap.size else nb y) k).at_) else own' y) A2 (c' - n) ((dl.drop off).drop n) from by
                    have h1 := HSrc.out.move (w' := w2.setCell ⟨r.ab, t, none⟩ (.pointer (some ⟨wr.heap.size, 0, none⟩))) (by simp [World.setCell]; omega) (fun y hy hn => (Below.heap_setCell w2 ⟨r.ab, t, none⟩ _ y (fun e => hoab (by rw [← show y = r.ab from e]; exact hn))).trans (HK3.out y hy))
                    exact ⟨h1.rd, h1.le, fun hl ad e => ⟨by have := HSrc.out.no hl ad e; show (if ad.block = wr.heap.size then _ else own' ad.block) = none; rw [if_neg (by omega)]; exact this.1, (h1.no hl ad e).2⟩⟩)
                  have HKN := Aside0.mk (show Kp own base w (w2.setCell ⟨r.ab, t, none⟩ (.pointer (some ⟨wr.heap.size, 0, none⟩))) from by
                    refine ⟨((HK.out.bel.trans ?_).setCell hbab _), fun i hi hn => ?_⟩
                    · exact ((Below.refl base wr).alloc (show base ≤ wr.heap.size by omega) _).trans (HBB.out base (by omega))
                    · exact ((Below.heap_setCell w2 ⟨r.ab, t, none⟩ _ i (fun e => hoab (by rw [← show i = r.ab from e, HOw.out i hi]; exact hn))).trans (HK3.out i (by omega))).trans (HK.out.kp i hi hn))
                  clear hadd hcells hok hnew e1 hbb
                  go_roundw
                  case rel => exact ⟨t + 1, k + 1, off + n, m2, A2, c' - n, _, _, by go_num, rfl, by omega, by omega, by omega, ⟨by rw [HM2.out, List.drop_drop]⟩, ⟨by have := HOff.out; have := HNn.out; omega⟩, by simp [World.setCell]; omega, by rw [← List.drop_drop]; exact HSN, HAdd, ⟨fun y hy => by show (if y = wr.heap.size then _ else own' y) = own y; rw [if_neg (by omega)]; exact HOw.out y hy⟩, HKN⟩
                  case measure => simp [intOf]; omega
                · obtain rfl : k = M := by omega
                  go_wp2
                  go_ret
                  exact ⟨own', nb, by rw [HZ.out]; rfl, by rw [HZ.out]; exact HW.out, HOw.out, HK.out⟩
      · rw [decide_eq_false c5] at HQ2
        have HE := Aside0.mk (map_err (p := p) h hbs (fun nb => by unfold mapF; rw [if_pos c1, if_neg (by rw [← hN]; exact c2), if_neg c5]) (Below.refl _ _))
        clear h HQ3 hN c2 c1 c5
        go_enter Try.func55, Try.ntmps55
        go_wp2_with (first | (go_at_call 78; (with_reducible refine HQ1.mono ?_); rintro _ _ ⟨rfl, rfl⟩; clear HQ1) | (go_at_call 79; (with_reducible refine HQ2.mono ?_); rintro _ _ ⟨rfl, rfl⟩; clear HQ2))
        go_ret
        exact HE.out
  · rw [decide_eq_false c1] at HQ1
    have HE := Aside0.mk (map_err (p := p) (z := z) (dl := dl) h hbs (fun nb => by unfold mapF; rw [if_neg c1]) (Below.refl _ _))
    clear h HQ2 HQ3 hN c1
    go_enter Try.func55, Try.ntmps55
    go_wp2_with (go_at_call 78; (with_reducible refine HQ1.mono ?_); rintro _ _ ⟨rfl, rfl⟩; clear HQ1)
    go_ret
    exact HE.out
end Go.Proofs.Ytmpahimeljbliaa.Vm
