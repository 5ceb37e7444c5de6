/- The law PolicyMore answers true: the walk; printed by gen_more.py. No condition but that its arguments lie in memory as told. -/
import Derived.Test.YtbkhkdadipigfaaDoorApSrc
import Derived.Test.YtbkhkdadipigfaaDoorBlk
import Derived.Test.YtbkhkdadipigfaaDoorQx8
import Derived.Test.YtbkhkdadipigfaaDoorQx4
import Derived.Deep.RegionHeld3
import Derived.Deep.DeepCutAuto
import Derived.Outline
namespace Go.Proofs.YtbkhkdadipigfaaDoor.PolMore
open Go.RowKit Go.Proofs Go.Proofs.YtbkhkdadipigfaaDoor.Q Go.Proofs.YtbkhkdadipigfaaDoorW.PrintWords Go.Proofs.YtbkhkdadipigfaaDoorW.PrintLast Go.Proofs.YtbkhkdadipigfaaDoorW.PrintMore ApSrc

/-- What stays while the law runs: its argument's box. -/
structure Box (w W : World) (g2 : Nat) (ca : Array Value) : Prop where
  b2 : W.heap[g2]? = some (.cells ca 46 (0, 0))
  e2 : w.heap.size ≤ g2
  bel : Below w.heap.size w W
theorem blk_of {w w1 : World} {g t : Nat} {cs : Array Value} (h : w.heap[g]? = some (.cells cs t (0, 0))) (hb : Below w.heap.size w w1) : w1.heap[g]? = some (.cells cs t (0, 0)) :=
  (hb.block g (Array.getElem?_eq_some_iff.1 h).1).trans h
theorem Box.below {w W W1 : World} {g2 : Nat} {ca : Array Value} (h : Box w W g2 ca) (hb : Below W.heap.size W W1) : Box w W1 g2 ca := ⟨blk_of h.b2 hb, h.e2, below_then h.bel h.bel.size hb⟩
theorem Box.start (w : World) (ca : Array Value) : Box w (w.alloc (.cells ca 46)) w.heap.size ca := ⟨heap_alloc_new w _, Nat.le_refl _, below_alloc (Below.refl _ _) _⟩
theorem Box.set {w W : World} {g2 : Nat} {ca : Array Value} (h : Box w W g2 ca) {g : Nat} (hg : w.heap.size ≤ g) (n2 : g ≠ g2) (j : Nat) (u : Value) : Box w (W.setCell ⟨g, j, none⟩ u) g2 ca :=
  ⟨(Below.heap_setCell W ⟨g, j, none⟩ u g2 n2.symm).trans h.b2, h.e2, h.bel.setCell (p := ⟨g, j, none⟩) hg u⟩
theorem Box.grown {w W W1 : World} {g2 : Nat} {ca : Array Value} (h : Box w W g2 ca) {row : Option Nat} (hg : W.grownBy W1 row) (hr : ∀ k, row = some k → w.heap.size ≤ k ∧ k ≠ g2) : Box w W1 g2 ca :=
  ⟨(hg.block g2 (Array.getElem?_eq_some_iff.1 h.b2).1 (fun e => (hr g2 e.symm).2 rfl)).trans h.b2, h.e2, h.bel.grown hg h.bel.size (fun k hk => (hr k hk).1)⟩
theorem ne_type {W : World} {g g' t t' : Nat} {c c' : Array Value} (h : W.heap[g]? = some (.cells c t (0, 0))) (h' : W.heap[g']? = some (.cells c' t' (0, 0))) (ht : t ≠ t') : g ≠ g' := fun e => by
  rw [e, h'] at h
  injection (Option.some.inj h) with _ h _
  exact ht h.symm
theorem own_one (W : World) (x : ByteArray) : (W.alloc (.cells #[.string x] 9)).ownsRow W.heap.size 9 1 (.slice (some ⟨W.heap.size, 0, none⟩) 1 1) 1 [.string x] :=
  World.ownsRow_lit (base := W.heap.size) (e := 9) (size := 1) W #[.string x] 1 (Nat.le_refl _) (by unfold maxLen; decide) rfl
theorem app_behind {w W W4 : World} {g2 g7 g9 : Nat} {ca cn cm : Array Value} {x : ByteArray} (hX : Box w W g2 ca) (h7 : W.heap[g7]? = some (.cells cn 41 (0, 0))) (h9 : W.heap[g9]? = some (.cells cm 41 (0, 0))) (hG : (W.alloc (.cells #[.string x] 9)).grownBy W4 (Value.slice (some ⟨W.heap.size, 0, none⟩) 1 1).ownBlock) :
    Box w W4 g2 ca ∧ W4.heap[g7]? = some (.cells cn 41 (0, 0)) ∧ W4.heap[g9]? = some (.cells cm 41 (0, 0)) := by
  have b1 : Below W.heap.size W (W.alloc (.cells #[.string x] 9)) := below_alloc (Below.refl _ _) _
  have l2 := (Array.getElem?_eq_some_iff.1 hX.b2).1
  have l7 := (Array.getElem?_eq_some_iff.1 h7).1
  have l9 := (Array.getElem?_eq_some_iff.1 h9).1
  have hw := hX.bel.size
  have key : ∀ g, g < W.heap.size → ∀ c, (W.alloc (.cells #[.string x] 9)).heap[g]? = some c → W4.heap[g]? = some c := fun g hg c h => (hG.block g (Array.getElem?_eq_some_iff.1 h).1 (by simp [Value.ownBlock]; omega)).trans h
  exact ⟨(hX.below b1).grown hG (fun k hk => by simp [Value.ownBlock] at hk; omega), key g7 l7 _ (blk_of h7 b1), key g9 l9 _ (blk_of h9 b1)⟩
theorem info9 : (Tryd.prog.info? 9).map (fun i => (i.zero, i.size, i.bytes)) = some (some (.string ⟨#[]⟩), 1, 16) := by kernel_rfl
theorem str_row {w W : World} {g A n c : _} {l : List ByteArray} {x : ByteArray} {inner : List Value} (hr : Reps (Kd.string.K w) 1 l inner) (h : W.ownsRow g 9 1 (.slice A n c) (1 + l.length) ([.string x] ++ inner)) (hb : Below w.heap.size w W) : n = l.length + 1 ∧ n ≤ c ∧ Kd.string.C W A (x :: l).length (x :: l) := by
  have h1 : Reps (Kd.string.K w) 1 [x] [.string x] := ⟨rfl, fun j p hj => by
    rcases j with _ | j
    · obtain rfl : x = p := by simpa using hj
      rfl
    · simp at hj⟩
  have h2 : Reps (Kd.string.K w) 1 (x :: l) ([.string x] ++ inner) := by
    refine ⟨by simp [hr.1], fun j p hj => ?_⟩
    rcases j with _ | j
    · exact h1.2 0 p hj
    · have := hr.2 j p (by simpa using hj)
      simpa using this
  have HOR : OwnRow (Kd.string.K w) 9 1 W g (.slice A n c) (x :: l) := ⟨_, by rw [List.length_cons, Nat.add_comm]; exact h, h2⟩
  obtain ⟨A8, c8, e8, hl8, hr8⟩ := OwnRow.reads HOR
  injection e8 with e1 e2 e3
  subst e1 e3
  exact ⟨by rw [e2, List.length_cons], by omega, ReadsRow.imp_ (w := W) hr8 (Below.refl _ _) (fun p c h => Kd.string.K_below hb h)⟩

set_option maxRecDepth 100000 in
set_option maxHeartbeats 4000000 in
theorem more_in (k : Nat) (f0 : ByteArray) (f1 f2 : Bool) (A3 : Option Addr) (c3 : Nat) (l3 : List ByteArray) (A4 : Option Addr) (c4 : Nat) (l4 : List ByteArray) (A5 : Option Addr) (c5 : Nat) (l5 : List ByteArray) (A6 : Option Addr) (c6 : Nat) (l6 : List S48)
    (m lv : Int) (A9 : Option Addr) (c9 : Nat) (l9 : List ByteArray) (gt : Int) (gd : ByteArray) (pg ins : Int) (first : Bool) (real name tgt : ByteArray) (dir : ByteArray) (pm : Bool) (w : World) (hsh : SH w)
    (h3 : Kd.C Kd.string w A3 l3.length l3) (e3 : l3.length ≤ c3) (h4 : Kd.C Kd.string w A4 l4.length l4) (e4 : l4.length ≤ c4) (h5 : Kd.C Kd.string w A5 l5.length l5) (e5 : l5.length ≤ c5) (h6 : Kd.C k48 w A6 l6.length l6) (e6 : l6.length ≤ c6) (h9 : Kd.C Kd.string w A9 l9.length l9) (e9 : l9.length ≤ c9)
    (bg has gg : Bool) (hg : messuagelaw20_great.f k f0 f1 f2 l3 l4 l5 l6 m lv l9 gt gd pg ins first real name tgt = some bg) (hl : bg = false → l3.length ≤ 60 ∧ l4.length ≤ 60)
    (ha : bg = false → policy_Accessible.f k f0 f1 f2 l3 l4 l5 l6 m lv l9 gt gd pg ins first real = some has)
    (hp : bg = false → dir.size ≤ 4096 → pm = true → has = true → policy_Accessible.f k f0 f1 f2 l3 (dir :: l4) l5 l6 m lv l9 gt gd pg ins first real = some true)
    (hs : bg = false → dir.size ≤ 4096 → pm = false → has = true → policy_Accessible.f k f0 f1 f2 (dir :: l3) l4 l5 l6 m lv l9 gt gd pg ins first real = some true)
    (hb : bg = false → policy_Accessible.f k f0 true false [] [] [] [] m lv l9 gt gd pg ins first real = some (first && gg)) (hgr : bg = false → policy_Grey.f k m lv l9 gt gd pg ins real = some gg) (hv : messuagelaw20_alive.f k = some true)
    (q2 : bg = false → has = false → f1 = true) :
    Calls Tryd.prog 11 #[.agg #[.string f0, .bool f1, .bool f2, .slice A3 l3.length c3, .slice A4 l4.length c4, .slice A5 l5.length c5, .slice A6 l6.length c6, .int .u16 m, .int .i64 lv, .slice A9 l9.length c9, .int .i64 gt, .string gd, .int .i64 pg, .int .i64 ins, .bool first, .string real, .string name, .string tgt], .string dir, .bool pm] w fun e w' => e = .returned (.bool true) ∧ Below w.heap.size w w' := by
  obtain ⟨ca, hca⟩ : ∃ ca : Array Value, ca = #[.string f0, .bool f1, .bool f2, .slice A3 l3.length c3, .slice A4 l4.length c4, .slice A5 l5.length c5, .slice A6 l6.length c6, .int .u16 m, .int .i64 lv, .slice A9 l9.length c9, .int .i64 gt, .string gd, .int .i64 pg, .int .i64 ins, .bool first, .string real, .string name, .string tgt] := ⟨_, rfl⟩
  obtain ⟨W, hW⟩ : ∃ W, W = w.alloc (.cells ca 46) := ⟨_, rfl⟩
  have HBX := Aside0.mk (show Box w W w.heap.size ca from hW ▸ Box.start w _)
  have HB := HBX.out.bel
  have HG := messuagelaw20_great.calls k f0 f1 f2 (fun k_ => k_ < W.heap.size) A3 c3 l3 (fun k_ => k_ < W.heap.size) A4 c4 l4 (fun k_ => k_ < W.heap.size) A5 c5 l5 (fun k_ => k_ < W.heap.size) A6 c6 l6 m lv A9 c9 l9 gt gd pg ins first real name tgt bg W (Kd.V_mk e3 (Kd.C_F Kd.heap_string (Kd.C_below h3 HB))) (Kd.V_mk e4 (Kd.C_F Kd.heap_string (Kd.C_below h4 HB))) (Kd.V_mk e5 (Kd.C_F Kd.heap_string (Kd.C_below h5 HB))) (Kd.V_mk e6 (Kd.C_F k48_heap (Kd.C_below h6 HB))) (Kd.C_below h9 HB) e9 hg
  rw [show (#[.string f0, .bool f1, .bool f2, .slice A3 l3.length c3, .slice A4 l4.length c4, .slice A5 l5.length c5, .slice A6 l6.length c6, .int .u16 m, .int .i64 lv, .slice A9 l9.length c9, .int .i64 gt, .string gd, .int .i64 pg, .int .i64 ins, .bool first, .string real, .string name, .string tgt] : Array Value) = ca from hca.symm] at HG ⊢
  have hsz : ca.size = 18 := by rw [hca]; rfl
  have HCA := Aside0.mk hca
  have HSH := Aside0.mk hsh
  have H3 := Aside0.mk (And.intro h3 e3)
  have H4 := Aside0.mk (And.intro h4 e4)
  have H5 := Aside0.mk (And.intro h5 e5)
  have H6 := Aside0.mk (And.intro h6 e6)
  have H9 := Aside0.mk (And.intro h9 e9)
  have HL := Aside0.mk hl
  have HA := Aside0.mk ha
  have HP := Aside0.mk hp
  have HS := Aside0.mk hs
  have HBR := Aside0.mk hb
  have HGR := Aside0.mk hgr
  have HV := Aside0.mk hv
  have Q2 := Aside0.mk q2
  have HWE := Aside0.mk hW
  have HGG := Aside0.mk HG
  have HSZ := Aside0.mk (show (Tryd.prog.info? 46).map (·.size) = some ca.size from by rw [hsz]; kernel_rfl)
  clear h3 e3 h4 e4 h5 e5 h6 e6 h9 e9 hl ha hp hs hb hgr hv q2 hg hW hsh HB HG hsz hca
  cases bg with
  | true =>
    go_enter Tryd.func11, Tryd.ntmps11
    go_wp2_with (first
      | ((with_reducible refine gate_dst (N := 11) rfl ?_); (rw [← HWE.out]); refine Blk.load_block rfl rfl rfl HBX.out.b2 Tryd.underlying46 rfl HSZ.out ?_)
      | (go_at_call 40; (with_reducible refine (HGG.out).mono ?_); rintro _ W1 ⟨rfl, hB1⟩; have HBX1 := Aside0.mk (HBX.out.below hB1); clear hB1))
    go_ret
    exact ⟨rfl, HBX1.out.bel⟩
  | false =>
    have hl34 := HL.out rfl
    have hl3 := hl34.1
    have hl4 := hl34.2
    clear hl34
    by_cases hd : 4096 < dir.size
    · go_enter Tryd.func11, Tryd.ntmps11
      go_wp2_with (first
        | ((with_reducible refine gate_dst (N := 11) rfl ?_); (rw [← HWE.out]); refine Blk.load_block rfl rfl rfl HBX.out.b2 Tryd.underlying46 rfl HSZ.out ?_)
        | (go_at_call 40; (with_reducible refine (HGG.out).mono ?_); rintro _ W1 ⟨rfl, hB1⟩; have HBX1 := Aside0.mk (HBX.out.below hB1); clear hB1))
      go_ret
      exact ⟨rfl, HBX1.out.bel⟩
    · have HQ1 := Aside0.mk (fun (W : World) (hB : Below w.heap.size w W) => policy_Accessible.calls k f0 f1 f2 A3 c3 l3 A4 c4 l4 A5 c5 l5 A6 c6 l6 m lv A9 c9 l9 gt gd pg ins first real has W (SH.below HSH.out hB) (Kd.C_below H3.out.1 hB) H3.out.2 (Kd.C_below H4.out.1 hB) H4.out.2 (Kd.C_below H5.out.1 hB) H5.out.2 (Kd.C_below H6.out.1 hB) H6.out.2 (Kd.C_below H9.out.1 hB) H9.out.2 (HA.out rfl))
      obtain ⟨r3, hr3⟩ : ∃ r3, r3 = (first && gg) := ⟨_, rfl⟩
      have HQB := Aside0.mk (fun (W : World) (hB : Below w.heap.size w W) => show Calls Tryd.prog 43 #[.agg #[.string f0, .bool true, .bool false, .slice none 0 0, .slice none 0 0, .slice none 0 0, .slice none 0 0], .agg #[.int .u16 m, .int .i64 lv, .slice A9 l9.length c9, .int .i64 gt, .string gd, .int .i64 pg, .int .i64 ins], .bool first, .string real] W (fun e w' => e = .returned (.bool r3) ∧ Below W.heap.size W w') from policy_Accessible.calls k f0 true false none 0 [] none 0 [] none 0 [] none 0 [] m lv A9 c9 l9 gt gd pg ins first real r3 W (SH.below HSH.out hB) (Kd.C_nil _ _) (Nat.le_refl _) (Kd.C_nil _ _) (Nat.le_refl _) (Kd.C_nil _ _) (Nat.le_refl _) (Kd.C_nil _ _) (Nat.le_refl _) (Kd.C_below H9.out.1 hB) H9.out.2 ((HBR.out rfl).trans (congrArg some hr3.symm)))
      have HQG := Aside0.mk (fun (W : World) (hB : Below w.heap.size w W) => policy_Grey.calls k m lv A9 c9 l9 gt gd pg ins real gg W (SH.below HSH.out hB) (Kd.C_below H9.out.1 hB) H9.out.2 (HGR.out rfl))
      have HQA := Aside0.mk (fun (W : World) (hB : Below w.heap.size w W) => messuagelaw20_alive.calls k true W (SH.below HSH.out hB) HV.out)
      have HR3 := Aside0.mk hr3
      clear hr3
      have HD := Aside0.mk (show dir.size ≤ 4096 from by omega)
      go_enter Tryd.func11, Tryd.ntmps11
      go_upto_if 29 with (first
        | ((with_reducible refine gate_dst (N := 11) rfl ?_); (rw [← HWE.out]); refine Blk.load_block rfl rfl rfl HBX.out.b2 Tryd.underlying46 rfl HSZ.out ?_)
        | (go_at_call 40; (with_reducible refine (HGG.out).mono ?_); rintro _ W1 ⟨rfl, hB1⟩; have HBX1 := Aside0.mk (HBX.out.below hB1); clear hB1; have hz0 : w.heap.size < W1.heap.size := (Array.getElem?_eq_some_iff.1 HBX1.out.b2).1; have y0 : W1.cell? ⟨w.heap.size, 0, none⟩ = some (.string f0) := (blk_cell HBX1.out.b2 0).trans (by rw [HCA.out]; rfl); have y1 : W1.cell? ⟨w.heap.size, 1, none⟩ = some (.bool f1) := (blk_cell HBX1.out.b2 1).trans (by rw [HCA.out]; rfl); have y2 : W1.cell? ⟨w.heap.size, 2, none⟩ = some (.bool f2) := (blk_cell HBX1.out.b2 2).trans (by rw [HCA.out]; rfl); have y3 : W1.cell? ⟨w.heap.size, 3, none⟩ = some (.slice A3 l3.length c3) := (blk_cell HBX1.out.b2 3).trans (by rw [HCA.out]; rfl); have y4 : W1.cell? ⟨w.heap.size, 4, none⟩ = some (.slice A4 l4.length c4) := (blk_cell HBX1.out.b2 4).trans (by rw [HCA.out]; rfl); have y5 : W1.cell? ⟨w.heap.size, 5, none⟩ = some (.slice A5 l5.length c5) := (blk_cell HBX1.out.b2 5).trans (by rw [HCA.out]; rfl); have y6 : W1.cell? ⟨w.heap.size, 6, none⟩ = some (.slice A6 l6.length c6) := (blk_cell HBX1.out.b2 6).trans (by rw [HCA.out]; rfl); have y7 : W1.cell? ⟨w.heap.size, 7, none⟩ = some (.int .u16 m) := (blk_cell HBX1.out.b2 7).trans (by rw [HCA.out]; rfl); have y8 : W1.cell? ⟨w.heap.size, 8, none⟩ = some (.int .i64 lv) := (blk_cell HBX1.out.b2 8).trans (by rw [HCA.out]; rfl); have y9 : W1.cell? ⟨w.heap.size, 9, none⟩ = some (.slice A9 l9.length c9) := (blk_cell HBX1.out.b2 9).trans (by rw [HCA.out]; rfl); have y10 : W1.cell? ⟨w.heap.size, 10, none⟩ = some (.int .i64 gt) := (blk_cell HBX1.out.b2 10).trans (by rw [HCA.out]; rfl); have y11 : W1.cell? ⟨w.heap.size, 11, none⟩ = some (.string gd) := (blk_cell HBX1.out.b2 11).trans (by rw [HCA.out]; rfl); have y12 : W1.cell? ⟨w.heap.size, 12, none⟩ = some (.int .i64 pg) := (blk_cell HBX1.out.b2 12).trans (by rw [HCA.out]; rfl); have y13 : W1.cell? ⟨w.heap.size, 13, none⟩ = some (.int .i64 ins) := (blk_cell HBX1.out.b2 13).trans (by rw [HCA.out]; rfl); have y14 : W1.cell? ⟨w.heap.size, 14, none⟩ = some (.bool first) := (blk_cell HBX1.out.b2 14).trans (by rw [HCA.out]; rfl); have y15 : W1.cell? ⟨w.heap.size, 15, none⟩ = some (.string real) := (blk_cell HBX1.out.b2 15).trans (by rw [HCA.out]; rfl))
        | (go_at_call 43; (with_reducible refine (HQ1.out _ (below_alloc HBX1.out.bel _)).mono ?_); rintro _ W3 ⟨rfl, hB3⟩; have HBX3 := Aside0.mk ((HBX1.out.below (below_alloc (Below.refl _ _) _)).below hB3); have HB7 := Aside0.mk (blk_of (heap_alloc_new W1 (.cells #[.string f0, .bool f1, .bool f2, .slice A3 l3.length c3, .slice A4 l4.length c4, .slice A5 l5.length c5, .slice A6 l6.length c6] 41)) hB3); clear hB3; have hz1 : w.heap.size ≤ W1.heap.size := HBX1.out.bel.size; have hz3 : W1.heap.size < W3.heap.size := (Array.getElem?_eq_some_iff.1 HB7.out).1; have n0 : W3.cell? ⟨W1.heap.size, 0, none⟩ = some (.string f0) := (blk_cell HB7.out 0).trans rfl; have n1 : W3.cell? ⟨W1.heap.size, 1, none⟩ = some (.bool f1) := (blk_cell HB7.out 1).trans rfl; have n2 : W3.cell? ⟨W1.heap.size, 2, none⟩ = some (.bool f2) := (blk_cell HB7.out 2).trans rfl; have n3 : W3.cell? ⟨W1.heap.size, 3, none⟩ = some (.slice A3 l3.length c3) := (blk_cell HB7.out 3).trans rfl; have n4 : W3.cell? ⟨W1.heap.size, 4, none⟩ = some (.slice A4 l4.length c4) := (blk_cell HB7.out 4).trans rfl; have n5 : W3.cell? ⟨W1.heap.size, 5, none⟩ = some (.slice A5 l5.length c5) := (blk_cell HB7.out 5).trans rfl; have n6 : W3.cell? ⟨W1.heap.size, 6, none⟩ = some (.slice A6 l6.length c6) := (blk_cell HB7.out 6).trans rfl))
      clear HGG HWE HSZ HBX
      have hX5 := HBX3.out.below (below_alloc (Below.refl _ _) (.cells #[.string f0, .bool f1, .bool f2, .slice A3 l3.length c3, .slice A4 l4.length c4, .slice A5 l5.length c5, .slice A6 l6.length c6] 41))
      have h75 := blk_of HB7.out (below_alloc (Below.refl _ _) (.cells #[.string f0, .bool f1, .bool f2, .slice A3 l3.length c3, .slice A4 l4.length c4, .slice A5 l5.length c5, .slice A6 l6.length c6] 41))
      have h95 := heap_alloc_new W3 (.cells #[.string f0, .bool f1, .bool f2, .slice A3 l3.length c3, .slice A4 l4.length c4, .slice A5 l5.length c5, .slice A6 l6.length c6] 41)
      clear HBX1 HBX3 HB7 n0 n1 n2 n3 n4 n5 n6
      generalize W3.alloc (.cells #[.string f0, .bool f1, .bool f2, .slice A3 l3.length c3, .slice A4 l4.length c4, .slice A5 l5.length c5, .slice A6 l6.length c6] 41) = W5 at *
      generalize W3.heap.size = g9 at *
      generalize W1.heap.size = g7 at *
      have HX5 := Aside0.mk hX5
      have H75 := Aside0.mk h75
      have H95 := Aside0.mk h95
      have ng : g9 ≠ w.heap.size := ne_type h95 hX5.b2 (by decide)
      have ng7 : g9 ≠ g7 := by omega
      have hz7 : g7 < W5.heap.size := (Array.getElem?_eq_some_iff.1 h75).1
      have he9 : w.heap.size ≤ g9 := by omega
      clear hX5 h75 h95
      go_cut [] (fun wx => ∃ (A3' : Option Addr) (c3' : Nat) (l3' : List ByteArray) (A4' : Option Addr) (c4' : Nat) (l4' : List ByteArray), Aside0 (Box w wx w.heap.size ca) ∧ Aside0 (wx.heap[g7]? = some (.cells #[.string f0, .bool f1, .bool f2, .slice A3 l3.length c3, .slice A4 l4.length c4, .slice A5 l5.length c5, .slice A6 l6.length c6] 41 (0, 0))) ∧ Aside0 (wx.heap[g9]? = some (.cells #[.string f0, .bool f1, .bool f2, .slice A3' l3'.length c3', .slice A4' l4'.length c4', .slice A5 l5.length c5, .slice A6 l6.length c6] 41 (0, 0))) ∧ Aside0 (Kd.string.C wx A3' l3'.length l3' ∧ l3'.length ≤ c3' ∧ Kd.string.C wx A4' l4'.length l4' ∧ l4'.length ≤ c4') ∧ Aside0 (has = true → policy_Accessible.f k f0 f1 f2 l3' l4' l5 l6 m lv l9 gt gd pg ins first real = some true))
      case first =>
        cases pm with
        | true =>
          obtain ⟨inner, hr, hn⟩ := news_of H4.out.1
          have HR := Aside0.mk hr
          have HN := Aside0.mk hn
          have HI := Aside0.mk (show inner.length = l4.length * 1 from hr.1)
          clear hr hn
          have n4 : W5.cell? ⟨g7, 4, none⟩ = some (.slice A4 l4.length c4) := (blk_cell H75.out 4).trans rfl
          go_wp2_with (at_builtin; refine list_src rfl (.tmp 31) (.tmp 33) 32 rfl W5.heap.size 9 _ 1 16 Tryd.underlying32 info9 rfl (by decide) _ 1 [.string dir] rfl (own_one W5 dir) A4 l4.length c4 inner rfl HI.out (HN.out.move (below_alloc HX5.out.bel _)) (by unfold maxLen; omega) (by omega) (by simp) ?_; intro v4 w4 hO4 hG4 _; obtain ⟨A7, c7, rfl⟩ := own_slice hO4; have HG4 := Aside0.mk (app_behind HX5.out H75.out H95.out hG4); have HO4 := Aside0.mk hO4; clear hO4 hG4; have s6 : w4.cell? ⟨g9, 4, none⟩ = some (.slice A4 l4.length c4) := (blk_cell HG4.out.2.2 4).trans rfl; have s6f : w4.frozen? ⟨g9, 4, none⟩ = false := blk_frozen HG4.out.2.2 _)
          go_meet
          have hO5 := own_setCell (p := ⟨g9, 4, none⟩) HO4.out (own_ne HO4.out HG4.out.2.2 (by decide)) (.slice A7 (1 + l4.length) c7)
          have hX6 := HG4.out.1.set he9 ng 4 (.slice A7 (1 + l4.length) c7)
          obtain ⟨_, hlc, hC5⟩ := str_row HR.out hO5 hX6.bel
          have hle : (dir :: l4).length ≤ c7 := by rw [List.length_cons]; omega
          exact ⟨A3, c3, l3, A7, c7, dir :: l4, ⟨hX6⟩, ⟨(Below.heap_setCell _ ⟨g9, 4, none⟩ _ g7 ng7.symm).trans HG4.out.2.1⟩, ⟨(blk_set HG4.out.2.2 4 _).trans (by rw [Nat.add_comm 1 l4.length]; rfl)⟩, ⟨Kd.C_below H3.out.1 hX6.bel, H3.out.2, hC5, hle⟩, ⟨fun h => by first | exact HP.out trivial HD.out trivial h | exact HP.out trivial HD.out rfl h | exact HP.out rfl HD.out rfl h⟩⟩
        | false =>
          obtain ⟨inner, hr, hn⟩ := news_of H3.out.1
          have HR := Aside0.mk hr
          have HN := Aside0.mk hn
          have HI := Aside0.mk (show inner.length = l3.length * 1 from hr.1)
          clear hr hn
          have n3 : W5.cell? ⟨g7, 3, none⟩ = some (.slice A3 l3.length c3) := (blk_cell H75.out 3).trans rfl
          go_wp2_with (at_builtin; refine list_src rfl (.tmp 37) (.tmp 39) 32 rfl W5.heap.size 9 _ 1 16 Tryd.underlying32 info9 rfl (by decide) _ 1 [.string dir] rfl (own_one W5 dir) A3 l3.length c3 inner rfl HI.out (HN.out.move (below_alloc HX5.out.bel _)) (by unfold maxLen; omega) (by omega) (by simp) ?_; intro v4 w4 hO4 hG4 _; obtain ⟨A7, c7, rfl⟩ := own_slice hO4; have HG4 := Aside0.mk (app_behind HX5.out H75.out H95.out hG4); have HO4 := Aside0.mk hO4; clear hO4 hG4; have s6 : w4.cell? ⟨g9, 3, none⟩ = some (.slice A3 l3.length c3) := (blk_cell HG4.out.2.2 3).trans rfl; have s6f : w4.frozen? ⟨g9, 3, none⟩ = false := blk_frozen HG4.out.2.2 _)
          go_meet
          have hO5 := own_setCell (p := ⟨g9, 3, none⟩) HO4.out (own_ne HO4.out HG4.out.2.2 (by decide)) (.slice A7 (1 + l3.length) c7)
          have hX6 := HG4.out.1.set he9 ng 3 (.slice A7 (1 + l3.length) c7)
          obtain ⟨_, hlc, hC5⟩ := str_row HR.out hO5 hX6.bel
          have hle : (dir :: l3).length ≤ c7 := by rw [List.length_cons]; omega
          exact ⟨A7, c7, dir :: l3, A4, c4, l4, ⟨hX6⟩, ⟨(Below.heap_setCell _ ⟨g9, 3, none⟩ _ g7 ng7.symm).trans HG4.out.2.1⟩, ⟨(blk_set HG4.out.2.2 3 _).trans (by rw [Nat.add_comm 1 l3.length]; rfl)⟩, ⟨hC5, hle, Kd.C_below H4.out.1 hX6.bel, H4.out.2⟩, ⟨fun h => by first | exact HS.out trivial HD.out trivial h | exact HS.out trivial HD.out rfl h | exact HS.out rfl HD.out rfl h⟩⟩
      case rest =>
        obtain ⟨A3', c3', l3', A4', c4', l4', HX6, H76, H96, HC6, HM6⟩ := hcut
        rename World => w6
        have HQ2 := Aside0.mk (fun (W : World) (hB : Below w.heap.size w W) (hB6 : Below w6.heap.size w6 W) (hh : has = true) => policy_Accessible.calls k f0 f1 f2 A3' c3' l3' A4' c4' l4' A5 c5 l5 A6 c6 l6 m lv A9 c9 l9 gt gd pg ins first real true W (SH.below HSH.out hB) (Kd.C_below HC6.out.1 hB6) HC6.out.2.1 (Kd.C_below HC6.out.2.2.1 hB6) HC6.out.2.2.2 (Kd.C_below H5.out.1 hB) H5.out.2 (Kd.C_below H6.out.1 hB) H6.out.2 (Kd.C_below H9.out.1 hB) H9.out.2 (HM6.out hh))
        clear HX5 H75 H95 HQ1 HP HS HA HL HM6 HC6
        go_upto_region 9 with (fail)
        go_cut [62] (fun s wx => s = .bool false ∧ Aside0 (Box w wx w.heap.size ca) ∧ Aside0 (wx.heap[g7]? = some (.cells #[.string f0, .bool f1, .bool f2, .slice A3 l3.length c3, .slice A4 l4.length c4, .slice A5 l5.length c5, .slice A6 l6.length c6] 41 (0, 0))))
        case first =>
          have y7 : w6.cell? ⟨w.heap.size, 7, none⟩ = some (.int .u16 m) := (blk_cell HX6.out.b2 7).trans (by rw [HCA.out]; rfl)
          have y8 : w6.cell? ⟨w.heap.size, 8, none⟩ = some (.int .i64 lv) := (blk_cell HX6.out.b2 8).trans (by rw [HCA.out]; rfl)
          have y9 : w6.cell? ⟨w.heap.size, 9, none⟩ = some (.slice A9 l9.length c9) := (blk_cell HX6.out.b2 9).trans (by rw [HCA.out]; rfl)
          have y10 : w6.cell? ⟨w.heap.size, 10, none⟩ = some (.int .i64 gt) := (blk_cell HX6.out.b2 10).trans (by rw [HCA.out]; rfl)
          have y11 : w6.cell? ⟨w.heap.size, 11, none⟩ = some (.string gd) := (blk_cell HX6.out.b2 11).trans (by rw [HCA.out]; rfl)
          have y12 : w6.cell? ⟨w.heap.size, 12, none⟩ = some (.int .i64 pg) := (blk_cell HX6.out.b2 12).trans (by rw [HCA.out]; rfl)
          have y13 : w6.cell? ⟨w.heap.size, 13, none⟩ = some (.int .i64 ins) := (blk_cell HX6.out.b2 13).trans (by rw [HCA.out]; rfl)
          have y14 : w6.cell? ⟨w.heap.size, 14, none⟩ = some (.bool first) := (blk_cell HX6.out.b2 14).trans (by rw [HCA.out]; rfl)
          have y15 : w6.cell? ⟨w.heap.size, 15, none⟩ = some (.string real) := (blk_cell HX6.out.b2 15).trans (by rw [HCA.out]; rfl)
          have m0 : w6.cell? ⟨g9, 0, none⟩ = some (.string f0) := (blk_cell H96.out 0).trans rfl
          have m1 : w6.cell? ⟨g9, 1, none⟩ = some (.bool f1) := (blk_cell H96.out 1).trans rfl
          have m2 : w6.cell? ⟨g9, 2, none⟩ = some (.bool f2) := (blk_cell H96.out 2).trans rfl
          have m3 : w6.cell? ⟨g9, 3, none⟩ = some (.slice A3' l3'.length c3') := (blk_cell H96.out 3).trans rfl
          have m4 : w6.cell? ⟨g9, 4, none⟩ = some (.slice A4' l4'.length c4') := (blk_cell H96.out 4).trans rfl
          have m5 : w6.cell? ⟨g9, 5, none⟩ = some (.slice A5 l5.length c5) := (blk_cell H96.out 5).trans rfl
          have m6 : w6.cell? ⟨g9, 6, none⟩ = some (.slice A6 l6.length c6) := (blk_cell H96.out 6).trans rfl
          have n1 : w6.cell? ⟨g7, 1, none⟩ = some (.bool f1) := (blk_cell H76.out 1).trans rfl
          cases has with
          | true =>
            cases f1
            all_goals
              go_wp2_with (go_at_call 43; (with_reducible refine (HQ2.out _ HX6.out.bel (Below.refl _ _) (by first | rfl | trivial)).mono ?_); rintro _ W7 ⟨rfl, hB7⟩; have HX7 := Aside0.mk (HX6.out.below hB7); have H77 := Aside0.mk (blk_of H76.out hB7); clear hB7; have n1' := (blk_cell H77.out 1).trans rfl)
              go_meet
              exact ⟨rfl, HX7, H77⟩
          | false =>
            have hf := Q2.out (by first | rfl | trivial) (by first | rfl | trivial)
            subst hf
            go_wp2
            go_meet
            exact ⟨rfl, HX6, H76⟩
        case rest =>
          obtain ⟨rfl, HX8, H78⟩ := hcut
          rename World => w8
          have n0 : w8.cell? ⟨g7, 0, none⟩ = some (.string f0) := (blk_cell H78.out 0).trans rfl
          go_upto_region 12 with (fail)
          have hX9 := HX8.out.below (below_alloc (Below.refl _ _) (.cells #[.string f0, .bool true, .bool false, .slice none 0 0, .slice none 0 0, .slice none 0 0, .slice none 0 0] 41))
          have h109 := heap_alloc_new w8 (.cells #[.string f0, .bool true, .bool false, .slice none 0 0, .slice none 0 0, .slice none 0 0, .slice none 0 0] 41)
          clear n0 HX6 H76 H96 H78 HX8
          generalize w8.alloc (.cells #[.string f0, .bool true, .bool false, .slice none 0 0, .slice none 0 0, .slice none 0 0, .slice none 0 0] 41) = w9 at *
          generalize w8.heap.size = g10 at *
          have HX9 := Aside0.mk hX9
          have H109 := Aside0.mk h109
          clear hX9 h109
          have y7 : w9.cell? ⟨w.heap.size, 7, none⟩ = some (.int .u16 m) := (blk_cell HX9.out.b2 7).trans (by rw [HCA.out]; rfl)
          have y8 : w9.cell? ⟨w.heap.size, 8, none⟩ = some (.int .i64 lv) := (blk_cell HX9.out.b2 8).trans (by rw [HCA.out]; rfl)
          have y9 : w9.cell? ⟨w.heap.size, 9, none⟩ = some (.slice A9 l9.length c9) := (blk_cell HX9.out.b2 9).trans (by rw [HCA.out]; rfl)
          have y10 : w9.cell? ⟨w.heap.size, 10, none⟩ = some (.int .i64 gt) := (blk_cell HX9.out.b2 10).trans (by rw [HCA.out]; rfl)
          have y11 : w9.cell? ⟨w.heap.size, 11, none⟩ = some (.string gd) := (blk_cell HX9.out.b2 11).trans (by rw [HCA.out]; rfl)
          have y12 : w9.cell? ⟨w.heap.size, 12, none⟩ = some (.int .i64 pg) := (blk_cell HX9.out.b2 12).trans (by rw [HCA.out]; rfl)
          have y13 : w9.cell? ⟨w.heap.size, 13, none⟩ = some (.int .i64 ins) := (blk_cell HX9.out.b2 13).trans (by rw [HCA.out]; rfl)
          have y14 : w9.cell? ⟨w.heap.size, 14, none⟩ = some (.bool first) := (blk_cell HX9.out.b2 14).trans (by rw [HCA.out]; rfl)
          have y15 : w9.cell? ⟨w.heap.size, 15, none⟩ = some (.string real) := (blk_cell HX9.out.b2 15).trans (by rw [HCA.out]; rfl)
          have b0 : w9.cell? ⟨g10, 0, none⟩ = some (.string f0) := (blk_cell H109.out 0).trans rfl
          have b1 : w9.cell? ⟨g10, 1, none⟩ = some (.bool true) := (blk_cell H109.out 1).trans rfl
          have b2 : w9.cell? ⟨g10, 2, none⟩ = some (.bool false) := (blk_cell H109.out 2).trans rfl
          have b3 : w9.cell? ⟨g10, 3, none⟩ = some (.slice none 0 0) := (blk_cell H109.out 3).trans rfl
          have b4 : w9.cell? ⟨g10, 4, none⟩ = some (.slice none 0 0) := (blk_cell H109.out 4).trans rfl
          have b5 : w9.cell? ⟨g10, 5, none⟩ = some (.slice none 0 0) := (blk_cell H109.out 5).trans rfl
          have b6 : w9.cell? ⟨g10, 6, none⟩ = some (.slice none 0 0) := (blk_cell H109.out 6).trans rfl
          have hr := HR3.out
          cases first with
          | true =>
            cases gg <;> (simp only [Bool.and_true, Bool.and_false, Bool.false_and, Bool.true_and] at hr; subst hr)
            all_goals
              first
              | (go_region_held3 (fun w' => w'.cell? ⟨w.heap.size, 7, none⟩ = some (.int .u16 m) ∧ w'.cell? ⟨w.heap.size, 8, none⟩ = some (.int .i64 lv) ∧ w'.cell? ⟨w.heap.size, 9, none⟩ = some (.slice A9 l9.length c9) ∧ w'.cell? ⟨w.heap.size, 10, none⟩ = some (.int .i64 gt) ∧ w'.cell? ⟨w.heap.size, 11, none⟩ = some (.string gd) ∧ w'.cell? ⟨w.heap.size, 12, none⟩ = some (.int .i64 pg) ∧ w'.cell? ⟨w.heap.size, 13, none⟩ = some (.int .i64 ins) ∧ w'.cell? ⟨w.heap.size, 14, none⟩ = some (.bool true) ∧ w'.cell? ⟨w.heap.size, 15, none⟩ = some (.string real) ∧ w'.cell? ⟨g10, 0, none⟩ = some (.string f0) ∧ w'.cell? ⟨g10, 1, none⟩ = some (.bool true) ∧ w'.cell? ⟨g10, 2, none⟩ = some (.bool false) ∧ w'.cell? ⟨g10, 3, none⟩ = some (.slice none 0 0) ∧ w'.cell? ⟨g10, 4, none⟩ = some (.slice none 0 0) ∧ w'.cell? ⟨g10, 5, none⟩ = some (.slice none 0 0) ∧ w'.cell? ⟨g10, 6, none⟩ = some (.slice none 0 0)) (go_keep) (first
                | (go_at_call 43; (with_reducible refine (HQB.out _ (below_then HX9.out.bel HX9.out.bel.size (by repeat (first | exact Below.refl _ _ | refine below_drew1 ?_ | refine below_alloc ?_ _ | refine pw_below_drewN ?_ _)))).mono ?_); rintro _ W10 ⟨rfl, hB10⟩; have hB10' : Below w9.heap.size w9 W10 := below_step (by repeat (first | exact Below.refl _ _ | refine below_drew1 ?_ | refine below_alloc ?_ _ | refine pw_below_drewN ?_ _)) hB10; have HB10 := Aside0.mk hB10'; have HX10 := Aside0.mk (HX9.out.below hB10'); have H1010 := Aside0.mk (blk_of H109.out hB10'); clear hB10 hB10'; have p7 : W10.cell? ⟨w.heap.size, 7, none⟩ = some (.int .u16 m) := (blk_cell HX10.out.b2 7).trans (by rw [HCA.out]; rfl); have p8 : W10.cell? ⟨w.heap.size, 8, none⟩ = some (.int .i64 lv) := (blk_cell HX10.out.b2 8).trans (by rw [HCA.out]; rfl); have p9 : W10.cell? ⟨w.heap.size, 9, none⟩ = some (.slice A9 l9.length c9) := (blk_cell HX10.out.b2 9).trans (by rw [HCA.out]; rfl); have p10 : W10.cell? ⟨w.heap.size, 10, none⟩ = some (.int .i64 gt) := (blk_cell HX10.out.b2 10).trans (by rw [HCA.out]; rfl); have p11 : W10.cell? ⟨w.heap.size, 11, none⟩ = some (.string gd) := (blk_cell HX10.out.b2 11).trans (by rw [HCA.out]; rfl); have p12 : W10.cell? ⟨w.heap.size, 12, none⟩ = some (.int .i64 pg) := (blk_cell HX10.out.b2 12).trans (by rw [HCA.out]; rfl); have p13 : W10.cell? ⟨w.heap.size, 13, none⟩ = some (.int .i64 ins) := (blk_cell HX10.out.b2 13).trans (by rw [HCA.out]; rfl); have p14 : W10.cell? ⟨w.heap.size, 14, none⟩ = some (.bool true) := (blk_cell HX10.out.b2 14).trans (by rw [HCA.out]; rfl); have p15 : W10.cell? ⟨w.heap.size, 15, none⟩ = some (.string real) := (blk_cell HX10.out.b2 15).trans (by rw [HCA.out]; rfl); have pb0 : W10.cell? ⟨g10, 0, none⟩ = some (.string f0) := (blk_cell H1010.out 0).trans rfl; have pb1 : W10.cell? ⟨g10, 1, none⟩ = some (.bool true) := (blk_cell H1010.out 1).trans rfl; have pb2 : W10.cell? ⟨g10, 2, none⟩ = some (.bool false) := (blk_cell H1010.out 2).trans rfl; have pb3 : W10.cell? ⟨g10, 3, none⟩ = some (.slice none 0 0) := (blk_cell H1010.out 3).trans rfl; have pb4 : W10.cell? ⟨g10, 4, none⟩ = some (.slice none 0 0) := (blk_cell H1010.out 4).trans rfl; have pb5 : W10.cell? ⟨g10, 5, none⟩ = some (.slice none 0 0) := (blk_cell H1010.out 5).trans rfl; have pb6 : W10.cell? ⟨g10, 6, none⟩ = some (.slice none 0 0) := (blk_cell H1010.out 6).trans rfl)
                | (go_at_call 44; (with_reducible refine (HQG.out _ (below_then HX10.out.bel HX10.out.bel.size (by repeat (first | exact Below.refl _ _ | refine below_drew1 ?_ | refine below_alloc ?_ _ | refine pw_below_drewN ?_ _)))).mono ?_); rintro _ W11 ⟨rfl, hB11⟩; have hB11' : Below W10.heap.size W10 W11 := below_step (by repeat (first | exact Below.refl _ _ | refine below_drew1 ?_ | refine below_alloc ?_ _ | refine pw_below_drewN ?_ _)) hB11; have HX11 := Aside0.mk (HX10.out.below hB11'); have H1011 := Aside0.mk (blk_of H1010.out hB11'); clear hB11 hB11'; have q7 : W11.cell? ⟨w.heap.size, 7, none⟩ = some (.int .u16 m) := (blk_cell HX11.out.b2 7).trans (by rw [HCA.out]; rfl); have q8 : W11.cell? ⟨w.heap.size, 8, none⟩ = some (.int .i64 lv) := (blk_cell HX11.out.b2 8).trans (by rw [HCA.out]; rfl); have q9 : W11.cell? ⟨w.heap.size, 9, none⟩ = some (.slice A9 l9.length c9) := (blk_cell HX11.out.b2 9).trans (by rw [HCA.out]; rfl); have q10 : W11.cell? ⟨w.heap.size, 10, none⟩ = some (.int .i64 gt) := (blk_cell HX11.out.b2 10).trans (by rw [HCA.out]; rfl); have q11 : W11.cell? ⟨w.heap.size, 11, none⟩ = some (.string gd) := (blk_cell HX11.out.b2 11).trans (by rw [HCA.out]; rfl); have q12 : W11.cell? ⟨w.heap.size, 12, none⟩ = some (.int .i64 pg) := (blk_cell HX11.out.b2 12).trans (by rw [HCA.out]; rfl); have q13 : W11.cell? ⟨w.heap.size, 13, none⟩ = some (.int .i64 ins) := (blk_cell HX11.out.b2 13).trans (by rw [HCA.out]; rfl); have q14 : W11.cell? ⟨w.heap.size, 14, none⟩ = some (.bool true) := (blk_cell HX11.out.b2 14).trans (by rw [HCA.out]; rfl); have q15 : W11.cell? ⟨w.heap.size, 15, none⟩ = some (.string real) := (blk_cell HX11.out.b2 15).trans (by rw [HCA.out]; rfl); have qb0 : W11.cell? ⟨g10, 0, none⟩ = some (.string f0) := (blk_cell H1011.out 0).trans rfl; have qb1 : W11.cell? ⟨g10, 1, none⟩ = some (.bool true) := (blk_cell H1011.out 1).trans rfl; have qb2 : W11.cell? ⟨g10, 2, none⟩ = some (.bool false) := (blk_cell H1011.out 2).trans rfl; have qb3 : W11.cell? ⟨g10, 3, none⟩ = some (.slice none 0 0) := (blk_cell H1011.out 3).trans rfl; have qb4 : W11.cell? ⟨g10, 4, none⟩ = some (.slice none 0 0) := (blk_cell H1011.out 4).trans rfl; have qb5 : W11.cell? ⟨g10, 5, none⟩ = some (.slice none 0 0) := (blk_cell H1011.out 5).trans rfl; have qb6 : W11.cell? ⟨g10, 6, none⟩ = some (.slice none 0 0) := (blk_cell H1011.out 6).trans rfl)
                | (go_at_call 39; (with_reducible refine (HQA.out _ (below_then HX11.out.bel HX11.out.bel.size (by repeat (first | exact Below.refl _ _ | refine below_drew1 ?_ | refine below_alloc ?_ _ | refine pw_below_drewN ?_ _)))).mono ?_); rintro _ W12 ⟨rfl, hB12⟩; have hB12' : Below W11.heap.size W11 W12 := below_step (by repeat (first | exact Below.refl _ _ | refine below_drew1 ?_ | refine below_alloc ?_ _ | refine pw_below_drewN ?_ _)) hB12; have HX12 := Aside0.mk (HX11.out.below hB12'); have H1012 := Aside0.mk (blk_of H1011.out hB12'); clear hB12 hB12'; have z7 : W12.cell? ⟨w.heap.size, 7, none⟩ = some (.int .u16 m) := (blk_cell HX12.out.b2 7).trans (by rw [HCA.out]; rfl); have z8 : W12.cell? ⟨w.heap.size, 8, none⟩ = some (.int .i64 lv) := (blk_cell HX12.out.b2 8).trans (by rw [HCA.out]; rfl); have z9 : W12.cell? ⟨w.heap.size, 9, none⟩ = some (.slice A9 l9.length c9) := (blk_cell HX12.out.b2 9).trans (by rw [HCA.out]; rfl); have z10 : W12.cell? ⟨w.heap.size, 10, none⟩ = some (.int .i64 gt) := (blk_cell HX12.out.b2 10).trans (by rw [HCA.out]; rfl); have z11 : W12.cell? ⟨w.heap.size, 11, none⟩ = some (.string gd) := (blk_cell HX12.out.b2 11).trans (by rw [HCA.out]; rfl); have z12 : W12.cell? ⟨w.heap.size, 12, none⟩ = some (.int .i64 pg) := (blk_cell HX12.out.b2 12).trans (by rw [HCA.out]; rfl); have z13 : W12.cell? ⟨w.heap.size, 13, none⟩ = some (.int .i64 ins) := (blk_cell HX12.out.b2 13).trans (by rw [HCA.out]; rfl); have z14 : W12.cell? ⟨w.heap.size, 14, none⟩ = some (.bool true) := (blk_cell HX12.out.b2 14).trans (by rw [HCA.out]; rfl); have z15 : W12.cell? ⟨w.heap.size, 15, none⟩ = some (.string real) := (blk_cell HX12.out.b2 15).trans (by rw [HCA.out]; rfl); have zb0 : W12.cell? ⟨g10, 0, none⟩ = some (.string f0) := (blk_cell H1012.out 0).trans rfl; have zb1 : W12.cell? ⟨g10, 1, none⟩ = some (.bool true) := (blk_cell H1012.out 1).trans rfl; have zb2 : W12.cell? ⟨g10, 2, none⟩ = some (.bool false) := (blk_cell H1012.out 2).trans rfl; have zb3 : W12.cell? ⟨g10, 3, none⟩ = some (.slice none 0 0) := (blk_cell H1012.out 3).trans rfl; have zb4 : W12.cell? ⟨g10, 4, none⟩ = some (.slice none 0 0) := (blk_cell H1012.out 4).trans rfl; have zb5 : W12.cell? ⟨g10, 5, none⟩ = some (.slice none 0 0) := (blk_cell H1012.out 5).trans rfl; have zb6 : W12.cell? ⟨g10, 6, none⟩ = some (.slice none 0 0) := (blk_cell H1012.out 6).trans rfl)
                | (go_at_call 39; (with_reducible refine (HQA.out _ (below_then HX10.out.bel HX10.out.bel.size (by repeat (first | exact Below.refl _ _ | refine below_drew1 ?_ | refine below_alloc ?_ _ | refine pw_below_drewN ?_ _)))).mono ?_); rintro _ W12 ⟨rfl, hB12⟩; have hB12' : Below W10.heap.size W10 W12 := below_step (by repeat (first | exact Below.refl _ _ | refine below_drew1 ?_ | refine below_alloc ?_ _ | refine pw_below_drewN ?_ _)) hB12; have HX12 := Aside0.mk (HX10.out.below hB12'); have H1012 := Aside0.mk (blk_of H1010.out hB12'); clear hB12 hB12'; have z7 : W12.cell? ⟨w.heap.size, 7, none⟩ = some (.int .u16 m) := (blk_cell HX12.out.b2 7).trans (by rw [HCA.out]; rfl); have z8 : W12.cell? ⟨w.heap.size, 8, none⟩ = some (.int .i64 lv) := (blk_cell HX12.out.b2 8).trans (by rw [HCA.out]; rfl); have z9 : W12.cell? ⟨w.heap.size, 9, none⟩ = some (.slice A9 l9.length c9) := (blk_cell HX12.out.b2 9).trans (by rw [HCA.out]; rfl); have z10 : W12.cell? ⟨w.heap.size, 10, none⟩ = some (.int .i64 gt) := (blk_cell HX12.out.b2 10).trans (by rw [HCA.out]; rfl); have z11 : W12.cell? ⟨w.heap.size, 11, none⟩ = some (.string gd) := (blk_cell HX12.out.b2 11).trans (by rw [HCA.out]; rfl); have z12 : W12.cell? ⟨w.heap.size, 12, none⟩ = some (.int .i64 pg) := (blk_cell HX12.out.b2 12).trans (by rw [HCA.out]; rfl); have z13 : W12.cell? ⟨w.heap.size, 13, none⟩ = some (.int .i64 ins) := (blk_cell HX12.out.b2 13).trans (by rw [HCA.out]; rfl); have z14 : W12.cell? ⟨w.heap.size, 14, none⟩ = some (.bool true) := (blk_cell HX12.out.b2 14).trans (by rw [HCA.out]; rfl); have z15 : W12.cell? ⟨w.heap.size, 15, none⟩ = some (.string real) := (blk_cell HX12.out.b2 15).trans (by rw [HCA.out]; rfl); have zb0 : W12.cell? ⟨g10, 0, none⟩ = some (.string f0) := (blk_cell H1012.out 0).trans rfl; have zb1 : W12.cell? ⟨g10, 1, none⟩ = some (.bool true) := (blk_cell H1012.out 1).trans rfl; have zb2 : W12.cell? ⟨g10, 2, none⟩ = some (.bool false) := (blk_cell H1012.out 2).trans rfl; have zb3 : W12.cell? ⟨g10, 3, none⟩ = some (.slice none 0 0) := (blk_cell H1012.out 3).trans rfl; have zb4 : W12.cell? ⟨g10, 4, none⟩ = some (.slice none 0 0) := (blk_cell H1012.out 4).trans rfl; have zb5 : W12.cell? ⟨g10, 5, none⟩ = some (.slice none 0 0) := (blk_cell H1012.out 5).trans rfl; have zb6 : W12.cell? ⟨g10, 6, none⟩ = some (.slice none 0 0) := (blk_cell H1012.out 6).trans rfl)))
              | fail
              all_goals go_wp2
              all_goals go_ret
              all_goals exact ⟨by first | rfl | simp, HX12.out.bel⟩
          | false =>
            cases gg <;> (simp only [Bool.and_true, Bool.and_false, Bool.false_and, Bool.true_and] at hr; subst hr)
            all_goals
              refine wp_region_held_drew (S := fun w' => w'.cell? ⟨w.heap.size, 7, none⟩ = some (.int .u16 m) ∧ w'.cell? ⟨w.heap.size, 8, none⟩ = some (.int .i64 lv) ∧ w'.cell? ⟨w.heap.size, 9, none⟩ = some (.slice A9 l9.length c9) ∧ w'.cell? ⟨w.heap.size, 10, none⟩ = some (.int .i64 gt) ∧ w'.cell? ⟨w.heap.size, 11, none⟩ = some (.string gd) ∧ w'.cell? ⟨w.heap.size, 12, none⟩ = some (.int .i64 pg) ∧ w'.cell? ⟨w.heap.size, 13, none⟩ = some (.int .i64 ins) ∧ w'.cell? ⟨w.heap.size, 14, none⟩ = some (.bool false) ∧ w'.cell? ⟨w.heap.size, 15, none⟩ = some (.string real) ∧ w'.cell? ⟨g10, 0, none⟩ = some (.string f0) ∧ w'.cell? ⟨g10, 1, none⟩ = some (.bool true) ∧ w'.cell? ⟨g10, 2, none⟩ = some (.bool false) ∧ w'.cell? ⟨g10, 3, none⟩ = some (.slice none 0 0) ∧ w'.cell? ⟨g10, 4, none⟩ = some (.slice none 0 0) ∧ w'.cell? ⟨g10, 5, none⟩ = some (.slice none 0 0) ∧ w'.cell? ⟨g10, 6, none⟩ = some (.slice none 0 0)) (by kernel_rfl) ?_ (fun hHeld => ?_)
              · (try dsimp only); go_keep
              refine wpAnyH_take (i := 0) (oi := ⟨some 66, _, _, _, _, _⟩) (v := ?_) rfl (by kernel_rfl) (by kernel_rfl) (by kernel_rfl) (fun _ _ _ h => h) (Or.inl ⟨by rfl, ?_⟩) (by assumption) ?_
              rotate_left
              · (intro wz hSw; (try dsimp only at hSw); first | (go_simp; done) | (go_simp; with_reducible rfl))
              (try simp only [Act.put, List.setIfInBounds_toArray, List.set_cons_zero, List.set_cons_succ])
              refine wpAnyH_take (i := 1) (oi := ⟨some 67, _, _, _, _, _⟩) (v := ?_) rfl (by kernel_rfl) (by kernel_rfl) (by kernel_rfl) (fun _ _ _ h => h) (Or.inl ⟨by rfl, ?_⟩) (by assumption) ?_
              rotate_left
              · (intro wz hSw; (try dsimp only at hSw); first | (go_simp; done) | (go_simp; with_reducible rfl))
              (try simp only [Act.put, List.setIfInBounds_toArray, List.set_cons_zero, List.set_cons_succ])
              refine wpAnyH_take (i := 2) (oi := ⟨some 68, _, _, _, _, _⟩) (v := ?_) rfl (by kernel_rfl) (by kernel_rfl) (by kernel_rfl) (fun _ _ _ h => h) (Or.inl ⟨by rfl, ?_⟩) (by assumption) ?_
              rotate_left
              · (intro wz hSw; (try dsimp only at hSw); first | (go_simp; done) | (go_simp; with_reducible rfl))
              (try simp only [Act.put, List.setIfInBounds_toArray, List.set_cons_zero, List.set_cons_succ])
              refine wpAnyH_take (i := 3) (oi := ⟨some 69, _, _, _, _, _⟩) (v := ?_) rfl (by kernel_rfl) (by kernel_rfl) (by kernel_rfl) (fun _ _ _ h => h) (Or.inl ⟨by rfl, ?_⟩) (by assumption) ?_
              rotate_left
              · (intro wz hSw; (try dsimp only at hSw); first | (go_simp; done) | (go_simp; with_reducible rfl))
              (try simp only [Act.put, List.setIfInBounds_toArray, List.set_cons_zero, List.set_cons_succ])
              refine wpAnyH_take (i := 4) (oi := ⟨some 70, _, _, _, _, _⟩) (v := ?_) rfl (by kernel_rfl) (by kernel_rfl) (by kernel_rfl) (fun _ _ _ h => h) (Or.inl ⟨by rfl, ?_⟩) (by assumption) ?_
              rotate_left
              · (intro wz hSw; (try dsimp only at hSw); first | (go_simp; done) | (go_simp; with_reducible rfl))
              (try simp only [Act.put, List.setIfInBounds_toArray, List.set_cons_zero, List.set_cons_succ])
              refine wpAnyH_take (i := 5) (oi := ⟨some 71, _, _, _, _, _⟩) (v := ?_) rfl (by kernel_rfl) (by kernel_rfl) (by kernel_rfl) (fun _ _ _ h => h) (Or.inl ⟨by rfl, ?_⟩) (by assumption) ?_
              rotate_left
              · (intro wz hSw; (try dsimp only at hSw); first | (go_simp; done) | (go_simp; with_reducible rfl))
              (try simp only [Act.put, List.setIfInBounds_toArray, List.set_cons_zero, List.set_cons_succ])
              refine wpAnyH_take (i := 6) (oi := ⟨some 72, _, _, _, _, _⟩) (v := ?_) rfl (by kernel_rfl) (by kernel_rfl) (by kernel_rfl) (fun _ _ _ h => h) (Or.inl ⟨by rfl, ?_⟩) (by assumption) ?_
              rotate_left
              · (intro wz hSw; (try dsimp only at hSw); first | (go_simp; done) | (go_simp; with_reducible rfl))
              (try simp only [Act.put, List.setIfInBounds_toArray, List.set_cons_zero, List.set_cons_succ])
              refine wpAnyH_take (i := 8) (oi := ⟨some 74, _, _, _, _, _⟩) (v := ?_) rfl (by kernel_rfl) (by kernel_rfl) (by kernel_rfl) (fun _ _ _ h => h) (Or.inl ⟨by rfl, ?_⟩) (by assumption) ?_
              rotate_left
              · (intro wz hSw; (try dsimp only at hSw); first | (go_simp; done) | (go_simp; with_reducible rfl))
              (try simp only [Act.put, List.setIfInBounds_toArray, List.set_cons_zero, List.set_cons_succ])
              refine wpAnyH_take (i := 9) (oi := ⟨some 75, _, _, _, _, _⟩) (v := ?_) rfl (by kernel_rfl) (by kernel_rfl) (by kernel_rfl) (fun _ _ _ h => h) (Or.inl ⟨by rfl, ?_⟩) (by assumption) ?_
              rotate_left
              · (intro wz hSw; (try dsimp only at hSw); first | (go_simp; done) | (go_simp; with_reducible rfl))
              (try simp only [Act.put, List.setIfInBounds_toArray, List.set_cons_zero, List.set_cons_succ])
              refine wpAnyH_ready (rs := [7]) (by kernel_rfl) (by simp) ?_
              refine AllReadyH.cons rfl (fun K hK => ?_) AllReadyH.nil
              go_simp
              (go_at_call 43; (with_reducible refine (HQB.out _ (below_then HX9.out.bel HX9.out.bel.size (by repeat (first | exact Below.refl _ _ | refine below_drew1 ?_ | refine below_alloc ?_ _ | refine pw_below_drewN ?_ _)))).mono ?_); rintro _ W10 ⟨rfl, hB10⟩; have hB10' : Below w9.heap.size w9 W10 := below_step (by repeat (first | exact Below.refl _ _ | refine below_drew1 ?_ | refine below_alloc ?_ _ | refine pw_below_drewN ?_ _)) hB10; have HB10 := Aside0.mk hB10'; have HX10 := Aside0.mk (HX9.out.below hB10'); have H1010 := Aside0.mk (blk_of H109.out hB10'); clear hB10 hB10'; have p7 : W10.cell? ⟨w.heap.size, 7, none⟩ = some (.int .u16 m) := (blk_cell HX10.out.b2 7).trans (by rw [HCA.out]; rfl); have p8 : W10.cell? ⟨w.heap.size, 8, none⟩ = some (.int .i64 lv) := (blk_cell HX10.out.b2 8).trans (by rw [HCA.out]; rfl); have p9 : W10.cell? ⟨w.heap.size, 9, none⟩ = some (.slice A9 l9.length c9) := (blk_cell HX10.out.b2 9).trans (by rw [HCA.out]; rfl); have p10 : W10.cell? ⟨w.heap.size, 10, none⟩ = some (.int .i64 gt) := (blk_cell HX10.out.b2 10).trans (by rw [HCA.out]; rfl); have p11 : W10.cell? ⟨w.heap.size, 11, none⟩ = some (.string gd) := (blk_cell HX10.out.b2 11).trans (by rw [HCA.out]; rfl); have p12 : W10.cell? ⟨w.heap.size, 12, none⟩ = some (.int .i64 pg) := (blk_cell HX10.out.b2 12).trans (by rw [HCA.out]; rfl); have p13 : W10.cell? ⟨w.heap.size, 13, none⟩ = some (.int .i64 ins) := (blk_cell HX10.out.b2 13).trans (by rw [HCA.out]; rfl); have p14 : W10.cell? ⟨w.heap.size, 14, none⟩ = some (.bool false) := (blk_cell HX10.out.b2 14).trans (by rw [HCA.out]; rfl); have p15 : W10.cell? ⟨w.heap.size, 15, none⟩ = some (.string real) := (blk_cell HX10.out.b2 15).trans (by rw [HCA.out]; rfl); have pb0 : W10.cell? ⟨g10, 0, none⟩ = some (.string f0) := (blk_cell H1010.out 0).trans rfl; have pb1 : W10.cell? ⟨g10, 1, none⟩ = some (.bool true) := (blk_cell H1010.out 1).trans rfl; have pb2 : W10.cell? ⟨g10, 2, none⟩ = some (.bool false) := (blk_cell H1010.out 2).trans rfl; have pb3 : W10.cell? ⟨g10, 3, none⟩ = some (.slice none 0 0) := (blk_cell H1010.out 3).trans rfl; have pb4 : W10.cell? ⟨g10, 4, none⟩ = some (.slice none 0 0) := (blk_cell H1010.out 4).trans rfl; have pb5 : W10.cell? ⟨g10, 5, none⟩ = some (.slice none 0 0) := (blk_cell H1010.out 5).trans rfl; have pb6 : W10.cell? ⟨g10, 6, none⟩ = some (.slice none 0 0) := (blk_cell H1010.out 6).trans rfl)
              refine hK.out _ _ ?_ (fun hHeld => ?_)
              · (try dsimp only); go_keep
              clear hK K
              (try simp only [Act.put, List.setIfInBounds_toArray, List.set_cons_zero, List.set_cons_succ])
              refine wpAnyH_take (i := 10) (oi := ⟨some 76, _, _, _, _, _⟩) (v := ?_) rfl (by kernel_rfl) (by kernel_rfl) (by kernel_rfl) (fun _ _ _ h => h) (Or.inl ⟨by rfl, ?_⟩) (by assumption) ?_
              rotate_left
              · (intro wz hSw; (try dsimp only at hSw); first | (go_simp; done) | (go_simp; with_reducible rfl))
              (try simp only [Act.put, List.setIfInBounds_toArray, List.set_cons_zero, List.set_cons_succ])
              refine wpAnyH_take (i := 11) (oi := ⟨some 77, _, _, _, _, _⟩) (v := undef) rfl (by kernel_rfl) (by kernel_rfl) (by kernel_rfl) (fun _ _ _ h => h) (Or.inr ⟨by rfl, rfl⟩) (by assumption) ?_
              (try simp only [Act.put, List.setIfInBounds_toArray, List.set_cons_zero, List.set_cons_succ])
              refine wpAnyH_take (i := 12) (oi := ⟨some 78, _, _, _, _, _⟩) (v := undef) rfl (by kernel_rfl) (by kernel_rfl) (by kernel_rfl) (fun _ _ _ h => h) (Or.inr ⟨by rfl, rfl⟩) (by assumption) ?_
              (try simp only [Act.put, List.setIfInBounds_toArray, List.set_cons_zero, List.set_cons_succ])
              refine wpAnyH_take (i := 13) (oi := ⟨some 79, _, _, _, _, _⟩) (v := undef) rfl (by kernel_rfl) (by kernel_rfl) (by kernel_rfl) (fun _ _ _ h => h) (Or.inr ⟨by rfl, rfl⟩) (by assumption) ?_
              (try simp only [Act.put, List.setIfInBounds_toArray, List.set_cons_zero, List.set_cons_succ])
              refine wpAnyH_take (i := 14) (oi := ⟨some 80, _, _, _, _, _⟩) (v := undef) rfl (by kernel_rfl) (by kernel_rfl) (by kernel_rfl) (fun _ _ _ h => h) (Or.inr ⟨by rfl, rfl⟩) (by assumption) ?_
              (try simp only [Act.put, List.setIfInBounds_toArray, List.set_cons_zero, List.set_cons_succ])
              refine wpAnyH_take (i := 15) (oi := ⟨some 81, _, _, _, _, _⟩) (v := undef) rfl (by kernel_rfl) (by kernel_rfl) (by kernel_rfl) (fun _ _ _ h => h) (Or.inr ⟨by rfl, rfl⟩) (by assumption) ?_
              (try simp only [Act.put, List.setIfInBounds_toArray, List.set_cons_zero, List.set_cons_succ])
              refine wpAnyH_take (i := 16) (oi := ⟨some 82, _, _, _, _, _⟩) (v := ?_) rfl (by kernel_rfl) (by kernel_rfl) (by kernel_rfl) (fun _ _ _ h => h) (Or.inl ⟨by rfl, ?_⟩) (by assumption) ?_
              rotate_left
              · (intro wz hSw; (try dsimp only at hSw); first | (go_simp; done) | (go_simp; with_reducible rfl))
              (try simp only [Act.put, List.setIfInBounds_toArray, List.set_cons_zero, List.set_cons_succ])
              refine wpAnyH_take (i := 17) (oi := ⟨some 83, _, _, _, _, _⟩) (v := ?_) rfl (by kernel_rfl) (by kernel_rfl) (by kernel_rfl) (fun _ _ _ h => h) (Or.inl ⟨by rfl, ?_⟩) (by assumption) ?_
              rotate_left
              · (intro wz hSw; (try dsimp only at hSw); first | (go_simp; done) | (go_simp; with_reducible rfl))
              (try simp only [Act.put, List.setIfInBounds_toArray, List.set_cons_zero, List.set_cons_succ])
              refine wpAnyH_take (i := 18) (oi := ⟨some 84, _, _, _, _, _⟩) (v := ?_) rfl (by kernel_rfl) (by kernel_rfl) (by kernel_rfl) (fun _ _ _ h => h) (Or.inl ⟨by rfl, ?_⟩) (by assumption) ?_
              rotate_left
              · (intro wz hSw; (try dsimp only at hSw); first | (go_simp; done) | (go_simp; with_reducible rfl))
              (try simp only [Act.put, List.setIfInBounds_toArray, List.set_cons_zero, List.set_cons_succ])
              refine wpAnyH_ready (rs := [19]) (by kernel_rfl) (by simp) ?_
              refine AllReadyH.cons rfl (fun K hK => ?_) AllReadyH.nil
              go_simp
              (go_at_call 39; (with_reducible refine (HQA.out _ (below_then HX10.out.bel HX10.out.bel.size (by repeat (first | exact Below.refl _ _ | refine below_drew1 ?_ | refine below_alloc ?_ _ | refine pw_below_drewN ?_ _)))).mono ?_); rintro _ W12 ⟨rfl, hB12⟩; have hB12' : Below W10.heap.size W10 W12 := below_step (by repeat (first | exact Below.refl _ _ | refine below_drew1 ?_ | refine below_alloc ?_ _ | refine pw_below_drewN ?_ _)) hB12; have HX12 := Aside0.mk (HX10.out.below hB12'); have H1012 := Aside0.mk (blk_of H1010.out hB12'); clear hB12 hB12'; have z7 : W12.cell? ⟨w.heap.size, 7, none⟩ = some (.int .u16 m) := (blk_cell HX12.out.b2 7).trans (by rw [HCA.out]; rfl); have z8 : W12.cell? ⟨w.heap.size, 8, none⟩ = some (.int .i64 lv) := (blk_cell HX12.out.b2 8).trans (by rw [HCA.out]; rfl); have z9 : W12.cell? ⟨w.heap.size, 9, none⟩ = some (.slice A9 l9.length c9) := (blk_cell HX12.out.b2 9).trans (by rw [HCA.out]; rfl); have z10 : W12.cell? ⟨w.heap.size, 10, none⟩ = some (.int .i64 gt) := (blk_cell HX12.out.b2 10).trans (by rw [HCA.out]; rfl); have z11 : W12.cell? ⟨w.heap.size, 11, none⟩ = some (.string gd) := (blk_cell HX12.out.b2 11).trans (by rw [HCA.out]; rfl); have z12 : W12.cell? ⟨w.heap.size, 12, none⟩ = some (.int .i64 pg) := (blk_cell HX12.out.b2 12).trans (by rw [HCA.out]; rfl); have z13 : W12.cell? ⟨w.heap.size, 13, none⟩ = some (.int .i64 ins) := (blk_cell HX12.out.b2 13).trans (by rw [HCA.out]; rfl); have z14 : W12.cell? ⟨w.heap.size, 14, none⟩ = some (.bool false) := (blk_cell HX12.out.b2 14).trans (by rw [HCA.out]; rfl); have z15 : W12.cell? ⟨w.heap.size, 15, none⟩ = some (.string real) := (blk_cell HX12.out.b2 15).trans (by rw [HCA.out]; rfl); have zb0 : W12.cell? ⟨g10, 0, none⟩ = some (.string f0) := (blk_cell H1012.out 0).trans rfl; have zb1 : W12.cell? ⟨g10, 1, none⟩ = some (.bool true) := (blk_cell H1012.out 1).trans rfl; have zb2 : W12.cell? ⟨g10, 2, none⟩ = some (.bool false) := (blk_cell H1012.out 2).trans rfl; have zb3 : W12.cell? ⟨g10, 3, none⟩ = some (.slice none 0 0) := (blk_cell H1012.out 3).trans rfl; have zb4 : W12.cell? ⟨g10, 4, none⟩ = some (.slice none 0 0) := (blk_cell H1012.out 4).trans rfl; have zb5 : W12.cell? ⟨g10, 5, none⟩ = some (.slice none 0 0) := (blk_cell H1012.out 5).trans rfl; have zb6 : W12.cell? ⟨g10, 6, none⟩ = some (.slice none 0 0) := (blk_cell H1012.out 6).trans rfl)
              refine hK.out _ _ ?_ (fun hHeld => ?_)
              · (try dsimp only); go_keep
              clear hK K
              (try simp only [Act.put, List.setIfInBounds_toArray, List.set_cons_zero, List.set_cons_succ])
              refine wpAnyH_take (i := 20) (oi := ⟨some 86, _, _, _, _, _⟩) (v := ?_) rfl (by kernel_rfl) (by kernel_rfl) (by kernel_rfl) (fun _ _ _ h => h) (Or.inl ⟨by rfl, ?_⟩) (by assumption) ?_
              rotate_left
              · (intro wz hSw; (try dsimp only at hSw); first | (go_simp; done) | (go_simp; with_reducible rfl))
              (try simp only [Act.put, List.setIfInBounds_toArray, List.set_cons_zero, List.set_cons_succ])
              refine wpAnyH_take (i := 21) (oi := ⟨some 6, _, _, _, _, _⟩) (v := ?_) rfl (by kernel_rfl) (by kernel_rfl) (by kernel_rfl) (fun _ _ _ h => h) (Or.inl ⟨by rfl, ?_⟩) (by assumption) ?_
              rotate_left
              · (intro wz hSw; (try dsimp only at hSw); first | (go_simp; done) | (go_simp; with_reducible rfl))
              (try simp only [Act.put, List.setIfInBounds_toArray, List.set_cons_zero, List.set_cons_succ])
              refine wpAnyH_done (by kernel_rfl) ?_ _
              go_wp2
              go_ret
              exact ⟨by first | rfl | simp, HX12.out.bel⟩
end Go.Proofs.YtbkhkdadipigfaaDoor.PolMore