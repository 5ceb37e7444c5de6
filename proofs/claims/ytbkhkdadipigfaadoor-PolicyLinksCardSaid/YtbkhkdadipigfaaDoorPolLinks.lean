/- The law PolicyLinks answers true: the walk. No condition but that its arguments lie in memory as told. -/
import Derived.Test.YtbkhkdadipigfaaDoorApSrc
import Derived.Test.YtbkhkdadipigfaaDoorBlk
import Derived.Test.YtbkhkdadipigfaaDoorQx6
import Derived.Test.YtbkhkdadipigfaaDoorQx4
import Derived.Deep.RegionHeld3
import Derived.Deep.DeepCutAuto
import Derived.Outline
namespace Go.Proofs.YtbkhkdadipigfaaDoor.PolLinks
open Go.RowKit Go.Proofs Go.Proofs.YtbkhkdadipigfaaDoor.Q Go.Proofs.YtbkhkdadipigfaaDoorW.PrintWords Go.Proofs.YtbkhkdadipigfaaDoorW.PrintLast Go.Proofs.YtbkhkdadipigfaaDoorW.PrintMore ApSrc

/-- The argument's cells; those of the namespace in it; those of the link. -/
def cellsA (f0 : ByteArray) (f1 f2 : Bool) (v3 v4 v5 v6 : Value) (m lv : Int) (v9 : Value) (gt : Int) (gd : ByteArray) (pg ins : Int) (first : Bool) (real name tgt : ByteArray) : Array Value :=
  #[.string f0, .bool f1, .bool f2, v3, v4, v5, v6, .int .u16 m, .int .i64 lv, v9, .int .i64 gt, .string gd, .int .i64 pg, .int .i64 ins, .bool first, .string real, .string name, .string tgt]
/-- What stays while the law runs: two boxes of its own. -/
structure Boxes (w W : World) (g2 g3 : Nat) (ca cl : Array Value) : Prop where
  b2 : W.heap[g2]? = some (.cells ca 46 (0, 0))
  b3 : W.heap[g3]? = some (.cells cl 48 (0, 0))
  e2 : w.heap.size ≤ g2
  e3 : w.heap.size ≤ g3
  bel : Below w.heap.size w W
theorem blk_of {w w1 : World} {g t : Nat} {cs : Array Value} (h : w.heap[g]? = some (.cells cs t (0, 0))) (hb : Below w.heap.size w w1) : w1.heap[g]? = some (.cells cs t (0, 0)) := by
  have : g < w.heap.size := (Array.getElem?_eq_some_iff.1 h).1
  exact (hb.block g this).trans h
theorem Boxes.below {w W W1 : World} {g2 g3 : Nat} {ca cl : Array Value} (h : Boxes w W g2 g3 ca cl) (hb : Below W.heap.size W W1) : Boxes w W1 g2 g3 ca cl :=
  ⟨blk_of h.b2 hb, blk_of h.b3 hb, h.e2, h.e3, below_then h.bel h.bel.size hb⟩
theorem Boxes.start (w : World) (ca cl : Array Value) : Boxes w ((w.alloc (.cells ca 46)).alloc (.cells cl 48)) w.heap.size (w.heap.size + 1) ca cl := by
  have h1 : Below w.heap.size w (w.alloc (.cells ca 46)) := below_alloc (Below.refl _ _) _
  have h2 := heap_alloc_new (w.alloc (.cells ca 46)) (.cells cl 48)
  rw [show (w.alloc (.cells ca 46)).heap.size = w.heap.size + 1 from by simp] at h2
  exact ⟨blk_of (heap_alloc_new w _) (below_alloc (Below.refl _ _) _), h2, Nat.le_refl _, Nat.le_succ _, below_alloc h1 _⟩
theorem Boxes.set {w W : World} {g2 g3 : Nat} {ca cl : Array Value} (h : Boxes w W g2 g3 ca cl) {g : Nat} (hg : w.heap.size ≤ g) (n2 : g ≠ g2) (n3 : g ≠ g3) (j : Nat) (u : Value) : Boxes w (W.setCell ⟨g, j, none⟩ u) g2 g3 ca cl :=
  ⟨(Below.heap_setCell W ⟨g, j, none⟩ u g2 n2.symm).trans h.b2, (Below.heap_setCell W ⟨g, j, none⟩ u g3 n3.symm).trans h.b3, h.e2, h.e3, h.bel.setCell (p := ⟨g, j, none⟩) hg u⟩
theorem info48 : (Tryd.prog.info? 48).map (fun i => (i.zero, i.size, i.bytes)) = some (some (.agg #[.string ⟨#[]⟩, .slice none 0 0, .bool false]), 3, 48) := by kernel_rfl
theorem blk1 (w : World) (cs : Array Value) (t : TypeId) : (w.alloc (.cells cs t)).drew.heap[w.heap.size]? = some (.cells cs t (0, 0)) := heap_alloc_new w _
theorem blk2 (w : World) (o : Obj) (cs : Array Value) (t : TypeId) : ((w.alloc o).drew.alloc (.cells cs t)).drew.heap[w.heap.size + 1]? = some (.cells cs t (0, 0)) := by
  have h := blk1 (w.alloc o).drew cs t
  rw [show (w.alloc o).drew.heap.size = w.heap.size + 1 from by simp] at h
  exact h
theorem blk3 (w : World) (cs : Array Value) (t : TypeId) (o : Obj) : ((w.alloc (.cells cs t)).drew.alloc o).drew.heap[w.heap.size]? = some (.cells cs t (0, 0)) := blk_of (blk1 w cs t) (below_drew1 (below_alloc (Below.refl _ _) _))
theorem own_zero {W : World} {base gE : Nat} (h : W.heap[gE]? = some (.cells #[] 48 (0, 0))) (hb : base ≤ gE) : W.ownsRow base 48 3 (.slice (some ⟨gE, 0, none⟩) 0 0) 0 [] :=
  ⟨rfl, .inr ⟨gE, 0, #[], rfl, hb, h, Nat.le_refl _, Nat.zero_le _, rfl, rfl⟩⟩
theorem gateR {P : Program} {ops : Array Oper} {o : Oper} {ac : Act} {w : World} {K : Act → World → Prop} {Q : Exit → Act → World → Prop} {E : Prop} {N : Tmp} (_h : o.dst = some N) (k : if Region.wanted o (yielded ops ac.tmps) = true then Oper.wp P o ac w K Q else E) : if Region.wanted o (yielded ops ac.tmps) = true then Oper.wp P o ac w K Q else E := k
section
variable {ops : Array Oper} {o : Oper} {ac : Act} {K : Act → World → Prop} {Q : Exit → Act → World → Prop} {E : Prop} {Wl Wc : World}
theorem step22 (hgd : o.guard = none) (ho : o.op = .call { callee := .builtin .append, args := #[.tmp 18, .tmp 21], argTypes := #[39, 39] }) (hB : Below Wl.heap.size Wl Wc) {gE : Nat} (hE : Wc.heap[gE]? = some (.cells #[] 48 (0, 0))) (hge : Wl.heap.size ≤ gE)
    {A : Option Addr} {l c : Nat} {inner : List Value} (hs : ac.eval (.tmp 18) = .slice (some ⟨gE, 0, none⟩) 0 0) (hx : ac.eval (.tmp 21) = .slice A l c) (hn : News Wl A l inner) (hl : inner.length = l * 3) (h40 : l ≤ 40)
    (hK : ∀ v' w', w'.ownsRow Wl.heap.size 48 3 v' l inner → Below Wl.heap.size Wl w' → Wc.grownBy w' (some gE) → K (ac.put o.dst v') w') : if Region.wanted o (yielded ops ac.tmps) = true then Oper.wp Tryd.prog o ac Wc K Q else E := by
  refine step_src hgd (.tmp 18) (.tmp 21) 39 ho Wl.heap.size 48 _ 3 48 Tryd.underlying39 info48 rfl (by decide) _ 0 [] hs (own_zero hE hge) A l c inner hx hl (hn.move hB) (by unfold maxLen; omega) (by omega) hB.size ?_
  intro v' w' h1 h2 _
  rw [Nat.zero_add, List.nil_append] at h1
  exact hK v' w' h1 (hB.grown h2 hB.size (fun k hk => by simp [Value.ownBlock] at hk; omega)) h2
theorem step25 (hgd : o.guard = none) (ho : o.op = .call { callee := .builtin .append, args := #[.tmp 22, .tmp 24], argTypes := #[39, 39] }) {w1 : World} {v1 : Value} {l : Nat} {inner : List Value} (hO : w1.ownsRow Wl.heap.size 48 3 v1 l inner) (hB1 : Below Wl.heap.size Wl w1) (hB : Below w1.heap.size w1 Wc)
    {gB : Nat} {c0 c1 c2 : Value} (hE : Wc.heap[gB]? = some (.cells #[c0, c1, c2] 48 (0, 0))) (hone : c0.oneCell' = true ∧ c1.oneCell' = true ∧ c2.oneCell' = true) (hs : ac.eval (.tmp 22) = v1) (hx : ac.eval (.tmp 24) = .slice (some ⟨gB, 0, none⟩) 1 1) (h40 : l ≤ 40)
    (hK : ∀ v' w', w'.ownsRow Wl.heap.size 48 3 v' (l + 1) (inner ++ [c0, c1, c2]) → Below Wl.heap.size Wl w' → K (ac.put o.dst v') w') : if Region.wanted o (yielded ops ac.tmps) = true then Oper.wp Tryd.prog o ac Wc K Q else E := by
  have hO2 := own_move hO (fun k hk => hB.block k (own_lt hO k hk))
  have hBB := below_then hB1 hB1.size hB
  refine step_src hgd (.tmp 22) (.tmp 24) 39 ho Wl.heap.size 48 _ 3 48 Tryd.underlying39 info48 rfl (by decide) _ l inner hs hO2 (some ⟨gB, 0, none⟩) 1 1 [c0, c1, c2] hx rfl ⟨fun e => (by cases e), fun ad e j u hu => ?_, fun u hu => ?_⟩ (by unfold maxLen; omega) (by omega) hBB.size ?_
  · obtain rfl := Option.some.inj e
    have h0 := blk_cell hE
    rcases j with _ | _ | _ | j
    · exact (h0 0).trans (by simpa using hu)
    · exact (h0 1).trans (by simpa using hu)
    · exact (h0 2).trans (by simpa using hu)
    · simp at hu
  · simp at hu
    rcases hu with rfl | rfl | rfl
    · exact hone.1
    · exact hone.2.1
    · exact hone.2.2
  · intro v' w' h1 h2 _
    exact hK v' w' h1 (hBB.grown h2 hBB.size (own_base hO2))
end
set_option maxRecDepth 100000 in
set_option maxHeartbeats 2000000 in
theorem links_in (k : Nat) (f0 : ByteArray) (f1 f2 : Bool) (A3 : Option Addr) (c3 : Nat) (l3 : List ByteArray) (A4 : Option Addr) (c4 : Nat) (l4 : List ByteArray) (A5 : Option Addr) (c5 : Nat) (l5 : List ByteArray) (A6 : Option Addr) (c6 : Nat) (l6 : List S48)
    (m lv : Int) (A9 : Option Addr) (c9 : Nat) (l9 : List ByteArray) (gt : Int) (gd : ByteArray) (pg ins : Int) (first : Bool) (real name tgt : ByteArray) (x : S48) (Ax : Option Addr) (cx : Nat) (w : World) (hsh : SH w)
    (h3 : Kd.C Kd.string w A3 l3.length l3) (e3 : l3.length ≤ c3) (h4 : Kd.C Kd.string w A4 l4.length l4) (e4 : l4.length ≤ c4) (h5 : Kd.C Kd.string w A5 l5.length l5) (e5 : l5.length ≤ c5) (h6 : Kd.C k48 w A6 l6.length l6) (e6 : l6.length ≤ c6) (h9 : Kd.C Kd.string w A9 l9.length l9) (e9 : l9.length ≤ c9) (hx : Kd.C Kd.string w Ax x.f1.length x.f1) (ex : x.f1.length ≤ cx)
    (bg tb : Bool) (a b : Int) (hg : messuagelaw20_great.f k f0 f1 f2 l3 l4 l5 l6 m lv l9 gt gd pg ins first real name tgt = some bg) (hl : bg = false → l6.length ≤ 40) (ha : bg = false → policy_Link.f k f0 f1 f2 l3 l4 l5 l6 tgt name = some a) (hb : bg = false → x.f1.length ≤ 60 → policy_Link.f k f0 f1 f2 l3 l4 l5 (l6 ++ [x]) tgt name = some b) (ht : x.f1.length ≤ 60 → policy_Through.f k x.f0 x.f1 x.f2 name = some tb) (hv : messuagelaw20_alive.f k = some true)
    (q1 : 0 ≤ a → b = a) (q2 : a < 0 → x.f0.toList = tgt.toList → tb = true → b = l6.length) (q3 : a < 0 → (x.f0.toList ≠ tgt.toList ∨ tb = false) → b = -1) :
    Calls Tryd.prog 10 #[.agg (cellsA f0 f1 f2 (.slice A3 l3.length c3) (.slice A4 l4.length c4) (.slice A5 l5.length c5) (.slice A6 l6.length c6) m lv (.slice A9 l9.length c9) gt gd pg ins first real name tgt), .agg #[.string x.f0, .slice Ax x.f1.length cx, .bool x.f2]] w fun e w' => e = .returned (.bool true) ∧ Below w.heap.size w w' := by
  obtain ⟨ca, hca⟩ : ∃ ca, ca = cellsA f0 f1 f2 (.slice A3 l3.length c3) (.slice A4 l4.length c4) (.slice A5 l5.length c5) (.slice A6 l6.length c6) m lv (.slice A9 l9.length c9) gt gd pg ins first real name tgt := ⟨_, rfl⟩
  obtain ⟨W, hW⟩ : ∃ W, W = (w.alloc (.cells ca 46)).alloc (.cells #[.string x.f0, .slice Ax x.f1.length cx, .bool x.f2] 48) := ⟨_, rfl⟩
  have HBX := Aside0.mk (show Boxes w W w.heap.size (w.heap.size + 1) ca #[.string x.f0, .slice Ax x.f1.length cx, .bool x.f2] from hW ▸ Boxes.start w _ _)
  have HB := HBX.out.bel
  have HG := messuagelaw20_great.calls k f0 f1 f2 (fun k_ => k_ < W.heap.size) A3 c3 l3 (fun k_ => k_ < W.heap.size) A4 c4 l4 (fun k_ => k_ < W.heap.size) A5 c5 l5 (fun k_ => k_ < W.heap.size) A6 c6 l6 m lv A9 c9 l9 gt gd pg ins first real name tgt bg W (Kd.V_mk e3 (Kd.C_F Kd.heap_string (Kd.C_below h3 HB))) (Kd.V_mk e4 (Kd.C_F Kd.heap_string (Kd.C_below h4 HB))) (Kd.V_mk e5 (Kd.C_F Kd.heap_string (Kd.C_below h5 HB))) (Kd.V_mk e6 (Kd.C_F k48_heap (Kd.C_below h6 HB))) (Kd.C_below h9 HB) e9 hg
  rw [show (#[.string f0, .bool f1, .bool f2, .slice A3 l3.length c3, .slice A4 l4.length c4, .slice A5 l5.length c5, .slice A6 l6.length c6, .int .u16 m, .int .i64 lv, .slice A9 l9.length c9, .int .i64 gt, .string gd, .int .i64 pg, .int .i64 ins, .bool first, .string real, .string name, .string tgt] : Array Value) = ca from hca.symm] at HG
  rw [← hca]
  have hsz : ca.size = 18 := by rw [hca]; rfl
  have HCA := Aside0.mk hca
  have HSH := Aside0.mk hsh
  have H3 := Aside0.mk (And.intro h3 e3)
  have H4 := Aside0.mk (And.intro h4 e4)
  have H5 := Aside0.mk (And.intro h5 e5)
  have H6 := Aside0.mk (And.intro h6 e6)
  have HX := Aside0.mk (And.intro hx ex)
  have HL := Aside0.mk hl
  have HA := Aside0.mk ha
  have HBB := Aside0.mk hb
  have HT := Aside0.mk ht
  have HV := Aside0.mk hv
  have Q1 := Aside0.mk q1
  have Q2 := Aside0.mk q2
  have Q3 := Aside0.mk q3
  have HWE := Aside0.mk hW
  have HGG := Aside0.mk HG
  have HSZ := Aside0.mk (show (Tryd.prog.info? 46).map (·.size) = some ca.size from by rw [hsz]; kernel_rfl)
  clear h3 e3 h4 e4 h5 e5 h6 e6 h9 e9 hx ex hl ha hb ht hv q1 q2 q3 hg hW hsh HB HG hsz hca
  cases bg with
  | true =>
    go_enter Tryd.func10, Tryd.ntmps10
    go_wp2_with (first
      | ((with_reducible refine gate_dst (N := 8) rfl ?_); (rw [← HWE.out]); refine Blk.load_block rfl rfl rfl HBX.out.b2 Tryd.underlying46 rfl HSZ.out ?_)
      | (go_at_call 40; (with_reducible refine HGG.out.mono ?_); rintro _ W1 ⟨rfl, hB1⟩; have HB1 := Aside0.mk hB1; clear hB1))
    go_ret
    exact ⟨rfl, (HBX.out.below HB1.out).bel⟩
  | false =>
    have hl40 := HL.out rfl
    by_cases h60 : 60 < x.f1.length
    · go_enter Tryd.func10, Tryd.ntmps10
      go_wp2_with (first
        | ((with_reducible refine gate_dst (N := 8) rfl ?_); (rw [← HWE.out]); refine Blk.load_block rfl rfl rfl HBX.out.b2 Tryd.underlying46 rfl HSZ.out ?_)
        | (go_at_call 40; (with_reducible refine HGG.out.mono ?_); rintro _ W1 ⟨rfl, hB1⟩; have HBX1 := Aside0.mk (HBX.out.below hB1); clear hB1; have x1 : W1.cell? ⟨w.heap.size + 1, 1, none⟩ = some (.slice Ax x.f1.length cx) := (blk_cell HBX1.out.b3 1).trans rfl))
      go_ret
      exact ⟨rfl, HBX1.out.bel⟩
    · go_enter Tryd.func10, Tryd.ntmps10
      go_wp2_with (first
        | ((with_reducible refine gate_dst (N := 8) rfl ?_); (rw [← HWE.out]); refine Blk.load_block rfl rfl rfl HBX.out.b2 Tryd.underlying46 rfl HSZ.out ?_)
        | (go_at_call 40; (with_reducible refine HGG.out.mono ?_); rintro _ W1 ⟨rfl, hB1⟩; have HBX1 := Aside0.mk (HBX.out.below hB1); clear hB1; have x1 : W1.cell? ⟨w.heap.size + 1, 1, none⟩ = some (.slice Ax x.f1.length cx) := (blk_cell HBX1.out.b3 1).trans rfl; have y0 : W1.cell? ⟨w.heap.size, 0, none⟩ = some (.string f0) := (blk_cell HBX1.out.b2 0).trans (by rw [HCA.out]; rfl); have y1 : W1.cell? ⟨w.heap.size, 1, none⟩ = some (.bool f1) := (blk_cell HBX1.out.b2 1).trans (by rw [HCA.out]; rfl); have y2 : W1.cell? ⟨w.heap.size, 2, none⟩ = some (.bool f2) := (blk_cell HBX1.out.b2 2).trans (by rw [HCA.out]; rfl); have y3 : W1.cell? ⟨w.heap.size, 3, none⟩ = some (.slice A3 l3.length c3) := (blk_cell HBX1.out.b2 3).trans (by rw [HCA.out]; rfl); have y4 : W1.cell? ⟨w.heap.size, 4, none⟩ = some (.slice A4 l4.length c4) := (blk_cell HBX1.out.b2 4).trans (by rw [HCA.out]; rfl); have y5 : W1.cell? ⟨w.heap.size, 5, none⟩ = some (.slice A5 l5.length c5) := (blk_cell HBX1.out.b2 5).trans (by rw [HCA.out]; rfl); have y6 : W1.cell? ⟨w.heap.size, 6, none⟩ = some (.slice A6 l6.length c6) := (blk_cell HBX1.out.b2 6).trans (by rw [HCA.out]; rfl)))
      have hB5 := heap_alloc_new W1 (.cells #[.string f0, .bool f1, .bool f2, .slice A3 l3.length c3, .slice A4 l4.length c4, .slice A5 l5.length c5, .slice A6 l6.length c6] 41)
      have hBX2 := HBX1.out.below (below_alloc (Below.refl _ _) (.cells #[.string f0, .bool f1, .bool f2, .slice A3 l3.length c3, .slice A4 l4.length c4, .slice A5 l5.length c5, .slice A6 l6.length c6] 41))
      have he5 : w.heap.size ≤ W1.heap.size := HBX1.out.bel.size
      generalize W1.alloc (.cells #[.string f0, .bool f1, .bool f2, .slice A3 l3.length c3, .slice A4 l4.length c4, .slice A5 l5.length c5, .slice A6 l6.length c6] 41) = W2 at *
      generalize W1.heap.size = g5 at *
      have HBX2 := Aside0.mk hBX2
      have HB5 := Aside0.mk hB5
      clear hB5 hBX2 x1 y0 y1 y2 y3 y4 y5 y6
      have n1 : g5 ≠ w.heap.size := fun e => by
        have h := HB5.out
        rw [e, HBX2.out.b2] at h
        injection (Option.some.inj h) with _ h _
        cases h
      have n2 : g5 ≠ w.heap.size + 1 := fun e => by
        have h := HB5.out
        rw [e, HBX2.out.b3] at h
        injection (Option.some.inj h) with _ h _
        cases h
      obtain ⟨inner, hr6, hn6⟩ := news_of H6.out.1
      have HR6 := Aside0.mk hr6
      have HN6 := Aside0.mk (hn6.move HBX2.out.bel)
      have HI6 := Aside0.mk (show inner.length = l6.length * 3 from hr6.1)
      clear hr6 hn6
      go_cut [] (fun wx => ∃ v6 : Value, Aside0 (wx.ownsRow W2.heap.size 48 3 v6 (l6.length + 1) (inner ++ [.string x.f0, .slice Ax x.f1.length cx, .bool x.f2])) ∧ Aside0 (Boxes w wx w.heap.size (w.heap.size + 1) ca #[.string x.f0, .slice Ax x.f1.length cx, .bool x.f2]) ∧ Aside0 (wx.heap[g5]? = some (.cells #[.string f0, .bool f1, .bool f2, .slice A3 l3.length c3, .slice A4 l4.length c4, .slice A5 l5.length c5, v6] 41 (0, 0))))
      case first =>
        have x0 : W2.cell? ⟨w.heap.size + 1, 0, none⟩ = some (.string x.f0) := (blk_cell HBX2.out.b3 0).trans rfl
        have x1 : W2.cell? ⟨w.heap.size + 1, 1, none⟩ = some (.slice Ax x.f1.length cx) := (blk_cell HBX2.out.b3 1).trans rfl
        have x2 : W2.cell? ⟨w.heap.size + 1, 2, none⟩ = some (.bool x.f2) := (blk_cell HBX2.out.b3 2).trans rfl
        have y6 : W2.cell? ⟨w.heap.size, 6, none⟩ = some (.slice A6 l6.length c6) := (blk_cell HBX2.out.b2 6).trans (by rw [HCA.out]; rfl)
        go_region_held3 (fun w' => w'.cell? ⟨w.heap.size + 1, 0, none⟩ = some (.string x.f0) ∧ w'.cell? ⟨w.heap.size + 1, 1, none⟩ = some (.slice Ax x.f1.length cx) ∧ w'.cell? ⟨w.heap.size + 1, 2, none⟩ = some (.bool x.f2) ∧ w'.cell? ⟨w.heap.size, 6, none⟩ = some (.slice A6 l6.length c6)) (go_keep) (first
          | (refine gateR (N := 22) rfl ?_; (refine step22 (by rfl) (by rfl) (Wl := W2) (by repeat (first | exact Below.refl _ _ | refine below_drew1 ?_ | refine below_alloc ?_ _ | refine pw_below_drewN ?_ _)) (gE := W2.heap.size) (by exact blk1 _ _ _) (by omega) (by rfl) (by rfl) HN6.out HI6.out hl40 ?_); intro v3 w3 hO3 hB3 hG3; have HBX3 := Aside0.mk (HBX2.out.below hB3); have HB3 := Aside0.mk hB3; have HO3 := Aside0.mk hO3; have x0' : w3.cell? ⟨w.heap.size + 1, 0, none⟩ = some (.string x.f0) := (blk_cell HBX3.out.b3 0).trans rfl; have x1' : w3.cell? ⟨w.heap.size + 1, 1, none⟩ = some (.slice Ax x.f1.length cx) := (blk_cell HBX3.out.b3 1).trans rfl; have x2' : w3.cell? ⟨w.heap.size + 1, 2, none⟩ = some (.bool x.f2) := (blk_cell HBX3.out.b3 2).trans rfl; have y6' : w3.cell? ⟨w.heap.size, 6, none⟩ = some (.slice A6 l6.length c6) := (blk_cell HBX3.out.b2 6).trans (by rw [HCA.out]; rfl); have hgB := Nat.le_refl 0; clear hO3 hB3 hG3)
          | (refine gateR (N := 22) rfl ?_; (refine step22 (by rfl) (by rfl) (Wl := W2) (by repeat (first | exact Below.refl _ _ | refine below_drew1 ?_ | refine below_alloc ?_ _ | refine pw_below_drewN ?_ _)) (gE := W2.heap.size) (by exact blk3 _ _ _ _) (by omega) (by rfl) (by rfl) HN6.out HI6.out hl40 ?_); intro v3 w3 hO3 hB3 hG3; have HBX3 := Aside0.mk (HBX2.out.below hB3); have HB3 := Aside0.mk hB3; have HO3 := Aside0.mk hO3; have x0' : w3.cell? ⟨w.heap.size + 1, 0, none⟩ = some (.string x.f0) := (blk_cell HBX3.out.b3 0).trans rfl; have x1' : w3.cell? ⟨w.heap.size + 1, 1, none⟩ = some (.slice Ax x.f1.length cx) := (blk_cell HBX3.out.b3 1).trans rfl; have x2' : w3.cell? ⟨w.heap.size + 1, 2, none⟩ = some (.bool x.f2) := (blk_cell HBX3.out.b3 2).trans rfl; have y6' : w3.cell? ⟨w.heap.size, 6, none⟩ = some (.slice A6 l6.length c6) := (blk_cell HBX3.out.b2 6).trans (by rw [HCA.out]; rfl); have HL3 := Aside0.mk (show w3.heap[W2.heap.size + 1]? = some (.cells #[.string x.f0, .slice Ax x.f1.length cx, .bool x.f2] 48 (0, 0)) from (hG3.block _ (Array.getElem?_eq_some_iff.1 (blk2 W2 _ _ _)).1 (by simp)).trans (blk2 W2 _ _ _)); clear hO3 hB3 hG3)
          | (refine gateR (N := 22) rfl ?_; (refine step22 (by rfl) (by rfl) (Wl := W2) (by repeat (first | exact Below.refl _ _ | refine below_drew1 ?_ | refine below_alloc ?_ _ | refine pw_below_drewN ?_ _)) (gE := W2.heap.size + 1) (by exact blk2 _ _ _ _) (by omega) (by rfl) (by rfl) HN6.out HI6.out hl40 ?_); intro v3 w3 hO3 hB3 hG3; have HBX3 := Aside0.mk (HBX2.out.below hB3); have HB3 := Aside0.mk hB3; have HO3 := Aside0.mk hO3; have x0' : w3.cell? ⟨w.heap.size + 1, 0, none⟩ = some (.string x.f0) := (blk_cell HBX3.out.b3 0).trans rfl; have x1' : w3.cell? ⟨w.heap.size + 1, 1, none⟩ = some (.slice Ax x.f1.length cx) := (blk_cell HBX3.out.b3 1).trans rfl; have x2' : w3.cell? ⟨w.heap.size + 1, 2, none⟩ = some (.bool x.f2) := (blk_cell HBX3.out.b3 2).trans rfl; have y6' : w3.cell? ⟨w.heap.size, 6, none⟩ = some (.slice A6 l6.length c6) := (blk_cell HBX3.out.b2 6).trans (by rw [HCA.out]; rfl); have HL3 := Aside0.mk (show w3.heap[W2.heap.size]? = some (.cells #[.string x.f0, .slice Ax x.f1.length cx, .bool x.f2] 48 (0, 0)) from (hG3.block _ (Array.getElem?_eq_some_iff.1 (blk3 W2 _ _ _)).1 (by simp)).trans (blk3 W2 _ _ _)); clear hO3 hB3 hG3)
          | (refine gateR (N := 25) rfl ?_; (refine step25 (by rfl) (by rfl) (Wl := W2) HO3.out HB3.out (by repeat (first | exact Below.refl _ _ | refine below_drew1 ?_ | refine below_alloc ?_ _ | refine pw_below_drewN ?_ _)) (gB := w3.heap.size) (by exact blk1 _ _ _) ⟨rfl, rfl, rfl⟩ (by rfl) (by rfl) hl40 ?_); intro v4 w4 hO4 hB4; obtain ⟨A7, c7, rfl⟩ := own_slice hO4; have HBX4 := Aside0.mk (HBX2.out.below hB4); have HO4 := Aside0.mk hO4; have HB54 := Aside0.mk (blk_of HB5.out hB4); have x0' : w4.cell? ⟨w.heap.size + 1, 0, none⟩ = some (.string x.f0) := (blk_cell HBX4.out.b3 0).trans rfl; have x1' : w4.cell? ⟨w.heap.size + 1, 1, none⟩ = some (.slice Ax x.f1.length cx) := (blk_cell HBX4.out.b3 1).trans rfl; have x2' : w4.cell? ⟨w.heap.size + 1, 2, none⟩ = some (.bool x.f2) := (blk_cell HBX4.out.b3 2).trans rfl; have y6' : w4.cell? ⟨w.heap.size, 6, none⟩ = some (.slice A6 l6.length c6) := (blk_cell HBX4.out.b2 6).trans (by rw [HCA.out]; rfl); have s6 : w4.cell? ⟨g5, 6, none⟩ = some (.slice A6 l6.length c6) := (blk_cell HB54.out 6).trans rfl; have s6f : w4.frozen? ⟨g5, 6, none⟩ = false := blk_frozen HB54.out _; clear hO4 hB4)
          | (refine gateR (N := 25) rfl ?_; (refine step25 (by rfl) (by rfl) (Wl := W2) HO3.out HB3.out (by repeat (first | exact Below.refl _ _ | refine below_drew1 ?_ | refine below_alloc ?_ _ | refine pw_below_drewN ?_ _)) (gB := W2.heap.size + 1) (by exact HL3.out) ⟨rfl, rfl, rfl⟩ (by rfl) (by rfl) hl40 ?_); intro v4 w4 hO4 hB4; obtain ⟨A7, c7, rfl⟩ := own_slice hO4; have HBX4 := Aside0.mk (HBX2.out.below hB4); have HO4 := Aside0.mk hO4; have HB54 := Aside0.mk (blk_of HB5.out hB4); have x0' : w4.cell? ⟨w.heap.size + 1, 0, none⟩ = some (.string x.f0) := (blk_cell HBX4.out.b3 0).trans rfl; have x1' : w4.cell? ⟨w.heap.size + 1, 1, none⟩ = some (.slice Ax x.f1.length cx) := (blk_cell HBX4.out.b3 1).trans rfl; have x2' : w4.cell? ⟨w.heap.size + 1, 2, none⟩ = some (.bool x.f2) := (blk_cell HBX4.out.b3 2).trans rfl; have y6' : w4.cell? ⟨w.heap.size, 6, none⟩ = some (.slice A6 l6.length c6) := (blk_cell HBX4.out.b2 6).trans (by rw [HCA.out]; rfl); have s6 : w4.cell? ⟨g5, 6, none⟩ = some (.slice A6 l6.length c6) := (blk_cell HB54.out 6).trans rfl; have s6f : w4.frozen? ⟨g5, 6, none⟩ = false := blk_frozen HB54.out _; clear hO4 hB4)
          | (refine gateR (N := 25) rfl ?_; (refine step25 (by rfl) (by rfl) (Wl := W2) HO3.out HB3.out (by repeat (first | exact Below.refl _ _ | refine below_drew1 ?_ | refine below_alloc ?_ _ | refine pw_below_drewN ?_ _)) (gB := W2.heap.size) (by exact HL3.out) ⟨rfl, rfl, rfl⟩ (by rfl) (by rfl) hl40 ?_); intro v4 w4 hO4 hB4; obtain ⟨A7, c7, rfl⟩ := own_slice hO4; have HBX4 := Aside0.mk (HBX2.out.below hB4); have HO4 := Aside0.mk hO4; have HB54 := Aside0.mk (blk_of HB5.out hB4); have x0' : w4.cell? ⟨w.heap.size + 1, 0, none⟩ = some (.string x.f0) := (blk_cell HBX4.out.b3 0).trans rfl; have x1' : w4.cell? ⟨w.heap.size + 1, 1, none⟩ = some (.slice Ax x.f1.length cx) := (blk_cell HBX4.out.b3 1).trans rfl; have x2' : w4.cell? ⟨w.heap.size + 1, 2, none⟩ = some (.bool x.f2) := (blk_cell HBX4.out.b3 2).trans rfl; have y6' : w4.cell? ⟨w.heap.size, 6, none⟩ = some (.slice A6 l6.length c6) := (blk_cell HBX4.out.b2 6).trans (by rw [HCA.out]; rfl); have s6 : w4.cell? ⟨g5, 6, none⟩ = some (.slice A6 l6.length c6) := (blk_cell HB54.out 6).trans rfl; have s6f : w4.frozen? ⟨g5, 6, none⟩ = false := blk_frozen HB54.out _; clear hO4 hB4))
        all_goals go_wp2_with (fail)
        all_goals go_meet
        all_goals exact ⟨_, ⟨own_setCell HO4.out (own_ne HO4.out HB54.out (by decide)) _⟩, ⟨HBX4.out.set he5 n1 n2 6 _⟩, ⟨blk_set HB54.out 6 _⟩⟩
      case rest =>
        obtain ⟨v6, HO5, HBX5, HB55⟩ := hcut
        rename World => w5
        obtain ⟨A7, c7, rfl⟩ := own_slice HO5.out
        clear HB5 HN6 HBX1 HBX2
        have HOR : OwnRow (k48.K w) 48 3 w5 W2.heap.size (.slice A7 (l6.length + 1) c7) (l6 ++ [x]) := ⟨inner ++ [.string x.f0, .slice Ax x.f1.length cx, .bool x.f2], by rw [List.length_append, List.length_singleton]; exact HO5.out, HR6.out.snoc (k48_mk w x HX.out.2 HX.out.1) rfl⟩
        obtain ⟨A8, c8, e8, hl8, hr8⟩ := OwnRow.reads HOR
        rw [List.length_append, List.length_singleton] at e8 hl8
        cases e8
        have hC8 : k48.C w5 A7 (l6 ++ [x]).length (l6 ++ [x]) := ReadsRow.imp_ (w := w5) hr8 (Below.refl _ _) (fun p c h => k48.K_below HBX5.out.bel h)
        have HQ1 := Aside0.mk (fun (W : World) (hB : Below w.heap.size w W) => policy_Link.calls k f0 f1 f2 A3 c3 l3 A4 c4 l4 A5 c5 l5 A6 c6 l6 tgt name a W (Kd.C_below H3.out.1 hB) H3.out.2 (Kd.C_below H4.out.1 hB) H4.out.2 (Kd.C_below H5.out.1 hB) H5.out.2 (Kd.C_below H6.out.1 hB) H6.out.2 (HA.out trivial))
        have HQ2 := Aside0.mk (fun (W : World) (hB : Below w.heap.size w W) (hB5 : Below w5.heap.size w5 W) => show Calls Tryd.prog 41 #[.agg #[.string f0, .bool f1, .bool f2, .slice A3 l3.length c3, .slice A4 l4.length c4, .slice A5 l5.length c5, .slice A7 (l6.length + 1) c7], .string tgt, .string name] W _ from by
          have h := policy_Link.calls k f0 f1 f2 A3 c3 l3 A4 c4 l4 A5 c5 l5 A7 c7 (l6 ++ [x]) tgt name b W (Kd.C_below H3.out.1 hB) H3.out.2 (Kd.C_below H4.out.1 hB) H4.out.2 (Kd.C_below H5.out.1 hB) H5.out.2 (Kd.C_below hC8 hB5) (by rw [List.length_append]; exact hl8) (HBB.out trivial (by omega))
          rw [List.length_append, List.length_singleton] at h
          exact h)
        have HQT := Aside0.mk (fun (W : World) (hB : Below w.heap.size w W) => policy_Through.calls k x.f0 Ax cx x.f1 x.f2 name tb W (Kd.C_below HX.out.1 hB) HX.out.2 (HT.out (by omega)))
        have HQA := Aside0.mk (fun (W : World) (hB : Below w.heap.size w W) => messuagelaw20_alive.calls k true W (SH.below HSH.out hB) HV.out)
        clear HOR hr8 hC8 hl8 HO5 HR6
        have y0 : w5.cell? ⟨w.heap.size, 0, none⟩ = some (.string f0) := (blk_cell HBX5.out.b2 0).trans (by rw [HCA.out]; rfl)
        have y1 : w5.cell? ⟨w.heap.size, 1, none⟩ = some (.bool f1) := (blk_cell HBX5.out.b2 1).trans (by rw [HCA.out]; rfl)
        have y2 : w5.cell? ⟨w.heap.size, 2, none⟩ = some (.bool f2) := (blk_cell HBX5.out.b2 2).trans (by rw [HCA.out]; rfl)
        have y3 : w5.cell? ⟨w.heap.size, 3, none⟩ = some (.slice A3 l3.length c3) := (blk_cell HBX5.out.b2 3).trans (by rw [HCA.out]; rfl)
        have y4 : w5.cell? ⟨w.heap.size, 4, none⟩ = some (.slice A4 l4.length c4) := (blk_cell HBX5.out.b2 4).trans (by rw [HCA.out]; rfl)
        have y5 : w5.cell? ⟨w.heap.size, 5, none⟩ = some (.slice A5 l5.length c5) := (blk_cell HBX5.out.b2 5).trans (by rw [HCA.out]; rfl)
        have y6 : w5.cell? ⟨w.heap.size, 6, none⟩ = some (.slice A6 l6.length c6) := (blk_cell HBX5.out.b2 6).trans (by rw [HCA.out]; rfl)
        have y16 : w5.cell? ⟨w.heap.size, 16, none⟩ = some (.string name) := (blk_cell HBX5.out.b2 16).trans (by rw [HCA.out]; rfl)
        have y17 : w5.cell? ⟨w.heap.size, 17, none⟩ = some (.string tgt) := (blk_cell HBX5.out.b2 17).trans (by rw [HCA.out]; rfl)
        have z0 : w5.cell? ⟨g5, 0, none⟩ = some (.string f0) := (blk_cell HB55.out 0).trans rfl
        have z1 : w5.cell? ⟨g5, 1, none⟩ = some (.bool f1) := (blk_cell HB55.out 1).trans rfl
        have z2 : w5.cell? ⟨g5, 2, none⟩ = some (.bool f2) := (blk_cell HB55.out 2).trans rfl
        have z3 : w5.cell? ⟨g5, 3, none⟩ = some (.slice A3 l3.length c3) := (blk_cell HB55.out 3).trans rfl
        have z4 : w5.cell? ⟨g5, 4, none⟩ = some (.slice A4 l4.length c4) := (blk_cell HB55.out 4).trans rfl
        have z5 : w5.cell? ⟨g5, 5, none⟩ = some (.slice A5 l5.length c5) := (blk_cell HB55.out 5).trans rfl
        have z6 : w5.cell? ⟨g5, 6, none⟩ = some (.slice A7 (l6.length + 1) c7) := (blk_cell HB55.out 6).trans rfl
        go_wp2_with (fail)
        go_region_held3 (fun w' => w'.cell? ⟨w.heap.size, 0, none⟩ = some (.string f0) ∧ w'.cell? ⟨w.heap.size, 1, none⟩ = some (.bool f1) ∧ w'.cell? ⟨w.heap.size, 2, none⟩ = some (.bool f2) ∧ w'.cell? ⟨w.heap.size, 3, none⟩ = some (.slice A3 l3.length c3) ∧ w'.cell? ⟨w.heap.size, 4, none⟩ = some (.slice A4 l4.length c4) ∧ w'.cell? ⟨w.heap.size, 5, none⟩ = some (.slice A5 l5.length c5) ∧ w'.cell? ⟨w.heap.size, 6, none⟩ = some (.slice A6 l6.length c6) ∧ w'.cell? ⟨w.heap.size, 16, none⟩ = some (.string name) ∧ w'.cell? ⟨w.heap.size, 17, none⟩ = some (.string tgt) ∧ w'.cell? ⟨g5, 0, none⟩ = some (.string f0) ∧ w'.cell? ⟨g5, 1, none⟩ = some (.bool f1) ∧ w'.cell? ⟨g5, 2, none⟩ = some (.bool f2) ∧ w'.cell? ⟨g5, 3, none⟩ = some (.slice A3 l3.length c3) ∧ w'.cell? ⟨g5, 4, none⟩ = some (.slice A4 l4.length c4) ∧ w'.cell? ⟨g5, 5, none⟩ = some (.slice A5 l5.length c5) ∧ w'.cell? ⟨g5, 6, none⟩ = some (.slice A7 (l6.length + 1) c7)) (go_keep) (first
          | (go_at_call 41; (with_reducible refine (HQ1.out _ (below_then HBX5.out.bel HBX5.out.bel.size (by repeat (first | exact Below.refl _ _ | refine below_drew1 ?_ | refine below_alloc ?_ _ | refine pw_below_drewN ?_ _)))).mono ?_); rintro _ W6 ⟨rfl, hB6⟩; have hB6' : Below w5.heap.size w5 W6 := below_step (by repeat (first | exact Below.refl _ _ | refine below_drew1 ?_ | refine below_alloc ?_ _ | refine pw_below_drewN ?_ _)) hB6; have HB6 := Aside0.mk hB6'; have HBX6 := Aside0.mk (HBX5.out.below hB6'); have HB56 := Aside0.mk (blk_of HB55.out hB6'); clear hB6 hB6'; have py0 : W6.cell? ⟨w.heap.size, 0, none⟩ = some (.string f0) := (blk_cell HBX6.out.b2 0).trans (by rw [HCA.out]; rfl); have py1 : W6.cell? ⟨w.heap.size, 1, none⟩ = some (.bool f1) := (blk_cell HBX6.out.b2 1).trans (by rw [HCA.out]; rfl); have py2 : W6.cell? ⟨w.heap.size, 2, none⟩ = some (.bool f2) := (blk_cell HBX6.out.b2 2).trans (by rw [HCA.out]; rfl); have py3 : W6.cell? ⟨w.heap.size, 3, none⟩ = some (.slice A3 l3.length c3) := (blk_cell HBX6.out.b2 3).trans (by rw [HCA.out]; rfl); have py4 : W6.cell? ⟨w.heap.size, 4, none⟩ = some (.slice A4 l4.length c4) := (blk_cell HBX6.out.b2 4).trans (by rw [HCA.out]; rfl); have py5 : W6.cell? ⟨w.heap.size, 5, none⟩ = some (.slice A5 l5.length c5) := (blk_cell HBX6.out.b2 5).trans (by rw [HCA.out]; rfl); have py6 : W6.cell? ⟨w.heap.size, 6, none⟩ = some (.slice A6 l6.length c6) := (blk_cell HBX6.out.b2 6).trans (by rw [HCA.out]; rfl); have py16 : W6.cell? ⟨w.heap.size, 16, none⟩ = some (.string name) := (blk_cell HBX6.out.b2 16).trans (by rw [HCA.out]; rfl); have py17 : W6.cell? ⟨w.heap.size, 17, none⟩ = some (.string tgt) := (blk_cell HBX6.out.b2 17).trans (by rw [HCA.out]; rfl); have pz0 : W6.cell? ⟨g5, 0, none⟩ = some (.string f0) := (blk_cell HB56.out 0).trans rfl; have pz1 : W6.cell? ⟨g5, 1, none⟩ = some (.bool f1) := (blk_cell HB56.out 1).trans rfl; have pz2 : W6.cell? ⟨g5, 2, none⟩ = some (.bool f2) := (blk_cell HB56.out 2).trans rfl; have pz3 : W6.cell? ⟨g5, 3, none⟩ = some (.slice A3 l3.length c3) := (blk_cell HB56.out 3).trans rfl; have pz4 : W6.cell? ⟨g5, 4, none⟩ = some (.slice A4 l4.length c4) := (blk_cell HB56.out 4).trans rfl; have pz5 : W6.cell? ⟨g5, 5, none⟩ = some (.slice A5 l5.length c5) := (blk_cell HB56.out 5).trans rfl; have pz6 : W6.cell? ⟨g5, 6, none⟩ = some (.slice A7 (l6.length + 1) c7) := (blk_cell HB56.out 6).trans rfl)
          | (go_at_call 41; (with_reducible refine (HQ2.out _ (below_then HBX5.out.bel HBX5.out.bel.size (below_step HB6.out (by repeat (first | exact Below.refl _ _ | refine below_drew1 ?_ | refine below_alloc ?_ _ | refine pw_below_drewN ?_ _)))) (below_step HB6.out (by repeat (first | exact Below.refl _ _ | refine below_drew1 ?_ | refine below_alloc ?_ _ | refine pw_below_drewN ?_ _)))).mono ?_); rintro _ W7 ⟨rfl, hB7⟩; have hB7' : Below w5.heap.size w5 W7 := below_step (below_step HB6.out (by repeat (first | exact Below.refl _ _ | refine below_drew1 ?_ | refine below_alloc ?_ _ | refine pw_below_drewN ?_ _))) hB7; have HB7 := Aside0.mk hB7'; have HBX7 := Aside0.mk (HBX5.out.below hB7'); have HB57 := Aside0.mk (blk_of HB55.out hB7'); clear hB7 hB7'; have qy0 : W7.cell? ⟨w.heap.size, 0, none⟩ = some (.string f0) := (blk_cell HBX7.out.b2 0).trans (by rw [HCA.out]; rfl); have qy1 : W7.cell? ⟨w.heap.size, 1, none⟩ = some (.bool f1) := (blk_cell HBX7.out.b2 1).trans (by rw [HCA.out]; rfl); have qy2 : W7.cell? ⟨w.heap.size, 2, none⟩ = some (.bool f2) := (blk_cell HBX7.out.b2 2).trans (by rw [HCA.out]; rfl); have qy3 : W7.cell? ⟨w.heap.size, 3, none⟩ = some (.slice A3 l3.length c3) := (blk_cell HBX7.out.b2 3).trans (by rw [HCA.out]; rfl); have qy4 : W7.cell? ⟨w.heap.size, 4, none⟩ = some (.slice A4 l4.length c4) := (blk_cell HBX7.out.b2 4).trans (by rw [HCA.out]; rfl); have qy5 : W7.cell? ⟨w.heap.size, 5, none⟩ = some (.slice A5 l5.length c5) := (blk_cell HBX7.out.b2 5).trans (by rw [HCA.out]; rfl); have qy6 : W7.cell? ⟨w.heap.size, 6, none⟩ = some (.slice A6 l6.length c6) := (blk_cell HBX7.out.b2 6).trans (by rw [HCA.out]; rfl); have qy16 : W7.cell? ⟨w.heap.size, 16, none⟩ = some (.string name) := (blk_cell HBX7.out.b2 16).trans (by rw [HCA.out]; rfl); have qy17 : W7.cell? ⟨w.heap.size, 17, none⟩ = some (.string tgt) := (blk_cell HBX7.out.b2 17).trans (by rw [HCA.out]; rfl); have qz0 : W7.cell? ⟨g5, 0, none⟩ = some (.string f0) := (blk_cell HB57.out 0).trans rfl; have qz1 : W7.cell? ⟨g5, 1, none⟩ = some (.bool f1) := (blk_cell HB57.out 1).trans rfl; have qz2 : W7.cell? ⟨g5, 2, none⟩ = some (.bool f2) := (blk_cell HB57.out 2).trans rfl; have qz3 : W7.cell? ⟨g5, 3, none⟩ = some (.slice A3 l3.length c3) := (blk_cell HB57.out 3).trans rfl; have qz4 : W7.cell? ⟨g5, 4, none⟩ = some (.slice A4 l4.length c4) := (blk_cell HB57.out 4).trans rfl; have qz5 : W7.cell? ⟨g5, 5, none⟩ = some (.slice A5 l5.length c5) := (blk_cell HB57.out 5).trans rfl; have qz6 : W7.cell? ⟨g5, 6, none⟩ = some (.slice A7 (l6.length + 1) c7) := (blk_cell HB57.out 6).trans rfl))
        have x0' : W7.cell? ⟨w.heap.size + 1, 0, none⟩ = some (.string x.f0) := (blk_cell HBX7.out.b3 0).trans rfl
        have x1' : W7.cell? ⟨w.heap.size + 1, 1, none⟩ = some (.slice Ax x.f1.length cx) := (blk_cell HBX7.out.b3 1).trans rfl
        have x2' : W7.cell? ⟨w.heap.size + 1, 2, none⟩ = some (.bool x.f2) := (blk_cell HBX7.out.b3 2).trans rfl
        by_cases h0 : 0 ≤ a
        · have hb0 := Q1.out h0
          subst hb0
          have HBX9 := HBX7
          go_wp2_with (first
            | (go_at_call 39; (with_reducible refine (HQA.out _ HBX9.out.bel).mono ?_); rintro _ W10 ⟨rfl, hB10⟩; have HBX10 := Aside0.mk (HBX9.out.below hB10); clear hB10))
          go_ret
          exact ⟨by first | rfl | simp, HBX10.out.bel⟩
        · by_cases h1 : x.f0.toList = tgt.toList
          · have hq : (x.f0.toList == tgt.toList) = true := beq_iff_eq.2 h1
            cases tb with
            | true =>
              have hb0 := Q2.out (by omega) h1 rfl
              subst hb0
              clear h1
              go_wp2_with (first
                | (go_at_call 42; (with_reducible refine (HQT.out _ HBX7.out.bel).mono ?_); rintro _ W9 ⟨rfl, hB9⟩; have HBX9 := Aside0.mk (HBX7.out.below hB9); clear hB9; have r6 : W9.cell? ⟨w.heap.size, 6, none⟩ = some (.slice A6 l6.length c6) := (blk_cell HBX9.out.b2 6).trans (by rw [HCA.out]; rfl))
                | (go_at_call 39; (with_reducible refine (HQA.out _ HBX9.out.bel).mono ?_); rintro _ W10 ⟨rfl, hB10⟩; have HBX10 := Aside0.mk (HBX9.out.below hB10); clear hB10))
              go_ret
              exact ⟨by first | rfl | simp, HBX10.out.bel⟩
            | false =>
              have hb0 := Q3.out (by omega) (.inr rfl)
              subst hb0
              clear h1
              go_wp2_with (first
                | (go_at_call 42; (with_reducible refine (HQT.out _ HBX7.out.bel).mono ?_); rintro _ W9 ⟨rfl, hB9⟩; have HBX9 := Aside0.mk (HBX7.out.below hB9); clear hB9)
                | (go_at_call 39; (with_reducible refine (HQA.out _ HBX9.out.bel).mono ?_); rintro _ W10 ⟨rfl, hB10⟩; have HBX10 := Aside0.mk (HBX9.out.below hB10); clear hB10))
              go_ret
              exact ⟨by first | rfl | simp, HBX10.out.bel⟩
          · have hq : (x.f0.toList == tgt.toList) = false := beq_eq_false_iff_ne.2 h1
            have hb0 := Q3.out (by omega) (.inl h1)
            subst hb0
            clear h1
            have HBX9 := HBX7
            go_wp2_with (first
              | (go_at_call 39; (with_reducible refine (HQA.out _ HBX9.out.bel).mono ?_); rintro _ W10 ⟨rfl, hB10⟩; have HBX10 := Aside0.mk (HBX9.out.below hB10); clear hB10))
            go_ret
            exact ⟨by first | rfl | simp, HBX10.out.bel⟩
end Go.Proofs.YtbkhkdadipigfaaDoor.PolLinks
