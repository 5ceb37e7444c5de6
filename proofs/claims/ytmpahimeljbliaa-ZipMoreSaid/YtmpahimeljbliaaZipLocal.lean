/- zip.local: a file's own header, so many bytes 0, and its bytes. No condition but room. -/
import Derived.Test.YtmpahimeljbliaaBuf
import Derived.Test.YtmpahimeljbliaaZipPure
namespace Go.Proofs.Ytmpahimeljbliaa.ZipWalk
open Go.RowKit Go.Proofs Go.Proofs.Ytmpahimeljbliaa.Buf Go.Proofs.YtmpahimeljbliaaW.PrintWords Go.Proofs.YtmpahimeljbliaaW.PrintLast Go.Proofs.YtmpahimeljbliaaW.PrintMore

/-- A buffer of a call's own, beside all that the call has met. -/
structure LS (w0 W : World) (b : Nat) (v : Value) (xs : List Int) : Prop where
  buf : BufV w0.heap.size W b v xs
  bel : Below w0.heap.size w0 W
theorem LS.le {w0 W : World} {b : Nat} {v : Value} {xs : List Int} (h : LS w0 W b v xs) : w0.heap.size ≤ W.heap.size := h.bel.size
theorem LS.next {w0 W W' : World} {b : Nat} {v v' : Value} {xs xs' : List Int} (h : LS w0 W b v xs) (h1 : BufV w0.heap.size W' b v' xs') (h2 : Step W W' b v v') : LS w0 W' b v' xs' :=
  ⟨h1, h.bel.trans (h2.below h.buf h.le)⟩
theorem Step.ofBelow {W W' : World} {b : Nat} {v : Value} (h : Below W.heap.size W W') : Step W W' b v v := ⟨h.os, h.tape, h.output, h.size, fun k hk _ _ => h.block k hk, .inl rfl⟩
theorem BufV.ofBelow {base : Nat} {W W' : World} {b : Nat} {v : Value} {xs : List Int} (h : BufV base W b v xs) (hb : Below W.heap.size W W') : BufV base W' b v xs :=
  ⟨(hb.block b h.box.lt).trans h.box, pw_own_below h.row hb, h.base⟩
/-- A block that no buffer touches. -/
structure KB (W : World) (b g : Nat) (v : Value) (o : Obj) : Prop where
  blk : W.heap[g]? = some o
  ne : g ≠ b
  own : v.ownBlock ≠ some g
theorem KB.next {W W' : World} {b g : Nat} {v v' : Value} {o : Obj} (h : KB W b g v o) (h2 : Step W W' b v v') : KB W' b g v' o := by
  have hlt := blk_lt h.blk
  refine ⟨(h2.block g hlt h.ne h.own).trans h.blk, h.ne, ?_⟩
  rcases h2.own with e | ⟨k, e, hk⟩
  · rw [e]; exact h.own
  · rw [e]
    intro e'
    cases e'
    omega
theorem KB.fresh {base : Nat} {W W' : World} {b : Nat} {v : Value} {xs : List Int} {o : Obj} {g : Nat} (h : BufV base W b v xs) (hg : g = W.heap.size) (hb : W'.heap[g]? = some o) : KB W' b g v o :=
  ⟨hb, by have := h.box.lt; omega, fun e => by have := own_lt h.row g e; omega⟩
theorem put_same : ∀ (k : Nat) (n : Int), Buf.putBytes n k = ZipPure.putBytes n k
  | 0, _ => rfl
  | k + 1, n => by rw [Buf.putBytes, ZipPure.putBytes, put_same k]

theorem LS.far {w0 W W' : World} {b : Nat} {v : Value} {xs : List Int} (h : LS w0 W b v xs) (hb : Below W.heap.size W W') : LS w0 W' b v xs := ⟨BufV.ofBelow h.buf hb, below_then h.bel h.le hb⟩
theorem KB.far {W W' : World} {b g : Nat} {v : Value} {o : Obj} (h : KB W b g v o) (hb : Below W.heap.size W W') : KB W' b g v o := ⟨(hb.block g (blk_lt h.blk)).trans h.blk, h.ne, h.own⟩
theorem raw_len (xs ys : List Int) (m n : Nat) (h : xs.length ≤ m) (h2 : ys.length ≤ n) : (xs ++ ys).length ≤ m + n := by rw [List.length_append]; omega
theorem put_len (xs : List Int) (n : Int) (k m : Nat) (h : xs.length ≤ m) : (xs ++ Buf.putBytes n k).length ≤ m + k := by rw [List.length_append, Buf.putBytes_len]; omega
set_option maxRecDepth 100000 in
set_option maxHeartbeats 1000000 in
theorem local_calls (w0 W : World) (b : Nat) (v : Value) (xs : List Int) (s : ByteArray) (A : Option Addr) (c : Nat) (ys : List Int) (pad : Nat) (hL : LS w0 W b v xs) (hr : ReadsInt w0 .u8 A ys.length ys) (hs : s.size ≤ 256) (hy : ys.length ≤ 262144) (hp : pad < 256) (hlen : xs.length ≤ 4000000) :
    Calls Try.prog 45 #[.pointer (some ⟨b, 0, none⟩), .agg #[.string s, .slice A ys.length c], .int .i64 (pad : Int)] W fun e W' => (∃ u, e = .returned u) ∧ ∃ v', BufV w0.heap.size W' b v' (xs ++ ZipPure.localOf (bytesOf s, ys) pad) ∧ Step W W' b v v' := by
  have HL := Aside0.mk hL
  have HR := Aside0.mk hr
  clear hL hr
  have kb := fun W => print_bytes (P := Try.prog) 9 22 5 Try.underlying9 Try.underlying22 Try.underlying5 s W
  have cw : (ys.length : Int) % 4294967296 = (ys.length : Int) := by omega
  have cn : IntKind.u16.wrap (s.size : Int) = (s.size : Int) := by simp [IntKind.wrap, IntKind.bits, IntKind.signed]; omega
  have cp : IntKind.u16.wrap (pad : Int) = (pad : Int) := by simp [IntKind.wrap, IntKind.bits, IntKind.signed]; omega
  go_enter Try.func45, Try.ntmps45
  go_wp2_with (first | ((with_reducible refine gate_dst (N := 4) rfl ?_); refine box_event ?hg (N := 4) ?hd (cs := #[.string s, .slice A ys.length c]) (t := 50) ?hr ?_; (case hd => rfl); (case hg => rfl); (case hr => first | (go_simp; done) | (go_simp; rfl)); intro g hg W1 hb1 hB1; have L1 := Aside0.mk (HL.out.far hB1); have K1 := Aside0.mk (KB.fresh HL.out.buf hg hb1); have S1 := Aside0.mk (Step.ofBelow (b := b) (v := v) hB1); have N1 := Aside0.mk hlen; clear hg hb1 hB1; have hc1 : World.cell? W1 ⟨g, 0, none⟩ = some (.string s) := (blk_cell K1.out.blk 0).trans rfl; have hd1 : World.cell? W1 ⟨g, 1, none⟩ = some (.slice A ys.length c) := (blk_cell K1.out.blk 1).trans rfl) | (go_at_call 49; (try rw [cw]); (try rw [cn]); (try rw [cp]); refine (put32_calls w0.heap.size b _ _ 67324752 _ L1.out.buf L1.out.le (by have := N1.out; omega) (by omega) (by omega)).mono ?_; rintro _ W2 ⟨⟨u1, rfl⟩, v2, h1, h2⟩; have L2 := Aside0.mk (L1.out.next h1 h2); have K2 := Aside0.mk (K1.out.next h2); have S2 := Aside0.mk (S1.out.trans h2); have N2 := Aside0.mk (put_len _ 67324752 4 _ N1.out); clear h1 h2; have hc2 : World.cell? W2 ⟨g, 0, none⟩ = some (.string s) := (blk_cell K2.out.blk 0).trans rfl; have hd2 : World.cell? W2 ⟨g, 1, none⟩ = some (.slice A ys.length c) := (blk_cell K2.out.blk 1).trans rfl))
  have LA := Aside0.mk (L2.out.far (below_alloc (Below.refl _ _) (Obj.cells #[.int .u16 10, .int .u16 0, .int .u16 0, .int .u16 0, .int .u16 0] 107)))
  have KA := Aside0.mk (K2.out.far (below_alloc (Below.refl _ _) (Obj.cells #[.int .u16 10, .int .u16 0, .int .u16 0, .int .u16 0, .int .u16 0] 107)))
  have SA := Aside0.mk (S2.out.trans (Step.ofBelow (b := b) (v := v2) (below_alloc (Below.refl _ _) (Obj.cells #[.int .u16 10, .int .u16 0, .int .u16 0, .int .u16 0, .int .u16 0] 107))))
  have KL := Aside0.mk (KB.fresh L2.out.buf rfl (blk_new W2 (Obj.cells #[.int .u16 10, .int .u16 0, .int .u16 0, .int .u16 0, .int .u16 0] 107)))
  have NA := Aside0.mk N2.out
  have hcA : World.cell? (W2.alloc (Obj.cells #[.int .u16 10, .int .u16 0, .int .u16 0, .int .u16 0, .int .u16 0] 107)) ⟨g, 0, none⟩ = some (.string s) := (blk_cell KA.out.blk 0).trans rfl
  have hdA : World.cell? (W2.alloc (Obj.cells #[.int .u16 10, .int .u16 0, .int .u16 0, .int .u16 0, .int .u16 0] 107)) ⟨g, 1, none⟩ = some (.slice A ys.length c) := (blk_cell KA.out.blk 1).trans rfl
  have GA := Aside0.mk KL.out
  refine wp_loop_rounds 6 ?_
  have hq0 : World.cell? (W2.alloc (Obj.cells #[.int .u16 10, .int .u16 0, .int .u16 0, .int .u16 0, .int .u16 0] 107)) ⟨W2.heap.size, 0, none⟩ = some (.int .u16 10) := (blk_cell GA.out.blk 0).trans rfl
  rw [rounds_succ]
  go_wp2_with (go_at_call 50; (try rw [cw]); (try rw [cn]); (try rw [cp]); refine (put16_calls w0.heap.size b _ _ 10 _ LA.out.buf LA.out.le (by have := NA.out; omega) (by omega) (by omega)).mono ?_; rintro _ Wr0 ⟨⟨ur0, rfl⟩, vr0, h1, h2⟩; have Lr0 := Aside0.mk (LA.out.next h1 h2); have Kr0 := Aside0.mk (KA.out.next h2); have Sr0 := Aside0.mk (SA.out.trans h2); have Nr0 := Aside0.mk (put_len _ 10 2 _ NA.out); have Gr0 := Aside0.mk (GA.out.next h2); clear h1 h2; have hcr0 : World.cell? Wr0 ⟨g, 0, none⟩ = some (.string s) := (blk_cell Kr0.out.blk 0).trans rfl; have hdr0 : World.cell? Wr0 ⟨g, 1, none⟩ = some (.slice A ys.length c) := (blk_cell Kr0.out.blk 1).trans rfl)
  have hq1 : World.cell? Wr0 ⟨W2.heap.size, 1, none⟩ = some (.int .u16 0) := (blk_cell Gr0.out.blk 1).trans rfl
  rw [rounds_succ]
  go_wp2_with (go_at_call 50; (try rw [cw]); (try rw [cn]); (try rw [cp]); refine (put16_calls w0.heap.size b _ _ 0 _ Lr0.out.buf Lr0.out.le (by have := Nr0.out; omega) (by omega) (by omega)).mono ?_; rintro _ Wr1 ⟨⟨ur1, rfl⟩, vr1, h1, h2⟩; have Lr1 := Aside0.mk (Lr0.out.next h1 h2); have Kr1 := Aside0.mk (Kr0.out.next h2); have Sr1 := Aside0.mk (Sr0.out.trans h2); have Nr1 := Aside0.mk (put_len _ 0 2 _ Nr0.out); have Gr1 := Aside0.mk (Gr0.out.next h2); clear h1 h2; have hcr1 : World.cell? Wr1 ⟨g, 0, none⟩ = some (.string s) := (blk_cell Kr1.out.blk 0).trans rfl; have hdr1 : World.cell? Wr1 ⟨g, 1, none⟩ = some (.slice A ys.length c) := (blk_cell Kr1.out.blk 1).trans rfl)
  have hq2 : World.cell? Wr1 ⟨W2.heap.size, 2, none⟩ = some (.int .u16 0) := (blk_cell Gr1.out.blk 2).trans rfl
  rw [rounds_succ]
  go_wp2_with (go_at_call 50; (try rw [cw]); (try rw [cn]); (try rw [cp]); refine (put16_calls w0.heap.size b _ _ 0 _ Lr1.out.buf Lr1.out.le (by have := Nr1.out; omega) (by omega) (by omega)).mono ?_; rintro _ Wr2 ⟨⟨ur2, rfl⟩, vr2, h1, h2⟩; have Lr2 := Aside0.mk (Lr1.out.next h1 h2); have Kr2 := Aside0.mk (Kr1.out.next h2); have Sr2 := Aside0.mk (Sr1.out.trans h2); have Nr2 := Aside0.mk (put_len _ 0 2 _ Nr1.out); have Gr2 := Aside0.mk (Gr1.out.next h2); clear h1 h2; have hcr2 : World.cell? Wr2 ⟨g, 0, none⟩ = some (.string s) := (blk_cell Kr2.out.blk 0).trans rfl; have hdr2 : World.cell? Wr2 ⟨g, 1, none⟩ = some (.slice A ys.length c) := (blk_cell Kr2.out.blk 1).trans rfl)
  have hq3 : World.cell? Wr2 ⟨W2.heap.size, 3, none⟩ = some (.int .u16 0) := (blk_cell Gr2.out.blk 3).trans rfl
  rw [rounds_succ]
  go_wp2_with (go_at_call 50; (try rw [cw]); (try rw [cn]); (try rw [cp]); refine (put16_calls w0.heap.size b _ _ 0 _ Lr2.out.buf Lr2.out.le (by have := Nr2.out; omega) (by omega) (by omega)).mono ?_; rintro _ Wr3 ⟨⟨ur3, rfl⟩, vr3, h1, h2⟩; have Lr3 := Aside0.mk (Lr2.out.next h1 h2); have Kr3 := Aside0.mk (Kr2.out.next h2); have Sr3 := Aside0.mk (Sr2.out.trans h2); have Nr3 := Aside0.mk (put_len _ 0 2 _ Nr2.out); have Gr3 := Aside0.mk (Gr2.out.next h2); clear h1 h2; have hcr3 : World.cell? Wr3 ⟨g, 0, none⟩ = some (.string s) := (blk_cell Kr3.out.blk 0).trans rfl; have hdr3 : World.cell? Wr3 ⟨g, 1, none⟩ = some (.slice A ys.length c) := (blk_cell Kr3.out.blk 1).trans rfl)
  have hq4 : World.cell? Wr3 ⟨W2.heap.size, 4, none⟩ = some (.int .u16 0) := (blk_cell Gr3.out.blk 4).trans rfl
  rw [rounds_succ]
  go_wp2_with (go_at_call 50; (try rw [cw]); (try rw [cn]); (try rw [cp]); refine (put16_calls w0.heap.size b _ _ 0 _ Lr3.out.buf Lr3.out.le (by have := Nr3.out; omega) (by omega) (by omega)).mono ?_; rintro _ Wr4 ⟨⟨ur4, rfl⟩, vr4, h1, h2⟩; have Lr4 := Aside0.mk (Lr3.out.next h1 h2); have Kr4 := Aside0.mk (Kr3.out.next h2); have Sr4 := Aside0.mk (Sr3.out.trans h2); have Nr4 := Aside0.mk (put_len _ 0 2 _ Nr3.out); have Gr4 := Aside0.mk (Gr3.out.next h2); clear h1 h2; have hcr4 : World.cell? Wr4 ⟨g, 0, none⟩ = some (.string s) := (blk_cell Kr4.out.blk 0).trans rfl; have hdr4 : World.cell? Wr4 ⟨g, 1, none⟩ = some (.slice A ys.length c) := (blk_cell Kr4.out.blk 1).trans rfl)
  rw [rounds_succ]
  go_wp2_with (first | (go_at_call 49; (try rw [cw]); (try rw [cn]); (try rw [cp]); refine (put32_calls w0.heap.size b _ _ 0 _ Lr4.out.buf Lr4.out.le (by have := Nr4.out; omega) (by omega) (by omega)).mono ?_; rintro _ Wt0 ⟨⟨ut0, rfl⟩, vt0, h1, h2⟩; have Lt0 := Aside0.mk (Lr4.out.next h1 h2); have Kt0 := Aside0.mk (Kr4.out.next h2); have St0 := Aside0.mk (Sr4.out.trans h2); have Nt0 := Aside0.mk (put_len _ 0 4 _ Nr4.out); clear h1 h2; have hct0 : World.cell? Wt0 ⟨g, 0, none⟩ = some (.string s) := (blk_cell Kt0.out.blk 0).trans rfl; have hdt0 : World.cell? Wt0 ⟨g, 1, none⟩ = some (.slice A ys.length c) := (blk_cell Kt0.out.blk 1).trans rfl) | (go_at_call 49; (try rw [cw]); (try rw [cn]); (try rw [cp]); refine (put32_calls w0.heap.size b _ _ ys.length _ Lt0.out.buf Lt0.out.le (by have := Nt0.out; omega) (by omega) (by omega)).mono ?_; rintro _ Wt1 ⟨⟨ut1, rfl⟩, vt1, h1, h2⟩; have Lt1 := Aside0.mk (Lt0.out.next h1 h2); have Kt1 := Aside0.mk (Kt0.out.next h2); have St1 := Aside0.mk (St0.out.trans h2); have Nt1 := Aside0.mk (put_len _ ys.length 4 _ Nt0.out); clear h1 h2; have hct1 : World.cell? Wt1 ⟨g, 0, none⟩ = some (.string s) := (blk_cell Kt1.out.blk 0).trans rfl; have hdt1 : World.cell? Wt1 ⟨g, 1, none⟩ = some (.slice A ys.length c) := (blk_cell Kt1.out.blk 1).trans rfl) | (go_at_call 49; (try rw [cw]); (try rw [cn]); (try rw [cp]); refine (put32_calls w0.heap.size b _ _ ys.length _ Lt1.out.buf Lt1.out.le (by have := Nt1.out; omega) (by omega) (by omega)).mono ?_; rintro _ Wt2 ⟨⟨ut2, rfl⟩, vt2, h1, h2⟩; have Lt2 := Aside0.mk (Lt1.out.next h1 h2); have Kt2 := Aside0.mk (Kt1.out.next h2); have St2 := Aside0.mk (St1.out.trans h2); have Nt2 := Aside0.mk (put_len _ ys.length 4 _ Nt1.out); clear h1 h2; have hct2 : World.cell? Wt2 ⟨g, 0, none⟩ = some (.string s) := (blk_cell Kt2.out.blk 0).trans rfl; have hdt2 : World.cell? Wt2 ⟨g, 1, none⟩ = some (.slice A ys.length c) := (blk_cell Kt2.out.blk 1).trans rfl) | (go_at_call 50; (try rw [cw]); (try rw [cn]); (try rw [cp]); refine (put16_calls w0.heap.size b _ _ s.size _ Lt2.out.buf Lt2.out.le (by have := Nt2.out; omega) (by omega) (by omega)).mono ?_; rintro _ Wt3 ⟨⟨ut3, rfl⟩, vt3, h1, h2⟩; have Lt3 := Aside0.mk (Lt2.out.next h1 h2); have Kt3 := Aside0.mk (Kt2.out.next h2); have St3 := Aside0.mk (St2.out.trans h2); have Nt3 := Aside0.mk (put_len _ s.size 2 _ Nt2.out); clear h1 h2; have hct3 : World.cell? Wt3 ⟨g, 0, none⟩ = some (.string s) := (blk_cell Kt3.out.blk 0).trans rfl; have hdt3 : World.cell? Wt3 ⟨g, 1, none⟩ = some (.slice A ys.length c) := (blk_cell Kt3.out.blk 1).trans rfl) | (go_at_call 50; (try rw [cw]); (try rw [cn]); (try rw [cp]); refine (put16_calls w0.heap.size b _ _ pad _ Lt3.out.buf Lt3.out.le (by have := Nt3.out; omega) (by omega) (by omega)).mono ?_; rintro _ Wt4 ⟨⟨ut4, rfl⟩, vt4, h1, h2⟩; have Lt4 := Aside0.mk (Lt3.out.next h1 h2); have Kt4 := Aside0.mk (Kt3.out.next h2); have St4 := Aside0.mk (St3.out.trans h2); have Nt4 := Aside0.mk (put_len _ pad 2 _ Nt3.out); clear h1 h2; have hct4 : World.cell? Wt4 ⟨g, 0, none⟩ = some (.string s) := (blk_cell Kt4.out.blk 0).trans rfl; have hdt4 : World.cell? Wt4 ⟨g, 1, none⟩ = some (.slice A ys.length c) := (blk_cell Kt4.out.blk 1).trans rfl))
  have hbw := bytes_below (Below.refl Wt4.heap.size Wt4) (Nat.le_refl _) 5 s
  have LB := Aside0.mk (Lt4.out.far hbw)
  have KB1 := Aside0.mk (Kt4.out.far hbw)
  have SB := Aside0.mk (St4.out.trans (Step.ofBelow (b := b) (v := vt4) hbw))
  have hrd : ReadsInt (Lib.bytesWorld Wt4 5 s) .u8 (some ⟨Wt4.heap.size, 0, none⟩) (bytesOf s).length (bytesOf s) := by
    rw [bytesOf_length]
    exact bytes_reads Wt4 5 s (by omega)
  have raw1 := raw_calls w0.heap.size b _ _ (some ⟨Wt4.heap.size, 0, none⟩) (grownCap Wt4 s.size 0 5) (bytesOf s) _ LB.out.buf LB.out.le hrd (by have := Nt4.out; rw [bytesOf_length]; omega)
  rw [bytesOf_length] at raw1
  refine raw1.mono ?_
  clear raw1 hrd
  rintro _ Wx ⟨⟨ux, rfl⟩, vx, h1, h2⟩
  have Lx := Aside0.mk (LB.out.next h1 h2)
  have Kx := Aside0.mk (KB1.out.next h2)
  have Sx := Aside0.mk (SB.out.trans h2)
  have Nx := Aside0.mk (raw_len _ (bytesOf s) _ 256 Nt4.out (by rw [bytesOf_length]; exact hs))
  clear h1 h2 hbw
  have hcx : World.cell? Wx ⟨g, 0, none⟩ = some (.string s) := (blk_cell Kx.out.blk 0).trans rfl
  have hdx : World.cell? Wx ⟨g, 1, none⟩ = some (.slice A ys.length c) := (blk_cell Kx.out.blk 1).trans rfl
  go_wp2_with (first
    | (go_at_call 74; refine (zeros_calls w0.heap.size b _ _ pad _ Lx.out.buf Lx.out.le (by omega) (by have := Nx.out; omega)).mono ?_; rintro _ Wy ⟨⟨uy, rfl⟩, vy, h1, h2⟩; have Ly := Aside0.mk (Lx.out.next h1 h2); have Ky := Aside0.mk (Kx.out.next h2); have Sy := Aside0.mk (Sx.out.trans h2); have Ny := Aside0.mk (raw_len _ (List.replicate pad (0 : Int)) _ 256 Nx.out (by rw [List.length_replicate]; omega)); clear h1 h2; have hcy : World.cell? Wy ⟨g, 0, none⟩ = some (.string s) := (blk_cell Ky.out.blk 0).trans rfl; have hdy : World.cell? Wy ⟨g, 1, none⟩ = some (.slice A ys.length c) := (blk_cell Ky.out.blk 1).trans rfl)
    | (go_at_call 47; refine (raw_calls w0.heap.size b _ _ A c ys _ Ly.out.buf Ly.out.le (HR.out.below Ly.out.bel) (by have := Ny.out; omega)).mono ?_; rintro _ Wz ⟨⟨uz, rfl⟩, vz, h1, h2⟩; have Lz := Aside0.mk (Ly.out.next h1 h2); have Sz := Aside0.mk (Sy.out.trans h2); clear h1 h2))
  go_end0
  refine ⟨⟨_, rfl⟩, _, ?_, Sz.out⟩
  have := Lz.out.buf
  simp only [put_same, List.append_assoc] at this
  simpa [ZipPure.localOf, ZipPure.rowOf, ZipPure.localRow, bytesOf_length, List.append_assoc] using this
end Go.Proofs.Ytmpahimeljbliaa.ZipWalk
