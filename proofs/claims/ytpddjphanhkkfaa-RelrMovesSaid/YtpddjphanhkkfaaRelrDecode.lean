/- relr.Decode: what it hands back, for any bytes. No condition but that the argument is a slice of bytes. -/
import Derived.Test.YtpddjphanhkkfaaRelrPure
import Derived.Maps.OwnIn
namespace Go.Proofs.Ytpddjphanhkkfaa.RelrDecode
open Go.RowKit Go.Shelf Go.Proofs Go.Proofs.Ytpddjphanhkkfaa.RelrIter Go.Proofs.Ytpddjphanhkkfaa.RelrPure Go.Proofs.Ytpddjphanhkkfaa.PRelrReads Go.Proofs.YtpddjphanhkkfaaW.PrintWords Go.Proofs.YtpddjphanhkkfaaW.PrintLast Go.Proofs.YtpddjphanhkkfaaW.PrintMore
attribute [local go_sem] Oper.semAt_some

def mark (r : Nat) : Deferred := { target := .collected r, args := #[] }
/-- What holds between two rounds. -/
structure St (base : Nat) (w W : World) (v : Value) (out : List Int) (L : List Nat) : Prop where
  box : Boxed W base 42 v
  row : W.ownsRow base 23 1 v out.length (nums .u64 out)
  marks : ∀ r ∈ L, base ≤ r ∧ W.heap[r]? = some (.deferred (some []))
  nodup : L.Nodup
  below : Below base w W
theorem St.drewN {base : Nat} {w W : World} {v : Value} {out : List Int} {L : List Nat} (h : St base w W v out L) (m : Nat) : St base w (W.drewN m) v out L := by
  have hb : Below W.heap.size W (W.drewN m) := pw_below_drewN (Below.refl _ _) m
  refine ⟨?_, pw_own_below h.row hb, h.marks, h.nodup, pw_below_drewN h.below m⟩
  exact (hb.block base h.box.lt).trans h.box

theorem St.step {base : Nat} {w W W2 : World} {v v' : Value} {out out' : List Int} {L : List Nat} (h : St base w W v out L) (hbox : Boxed W2 base 42 v') (hrow : W2.ownsRow base 23 1 v' out'.length (nums .u64 out')) (hk : KeepsOthers W W2) (hb : Below base W W2) : St base w W2 v' out' L :=
  ⟨hbox, hrow, fun r hr => ⟨(h.marks r hr).1, hk.same r _ (h.marks r hr).2 rfl⟩, h.nodup, h.below.trans hb⟩
theorem row_snoc {W : World} {base : Nat} {v : Value} {out : List Int} {n : Int} (h : W.ownsRow base 23 1 v (out.length + 1) (nums .u64 out ++ [.int .u64 n])) : W.ownsRow base 23 1 v (out ++ [n]).length (nums .u64 (out ++ [n])) := by
  rw [nums_append, List.length_append]
  exact h

/-- Between two rounds of the loop over the iterator. -/
def RI (base B : Nat) (w : World) (out : List Int) (L : List Nat) (pre : List Int) (W : World) : Prop :=
  ∃ v, St base w W v (out ++ pre) L ∧ B + 1 < W.heap.size ∧ v.ownBlock ≠ some B ∧ v.ownBlock ≠ some (B + 1)
theorem RI.own {base B B2 : Nat} {w : World} {out : List Int} {L : List Nat} (hL : ∀ r ∈ L, r < B2) (hb : base ≤ B2) (hw : base ≤ w.heap.size) : OwnFrom B2 (RI base B w out L) := by
  rintro s X Y row ⟨v, hS, hlt, h1, h2⟩ hg hr
  refine ⟨v, ⟨?_, ?_, ?_, hS.nodup, ?_⟩, Nat.lt_of_lt_of_le hlt hg.size, h1, h2⟩
  · refine hS.box.kept hg (fun e' => ?_)
    obtain ⟨_, o, ho, hc⟩ := hr base e'.symm
    rw [show X.heap[base]? = _ from hS.box] at ho; cases ho; cases hc
  · refine hS.row.kept hg ?_
    rcases hS.row.2 with ⟨rfl, _⟩ | ⟨g, cap, cur, rfl, _, hgb, _⟩
    · exact .inl rfl
    · refine .inr fun e' => ?_
      obtain ⟨_, o, ho, hc⟩ := hr g (by simpa [Value.ownBlock] using e'.symm)
      rw [hgb] at ho; cases ho; cases hc
  · intro r hrL
    have hm := hS.marks r hrL
    refine ⟨hm.1, (hg.block r (Array.getElem?_eq_some_iff.1 hm.2).1 (fun e' => ?_)).trans hm.2⟩
    have := (hr r e'.symm).1
    have := hL r hrL
    omega
  · exact hS.below.grown hg (Nat.le_trans hw hS.below.size) (fun k e => Nat.le_trans hb (hr k e).1)

theorem leaves_marks {F : Fence} {n : Nat} {fn : Func} {tmps : Array Value} {R : Ending → World → Prop} {base k : Nat} {w0 : World} {v : Value} {xs : List Value} (hb0 : base ≤ w0.heap.size)
    (hres : ∀ W', W'.ownsRow base 23 1 v k xs → Below base w0 W' → LeavesIn F n Try.prog fn tmps R [] .returning W') :
    ∀ (L : List Nat) (W : World), L.Nodup → (∀ r ∈ L, base ≤ r ∧ W.heap[r]? = some (.deferred (some []))) → W.ownsRow base 23 1 v k xs → Below base w0 W → LeavesInM F n Try.prog fn tmps R (L.map mark) .returning W
  | [], W, _, _, ho, hb => hres W ho hb
  | r :: L, W, hn, hm, ho, hb => by
    obtain ⟨h1, h2⟩ := hm r (List.mem_cons_self ..)
    rw [List.nodup_cons] at hn
    refine ⟨by simp, .inl ⟨r, _, rfl, run_takeDeferred h2, ?_⟩⟩
    refine leaves_marks hb0 hres L _ hn.2 (fun r' hr' => ?_) (ownsRow_putObj ho _ h2 rfl) ?_
    · have := hm r' (List.mem_cons_of_mem _ hr')
      exact ⟨this.1, (World.putObj_heap_other (by rintro rfl; exact hn.1 hr')).trans this.2⟩
    · exact hb.grown (grownBy_putObj' W r _) (Nat.le_trans hb0 hb.size) (fun k e => by cases e; exact h1)

def Inv (A0 : Option Addr) (c0 : Nat) (l0 : List Int) (w : World) (r : List Int × Int) (a : Act) (W : World) : Prop :=
  ∃ (p : Nat) (out : List Int) (frm : Int) (any : Bool) (L : List Nat) (v : Value) (u8 u9 u10 u11 u22 u23 u24 u25 u26 u27 u28 u29 u30 u31 u32 u33 u34 u35 u36 u37 u38 u39 u40 u41 u42 u43 u44 u45 u46 u47 u48 u49 u50 u51 u52 u53 u54 u55 u56 u57 u58 u59 u60 u61 u62 u63 u64 u65 u66 u67 u68 u69 : Value), p % 8 = 0 ∧ p ≤ l0.length ∧ dec ((words l0).drop (p / 8)) out frm any = r ∧ out.length ≤ 512 ∧ 0 ≤ frm ∧ frm < 18446744073709551616 ∧ St w.heap.size w W v out L ∧
    a = { tmps := #[Value.slice A0 l0.length c0, undef, Value.slice none 0 0, Value.int IntKind.i64 0, Value.pointer (some { block := w.heap.size, off := 0 }), Value.int IntKind.u64 frm, Value.bool any, Value.int IntKind.u64 (p : Nat), u8, u9, u10, u11, Value.slice A0 l0.length c0, Value.int IntKind.i64 ↑l0.length, Value.int IntKind.i64 (↑l0.length % 8), Value.bool false, Value.bool false, Value.slice A0 l0.length c0, Value.int IntKind.i64 ↑l0.length, Value.int IntKind.i64 (↑l0.length / 8), Value.bool (decide (512 < (l0.length : Int) / 8)), Value.bool (decide (512 < (l0.length : Int) / 8)), u22, u23, u24, u25, u26, u27, u28, u29, u30, u31, u32, u33, u34, u35, u36, u37, u38, u39, u40, u41, u42, u43, u44, u45, u46, u47, u48, u49, u50, u51, u52, u53, u54, u55, u56, u57, u58, u59, u60, u61, u62, u63, u64, u65, u66, u67, u68, u69], defers := L.map mark }
def mu (l0 : List Int) (a : Act) (_ : World) : Nat := l0.length - (intOf (a.tmps.getD 7 undef)).toNat

theorem u64_any (A0 : Option Addr) (c0 : Nat) (l0 : List Int) (w : World) (hb : Bytes l0) (hlen : l0.length ≤ 4096) (hr0 : Kd.C (Kd.int .u8) w A0 l0.length l0) (hc0 : l0.length ≤ c0) (p : Nat) (hp : p + 8 ≤ l0.length) (n : Int) (hn : leVal ((l0.drop p).take 8) = n) :
    CallsIn Fence.wide 3 Try.prog 30 #[.slice A0 l0.length c0, .int .u64 (p : Int)] w fun e w' => e = .returned (.tuple #[.int .u64 n, .int .i64 0]) ∧ ∃ m, w' = w.drewN m := by
  refine callsIn_wide.2 ((le_U64.calls 9 A0 c0 l0 p n 0 w hr0 hc0 ?_).mono fun _ _ h => ⟨h.1, h.2.out⟩)
  rw [u64_at l0 hb p (by omega) hp 9 (by omega), hn]
theorem add_any (a b r1 : Int) (r2 : Bool) (w : World) (h : num_Add.f a b = some (r1, r2)) :
    CallsIn Fence.wide 3 Try.prog 31 #[.int .u64 a, .int .u64 b] w fun e w' => e = .returned (.tuple #[.int .u64 r1, .bool r2]) ∧ ∃ m, w' = w.drewN m :=
  callsIn_wide.2 ((num_Add.calls a b r1 r2 w h).mono fun _ _ h => ⟨h.1, h.2.out⟩)

theorem info23 : (Try.prog.info? 23).map (fun i => (i.zero, i.size, i.bytes)) = some (some (.int .u64 0), 1, 8) := by kernel_rfl
set_option maxRecDepth 100000 in
set_option maxHeartbeats 2000000 in
theorem decode_in (A0 : Option Addr) (c0 : Nat) (l0 : List Int) (w : World) (hr0 : Kd.C (Kd.int .u8) w A0 l0.length l0) (hc0 : l0.length ≤ c0) (hby : Bytes l0) (h8 : ((l0.length : Int) % 8 != 0) = false) (hle : l0.length ≤ 4096) (r : List Int × Int) (hr : dec (words l0) [] 0 false = r) :
    CallsIn Fence.wide 4 Try.prog 21 #[.slice A0 l0.length c0] w fun e w' => ∃ v0_ : Value, e = .returned (.tuple #[v0_, .int .i64 r.2]) ∧ w'.ownsRow w.heap.size 23 1 v0_ r.1.length (nums .u64 r.1) ∧ Below w.heap.size w w' := by
  obtain ⟨i0, hi, hz0, hz1, hz2⟩ := info_parts info23
  have HR := Aside0.mk hr
  have HC := Aside0.mk hr0
  have HCC := Aside0.mk hc0
  have H8 := Aside0.mk (show l0.length % 8 = 0 by have := h8; simp at this; omega)
  have HBY := Aside0.mk hby
  clear hr hr0 hc0 hby
  refine callsIn_of_wp_marks Try.func21 rfl trivial ?_ rfl
  simp only [Try.ntmps21, List.size_toArray, List.length_cons, List.length_nil, Nat.reduceAdd, Nat.reduceSub, Array.replicate_succ, Array.replicate_zero, List.push_toArray, List.append_toArray, List.nil_append, List.cons_append]
  gi_wp2
  refine wpIn_loop (Inv A0 c0 l0 w r) (mu l0) ?_ ?_
  · exact ⟨0, [], 0, false, [], _, _, _, _, _, _, _, _, _, _, _, _, _, _, _, _, _, _, _, _, _, _, _, _, _, _, _, _, _, _, _, _, _, _, _, _, _, _, _, _, _, _, _, _, _, _, _, _, _, _, _, _, _, rfl, by omega, HR.out, by simp, by omega, by omega, ⟨Boxed.new w 42 _, World.ownsRow_nil _ _ _ _, by simp, by simp, (Below.refl _ _).alloc (Nat.le_refl _) _⟩, rfl⟩
  rintro _ wr ⟨p, out, frm, any, L, v, u8, u9, u10, u11, u22, u23, u24, u25, u26, u27, u28, u29, u30, u31, u32, u33, u34, u35, u36, u37, u38, u39, u40, u41, u42, u43, u44, u45, u46, u47, u48, u49, u50, u51, u52, u53, u54, u55, u56, u57, u58, u59, u60, u61, u62, u63, u64, u65, u66, u67, u68, u69, hp8, hpl, hdec, hout, hf0, hf1, hS, rfl⟩
  have HD := Aside0.mk hdec
  have HS := Aside0.mk hS
  have HP8 := Aside0.mk hp8
  have hcb := hS.box.cell
  have hfb := hS.box.frozen
  clear hdec hS hp8
  have HCr := Aside0.mk (Kd.C_below HC.out HS.out.below)
  by_cases hlt : p < l0.length
  · have hp8' : p + 8 ≤ l0.length := by have := HP8.out; have := H8.out; omega
    obtain ⟨n, hn⟩ : ∃ n, leVal ((l0.drop p).take 8) = n := ⟨_, rfl⟩
    have hnb := word_bound l0 HBY.out (p / 8) (by have := HP8.out; omega)
    unfold word at hnb
    rw [show 8 * (p / 8) = p by have := HP8.out; omega, hn] at hnb
    obtain ⟨hn0, hn1⟩ := hnb
    have HN := Aside0.mk hn
    have HD2 : Aside0 (dec (n :: (words l0).drop (p / 8 + 1)) out frm any = r) := ⟨by
      rw [← HN.out]
      have := HD.out
      rw [words_drop l0 (p / 8) (by omega)] at this
      unfold word at this
      rwa [show 8 * (p / 8) = p by have := HP8.out; omega] at this⟩
    clear HD hn
    have hU := fun W h => u64_any A0 c0 l0 W HBY.out hle h HCC.out p hp8' n HN.out
    have HU := Aside0.mk hU
    clear hU
    by_cases he : n % 2 = 0
    · -- a place
      have hand : bits BinOp.and IntKind.u64 n 1 = 0 := by rw [and_one n hn0 hn1]; exact he
      have hD3 := HD2.out
      rw [dec, if_pos he] at hD3
      have hlo : out.length + 1 ≤ maxLen := by unfold maxLen; omega
      have hlo2 : (out.length + 1) * 8 ≤ 140737488355328 := by omega
      by_cases ho : n > 18446744073709551607
      · rw [if_pos ho] at hD3
        obtain rfl := hD3
        have HA := Aside0.mk (show num_Add.f n 8 = some (0, false) by rw [add8 n hn0 hn1, if_pos ho])
        clear HD2
        gi_wp2_with (first | (refine ⟨trivial, ?_⟩; gi_at_call 30; refine (HU.out _ HCr.out).mono ?_; rintro e W ⟨rfl, m, rfl⟩; have HS1 := Aside0.mk (HS.out.drewN m)) | (gi_at_builtin; refine wpListIn_append_own _ rfl _ _ 42 rfl w.heap.size 23 i0 (.int .u64 0) 1 8 Try.underlying42 hi hz0 hz1 hz2 rfl (by decide) _ _ _ rfl (HS1.out.row.alloc _) ⟨wr.heap.size, 0, none⟩ 1 1 [.int .u64 n] rfl rfl (cell_one_new _ _ _) (by simp [Value.oneCell']) hlo hlo2 (by have := HS1.out.below.size; simp; simp at this; omega) ?_; intro v' w1 hown' hgrow _; obtain ⟨g', cap', rfl⟩ := ownsRow_succ hown'; obtain ⟨hv1, hv2, hr2, hk2, hb2⟩ := HS1.out.box.appended (by decide) HS1.out.row HS1.out.below.size (Nat.le_refl _) hown' hgrow; have hc1 := hv1.cell; have hf1 := hv1.frozen) | (refine ⟨trivial, ?_⟩; gi_at_call 31; refine (add_any _ _ _ _ _ HA.out).mono ?_; rintro e W ⟨rfl, m2, rfl⟩))
        have HS2 := (HS1.out.step hv2 (row_snoc hr2) hk2 hb2).drewN m2
        exact leaves_marks (Nat.le_refl _) (fun W' ho hb => ⟨_, results_tmp2 rfl _ _ _, _, rfl, ho, hb⟩) L _ HS2.nodup HS2.marks (World.ownsRow_nil _ _ _ _) HS2.below
      · rw [if_neg ho] at hD3
        have HA := Aside0.mk (show num_Add.f n 8 = some (n + 8, true) by rw [add8 n hn0 hn1, if_neg ho])
        clear HD2
        by_cases hl : out.length + 1 > 512
        · rw [if_pos hl] at hD3
          obtain rfl := hD3
          have hl' : (512 : Int) < (out.length : Int) + 1 := by omega
          gi_wp2_with (first | (refine ⟨trivial, ?_⟩; gi_at_call 30; refine (HU.out _ HCr.out).mono ?_; rintro e W ⟨rfl, m, rfl⟩; have HS1 := Aside0.mk (HS.out.drewN m)) | (gi_at_builtin; refine wpListIn_append_own _ rfl _ _ 42 rfl w.heap.size 23 i0 (.int .u64 0) 1 8 Try.underlying42 hi hz0 hz1 hz2 rfl (by decide) _ _ _ rfl (HS1.out.row.alloc _) ⟨wr.heap.size, 0, none⟩ 1 1 [.int .u64 n] rfl rfl (cell_one_new _ _ _) (by simp [Value.oneCell']) hlo hlo2 (by have := HS1.out.below.size; simp; simp at this; omega) ?_; intro v' w1 hown' hgrow _; obtain ⟨g', cap', rfl⟩ := ownsRow_succ hown'; obtain ⟨hv1, hv2, hr2, hk2, hb2⟩ := HS1.out.box.appended (by decide) HS1.out.row HS1.out.below.size (Nat.le_refl _) hown' hgrow; have hc1 := hv1.cell; have hf1 := hv1.frozen) | (refine ⟨trivial, ?_⟩; gi_at_call 31; refine (add_any _ _ _ _ _ HA.out).mono ?_; rintro e W ⟨rfl, m2, rfl⟩))
          have HS2 := (HS1.out.step hv2 (row_snoc hr2) hk2 hb2).drewN m2
          exact leaves_marks (Nat.le_refl _) (fun W' ho hb => ⟨_, results_tmp2 rfl _ _ _, _, rfl, ho, hb⟩) L _ HS2.nodup HS2.marks (World.ownsRow_nil _ _ _ _) HS2.below
        · rw [if_neg hl] at hD3
          have HD4 := Aside0.mk hD3
          clear hD3
          have hl' : ¬ (512 : Int) < (out.length : Int) + 1 := by omega
          gi_wp2_with (first | (refine ⟨trivial, ?_⟩; gi_at_call 30; refine (HU.out _ HCr.out).mono ?_; rintro e W ⟨rfl, m, rfl⟩; have HS1 := Aside0.mk (HS.out.drewN m)) | (gi_at_builtin; refine wpListIn_append_own _ rfl _ _ 42 rfl w.heap.size 23 i0 (.int .u64 0) 1 8 Try.underlying42 hi hz0 hz1 hz2 rfl (by decide) _ _ _ rfl (HS1.out.row.alloc _) ⟨wr.heap.size, 0, none⟩ 1 1 [.int .u64 n] rfl rfl (cell_one_new _ _ _) (by simp [Value.oneCell']) hlo hlo2 (by have := HS1.out.below.size; simp; simp at this; omega) ?_; intro v' w1 hown' hgrow _; obtain ⟨g', cap', rfl⟩ := ownsRow_succ hown'; obtain ⟨hv1, hv2, hr2, hk2, hb2⟩ := HS1.out.box.appended (by decide) HS1.out.row HS1.out.below.size (Nat.le_refl _) hown' hgrow; have hc1 := hv1.cell; have hf1 := hv1.frozen) | (refine ⟨trivial, ?_⟩; gi_at_call 31; refine (add_any _ _ _ _ _ HA.out).mono ?_; rintro e W ⟨rfl, m2, rfl⟩))
          have HS2 := (HS1.out.step hv2 (row_snoc hr2) hk2 hb2).drewN m2
          refine ⟨⟨p + 8, out ++ [n], n + 8, true, L, _, _, _, _, _, _, _, _, _, _, _, _, _, _, _, _, _, _, _, _, _, _, _, _, _, _, _, _, _, _, _, _, _, _, _, _, _, _, _, _, _, _, _, _, _, _, _, _, _, _, _, _, _, by have := HP8.out; omega, hp8', ?_, by rw [List.length_append]; simp; omega, by omega, by omega, HS2, by first | rfl | (simp; done)⟩, ?_⟩
          · rw [show (p + 8) / 8 = p / 8 + 1 by omega]
            exact HD4.out
          · simp [mu, intOf]; omega
    · -- a row of bits
      have hand : bits BinOp.and IntKind.u64 n 1 = 1 := by rw [and_one n hn0 hn1]; omega
      have hD3 := HD2.out
      rw [dec, if_neg he] at hD3
      cases any with
      | false =>
        rw [if_neg (by decide)] at hD3
        obtain rfl := hD3
        clear HD2
        gi_wp2_with (first | (refine ⟨trivial, ?_⟩; gi_at_call 30; refine (HU.out _ HCr.out).mono ?_; rintro e W ⟨rfl, m, rfl⟩; have HS1 := Aside0.mk (HS.out.drewN m)))
        exact leaves_marks (Nat.le_refl _) (fun W' ho hb => ⟨_, results_tmp2 rfl _ _ _, _, rfl, ho, hb⟩) L _ HS1.out.nodup HS1.out.marks (World.ownsRow_nil _ _ _ _) HS1.out.below
      | true =>
        rw [if_pos rfl] at hD3
        clear HD2
        gi_wp2_with (first | (refine ⟨trivial, ?_⟩; gi_at_call 30; refine (HU.out _ HCr.out).mono ?_; rintro e W ⟨rfl, m, rfl⟩; have HS1 := Aside0.mk (HS.out.drewN m)) | (refine ⟨trivial, ?_⟩; gi_at_call 32; refine (places_in Fence.wide 3 trivial rfl _ _ _).mono ?_; rintro e W ⟨rfl, rfl⟩))
        have hlen1 : (out ++ upto n frm 63).length ≤ 575 := by have := upto_len n frm 63; rw [List.length_append]; omega
        have hbB : w.heap.size < wr.heap.size := HS.out.box.lt
        have hLlt : ∀ r ∈ L, r < wr.heap.size + 2 := fun r hr => by
          have := (Array.getElem?_eq_some_iff.1 (HS.out.marks r hr).2).1
          omega
        have bR := Boxed.new (wr.drewN m) 23 (.int .u64 n)
        have bF := Boxed.new ((wr.drewN m).alloc (.cells #[.int .u64 n] 23)) 23 (.int .u64 frm)
        rw [World.size_alloc] at bF
        have hsz : (((wr.drewN m).alloc (.cells #[.int .u64 n] 23)).alloc (.cells #[.int .u64 frm] 23)).heap.size = wr.heap.size + 2 := by simp
        have hvl : ∀ g, v.ownBlock = some g → g < wr.heap.size := fun g hg => own_lt HS.out.row g hg
        refine wpIn_rangeFunc_ownG rfl (by decide) (gf := 41) (lb := #[.pointer (some ⟨wr.heap.size, 0, none⟩), .pointer (some ⟨wr.heap.size + 1, 0, none⟩)]) rfl trivial (enters_of Try.func41 (by kernel_rfl) rfl)
          (places_stops Fence.wide 3 trivial rfl (by decide) wr.heap.size n frm _ (by rw [hsz]; omega) (bR.alloc _).cell bF.cell) Same.trans
          (fun W l o o' hl _ _ _ => ⟨World.putObj_heap_other (by rw [hsz] at hl; omega), World.putObj_heap_other (by rw [hsz] at hl; omega)⟩) (Below.refl _ _) (fun _ => rfl)
          (RI w.heap.size wr.heap.size w out L) (fun _ _ _ => False)
          (RI.own (by rw [hsz]; exact hLlt) (by rw [hsz]; omega) (Nat.le_refl _))
          (fun _ _ _ _ _ hs _ _ => hs)
          ⟨v, ⟨(HS1.out.box.alloc _).alloc _, by rw [List.append_nil]; exact (HS1.out.row.alloc _).alloc _, fun r hr => ⟨(HS1.out.marks r hr).1, by
            have h1 := (HS1.out.marks r hr).2
            have h2 := (Array.getElem?_eq_some_iff.1 h1).1
            rw [Below.heap_alloc _ _ _ (by rw [World.size_alloc]; omega), Below.heap_alloc _ _ _ h2]
            exact h1⟩, HS1.out.nodup, (HS1.out.below.alloc HS1.out.below.size _).alloc (by rw [World.size_alloc]; have := HS1.out.below.size; omega) _⟩, by rw [hsz]; omega, fun e => by have := hvl _ e; omega, fun e => by have := hvl _ e; omega⟩
          (fun x => { tmps := #[Value.slice A0 l0.length c0, undef, Value.slice none 0 0, Value.int IntKind.i64 0, Value.pointer (some { block := w.heap.size, off := 0 }), Value.int IntKind.u64 frm, Value.bool true, Value.int IntKind.u64 (p : Nat), Value.int IntKind.u64 n, Value.int IntKind.i64 0, Value.bool true, Value.int IntKind.u64 x, Value.slice A0 l0.length c0, Value.int IntKind.i64 ↑l0.length, Value.int IntKind.i64 (↑l0.length % 8), Value.bool false, Value.bool false, Value.slice A0 l0.length c0, Value.int IntKind.i64 ↑l0.length, Value.int IntKind.i64 (↑l0.length / 8), Value.bool (decide (512 < (l0.length : Int) / 8)), Value.bool (decide (512 < (l0.length : Int) / 8)), Value.int IntKind.u64 (p : Nat), Value.slice A0 l0.length c0, Value.int IntKind.i64 ↑l0.length, Value.int IntKind.u64 ↑l0.length, Value.bool true, u27, u28, Value.tuple #[Value.int IntKind.u64 n, Value.int IntKind.i64 0], Value.slice A0 l0.length c0, Value.int IntKind.u64 (p : Nat), Value.tuple #[Value.int IntKind.u64 n, Value.int IntKind.i64 0], Value.int IntKind.u64 n, Value.int IntKind.i64 0, Value.bool true, Value.int IntKind.u64 n, Value.int IntKind.u64 1, Value.bool false, u39, u40, u41, u42, u43, u44, u45, u46, u47, Value.bool true, Value.int IntKind.u64 n, Value.int IntKind.u64 frm, Value.func (.func 41) #[] #[Value.pointer (some ⟨wr.heap.size, 0, none⟩), Value.pointer (some ⟨wr.heap.size + 1, 0, none⟩)], Value.int IntKind.u64 x, u53, u54, u55, u56, u57, u58, u59, u60, u61, u62, u63, u64, u65, u66, u67, u68, u69], defers := [] }) ?assign ?body ?done ?stop
        case assign =>
          intro l x W K hK
          gi_wp2
          exact hK
        case stop =>
          rintro D c pre W _ _ h _
          exact h.elim
        case body =>
          rintro l pre x W ⟨v2, hS2, hB2, hne1, hne2⟩ hlen2
          have hcb2 := hS2.box.cell
          have hfb2 := hS2.box.frozen
          have hlo2' : (out ++ pre).length ≤ 575 := by rw [List.length_append]; omega
          obtain ⟨o1, ho1⟩ : ∃ o1, out ++ pre = o1 := ⟨_, rfl⟩
          have HO1 := Aside0.mk ho1
          rw [ho1] at hS2 hlo2'
          clear ho1
          have HS2 := Aside0.mk hS2
          have hlo3 : o1.length + 1 ≤ maxLen := by unfold maxLen; omega
          have hlo4 : (o1.length + 1) * 8 ≤ 140737488355328 := by omega
          clear hS2
          have hrow2 := HS2.out.row
          gi_wp2_with (gi_at_builtin; refine wpListIn_append_own_at _ rfl _ _ 42 rfl w.heap.size 23 i0 (.int .u64 0) 1 8 Try.underlying42 hi hz0 hz1 hz2 rfl (by decide) _ _ _ rfl (HS2.out.row.alloc _) ⟨W.heap.size, 0, none⟩ 1 1 [.int .u64 x] rfl rfl (cell_one_new _ _ _) (by simp [Value.oneCell']) hlo3 hlo4 (by have := HS2.out.below.size; simp; omega) ?_; intro v' w1 hown' hgrow _ hat; obtain ⟨g', cap', rfl⟩ := ownsRow_succ hown'; obtain ⟨hv1, hv2, hr2, hk2, hb2⟩ := HS2.out.box.appended (by decide) HS2.out.row HS2.out.below.size (Nat.le_refl _) hown' hgrow; have hc1 := hv1.cell; have hf1 := hv1.frozen)
          have hsame : ∀ k, k < W.heap.size → k ≠ w.heap.size → v2.ownBlock ≠ some k → (w1.setCell ⟨w.heap.size, 0, none⟩ (.slice (some ⟨g', 0, none⟩) (o1.length + 1) cap')).heap[k]? = W.heap[k]? := fun k h1 h2 h3 => by
            rw [Below.heap_setCell _ _ _ k h2, hgrow.block k (by simp; omega) (fun e => h3 e.symm)]
            exact Below.heap_alloc _ _ _ h1
          refine ⟨hk2.from _, ⟨hsame _ (by omega) (by omega) hne1, hsame _ (by omega) (by omega) hne2⟩, _, HS2.out.step hv2 ?_ hk2 hb2, Nat.lt_of_lt_of_le hB2 hk2.size, ?_, ?_⟩
          · have := row_snoc (out := o1) hr2
            rw [← List.append_assoc, HO1.out]
            exact this
          · rcases hat with hat | hat
            · rw [hat]; exact hne1
            · rw [hat]; simp; omega
          · rcases hat with hat | hat
            · rw [hat]; exact hne2
            · rw [hat]; simp; omega
        case done =>
          rintro D ys W hD rfl ⟨v2, hS2, hB2, _, _⟩ hK
          rw [hsz] at hD
          have HS3 : Aside0 (St w.heap.size w W v2 (out ++ upto n frm 63) (D :: L)) := ⟨⟨hS2.box, hS2.row, fun r hr => by
            rcases List.mem_cons.1 hr with rfl | hr
            · exact ⟨by omega, hK⟩
            · exact hS2.marks r hr, List.nodup_cons.2 ⟨fun h => by have := hLlt D h; omega, hS2.nodup⟩, hS2.below⟩⟩
          have hcb2 := hS2.box.cell
          have hfb2 := hS2.box.frozen
          obtain ⟨o2, ho2⟩ : ∃ o2, out ++ upto n frm 63 = o2 := ⟨_, rfl⟩
          clear hS2
          rw [ho2] at HS3 hD3 hlen1
          clear ho2 hcb hfb bR bF hvl
          obtain ⟨A2, c2, rfl⟩ : ∃ A2 c2, v2 = .slice A2 o2.length c2 := own_slice HS3.out.row
          by_cases ho : frm > 18446744073709551111
          · rw [if_pos ho] at hD3
            obtain rfl := hD3
            have HA := Aside0.mk (show num_Add.f frm 504 = some (0, false) by rw [add504 frm hf0 hf1, if_pos ho])
            gi_wp2_with (refine ⟨trivial, ?_⟩; gi_at_call 31; refine (add_any _ _ _ _ _ HA.out).mono ?_; rintro e W ⟨rfl, m2, rfl⟩)
            have HS4 := HS3.out.drewN m2
            exact leaves_marks (Nat.le_refl _) (fun W' ho hb => ⟨_, results_tmp2 rfl _ _ _, _, rfl, ho, hb⟩) (D :: L) _ HS4.nodup HS4.marks (World.ownsRow_nil _ _ _ _) HS4.below
          · rw [if_neg ho] at hD3
            have HA := Aside0.mk (show num_Add.f frm 504 = some (frm + 504, true) by rw [add504 frm hf0 hf1, if_neg ho])
            by_cases hl : o2.length > 512
            · rw [if_pos hl] at hD3
              obtain rfl := hD3
              have hl' : (512 : Int) < (o2.length : Int) := by omega
              gi_wp2_with (refine ⟨trivial, ?_⟩; gi_at_call 31; refine (add_any _ _ _ _ _ HA.out).mono ?_; rintro e W ⟨rfl, m2, rfl⟩)
              have HS4 := HS3.out.drewN m2
              exact leaves_marks (Nat.le_refl _) (fun W' ho hb => ⟨_, results_tmp2 rfl _ _ _, _, rfl, ho, hb⟩) (D :: L) _ HS4.nodup HS4.marks (World.ownsRow_nil _ _ _ _) HS4.below
            · rw [if_neg hl] at hD3
              have HD4 := Aside0.mk hD3
              clear hD3
              have hl' : ¬ (512 : Int) < (o2.length : Int) := by omega
              gi_wp2_with (refine ⟨trivial, ?_⟩; gi_at_call 31; refine (add_any _ _ _ _ _ HA.out).mono ?_; rintro e W ⟨rfl, m2, rfl⟩)
              have HS4 := HS3.out.drewN m2
              refine ⟨⟨p + 8, o2, frm + 504, true, D :: L, _, _, _, _, _, _, _, _, _, _, _, _, _, _, _, _, _, _, _, _, _, _, _, _, _, _, _, _, _, _, _, _, _, _, _, _, _, _, _, _, _, _, _, _, _, _, _, _, _, _, _, _, _, by have := HP8.out; omega, hp8', ?_, by omega, by omega, by omega, HS4, by first | rfl | (simp; done)⟩, ?_⟩
              · rw [show (p + 8) / 8 = p / 8 + 1 by omega]
                exact HD4.out
              · simp [mu, intOf]; omega
  · have HD5 := HD.out
    rw [words_all l0 (p / 8) (by omega)] at HD5
    obtain rfl := HD5
    clear HD
    gi_wp2
    exact leaves_marks (Nat.le_refl _) (fun W' ho hb => ⟨_, results_tmp2 rfl _ _ _, _, rfl, ho, hb⟩) L _ HS.out.nodup HS.out.marks HS.out.row HS.out.below
set_option maxRecDepth 100000 in
set_option maxHeartbeats 2000000 in
theorem decode_no (A0 : Option Addr) (c0 : Nat) (l0 : List Int) (w : World) (hlen : l0.length ≤ 9223372036854775807) (h : l0.length % 8 ≠ 0 ∨ l0.length % 8 = 0 ∧ 4096 < l0.length) :
    CallsIn Fence.wide 4 Try.prog 21 #[.slice A0 l0.length c0] w fun e w' => ∃ v0_ : Value, e = .returned (.tuple #[v0_, .int .i64 130]) ∧ w'.ownsRow w.heap.size 23 1 v0_ 0 [] ∧ Below w.heap.size w w' := by
  rcases h with h | ⟨h, h2⟩
  · have h8 : ((l0.length : Int) % 8 != 0) = true := by simp; omega
    clear h
    refine callsIn_of_wp_marks Try.func21 rfl trivial ?_ rfl
    simp only [Try.ntmps21, List.size_toArray, List.length_cons, List.length_nil, Nat.reduceAdd, Nat.reduceSub, Array.replicate_succ, Array.replicate_zero, List.push_toArray, List.append_toArray, List.nil_append, List.cons_append]
    gi_wp2
    exact ⟨_, results_tmp2 rfl _ _ _, _, rfl, World.ownsRow_nil _ _ _ _, Below.refl _ _⟩
  · have h8 : ((l0.length : Int) % 8 != 0) = false := by simp; omega
    have h3 : (512 : Int) < (l0.length : Int) / 8 := by omega
    clear h h2
    refine callsIn_of_wp_marks Try.func21 rfl trivial ?_ rfl
    simp only [Try.ntmps21, List.size_toArray, List.length_cons, List.length_nil, Nat.reduceAdd, Nat.reduceSub, Array.replicate_succ, Array.replicate_zero, List.push_toArray, List.append_toArray, List.nil_append, List.cons_append]
    gi_wp2
    exact ⟨_, results_tmp2 rfl _ _ _, _, rfl, World.ownsRow_nil _ _ _ _, Below.refl _ _⟩

theorem decode_calls (A0 : Option Addr) (c0 : Nat) (l0 : List Int) (r1 : List Int) (r2 : Int) (w : World) (hr0 : Kd.C (Kd.int .u8) w A0 l0.length l0) (hc0 : l0.length ≤ c0) (hby : Bytes l0) (h : RelrPure.decode l0 = (r1, r2)) :
    Calls Try.prog 21 #[.slice A0 l0.length c0] w fun e w' => ∃ v0_ : Value, e = .returned (.tuple #[v0_, .int .i64 r2]) ∧ Kd.R (Kd.int .u64) 23 w' w.heap.size (fun _ => True) v0_ r1 ∧ Below w.heap.size w w' := by
  refine (callsIn_wide (n := 4)).1 ?_
  have hR : ∀ {v : Value} {w' : World} {xs : List Int}, w'.ownsRow w.heap.size 23 1 v xs.length (nums .u64 xs) → Kd.R (Kd.int .u64) 23 w' w.heap.size (fun _ => True) v xs := fun ho =>
    Kd.R_of_own (enc := Value.int .u64) (h1 := fun _ => rfl) ho (fun _ _ => trivial)
  by_cases hl : l0.length % 8 ≠ 0 ∨ l0.length > 4096
  · have hd : RelrPure.decode l0 = ([], 130) := by unfold RelrPure.decode; rw [if_pos hl]
    rw [hd] at h
    obtain ⟨rfl, rfl⟩ := Prod.mk.inj h
    refine (decode_no A0 c0 l0 w hr0.2.1 (by omega)).mono ?_
    rintro e w' ⟨v, he, ho, hb⟩
    exact ⟨v, he, hR ho, hb⟩
  · have hd : RelrPure.decode l0 = dec (words l0) [] 0 false := by unfold RelrPure.decode; rw [if_neg hl]
    rw [hd] at h
    refine (decode_in A0 c0 l0 w hr0 hc0 hby (by simp; omega) (by omega) (r1, r2) h).mono ?_
    rintro e w' ⟨v, he, ho, hb⟩
    exact ⟨v, he, hR ho, hb⟩
end Go.Proofs.Ytpddjphanhkkfaa.RelrDecode
