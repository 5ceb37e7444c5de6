/- head.first and head.Table: what they hand back, for any bytes. No condition but that the argument is a slice of bytes. -/
import Derived.Test.YtlegpojjbeglhaaHeadPure
import Derived.Deep.MidRow
namespace Go.Proofs.Ytlegpojjbeglhaa.HeadWalk
open Go.RowKit Go.Proofs Go.Proofs.Ytlegpojjbeglhaa.HeadPure Go.Proofs.Ytlegpojjbeglhaa.B Go.Proofs.YtlegpojjbeglhaaW.PrintWords Go.Proofs.YtlegpojjbeglhaaW.PrintLast Go.Proofs.YtlegpojjbeglhaaW.PrintMore

theorem u16_any (A0 : Option Addr) (c0 : Nat) (l : List Int) (w : World) (hb : Bytes l) (hlen : l.length ≤ 4611686018427387904) (hr0 : Kd.C (Kd.int .u8) w A0 l.length l) (hc0 : l.length ≤ c0) (a : Nat) (ha : a + 2 ≤ l.length) (n : Int) (hn : U l a 2 = n) :
    Calls Try.prog 38 #[.slice A0 l.length c0, .int .u64 (a : Int)] w fun e w' => e = .returned (.tuple #[.int .u16 n, .int .i64 0]) ∧ ∃ m, w' = w.drewN m :=
  (le_U16.calls 9 A0 c0 l a n 0 w hr0 hc0 (by rw [u16_at l hb a hlen ha 9 (by omega), hn])).mono fun _ _ h => ⟨h.1, h.2.out⟩
theorem u32_any (A0 : Option Addr) (c0 : Nat) (l : List Int) (w : World) (hb : Bytes l) (hlen : l.length ≤ 4611686018427387904) (hr0 : Kd.C (Kd.int .u8) w A0 l.length l) (hc0 : l.length ≤ c0) (a : Nat) (ha : a + 4 ≤ l.length) (n : Int) (hn : U l a 4 = n) :
    Calls Try.prog 40 #[.slice A0 l.length c0, .int .u64 (a : Int)] w fun e w' => e = .returned (.tuple #[.int .u32 n, .int .i64 0]) ∧ ∃ m, w' = w.drewN m :=
  (le_U32.calls 9 A0 c0 l a n 0 w hr0 hc0 (by rw [u32_at l hb a hlen ha 9 (by omega), hn])).mono fun _ _ h => ⟨h.1, h.2.out⟩
theorem u64_any (A0 : Option Addr) (c0 : Nat) (l : List Int) (w : World) (hb : Bytes l) (hlen : l.length ≤ 4611686018427387904) (hr0 : Kd.C (Kd.int .u8) w A0 l.length l) (hc0 : l.length ≤ c0) (a : Nat) (ha : a + 8 ≤ l.length) (n : Int) (hn : U l a 8 = n) :
    Calls Try.prog 37 #[.slice A0 l.length c0, .int .u64 (a : Int)] w fun e w' => e = .returned (.tuple #[.int .u64 n, .int .i64 0]) ∧ ∃ m, w' = w.drewN m :=
  (le_U64.calls 9 A0 c0 l a n 0 w hr0 hc0 (by rw [u64_at l hb a hlen ha 9 (by omega), hn])).mono fun _ _ h => ⟨h.1, h.2.out⟩

theorem inside_any (a b c d : Int) (r : Bool) (w : World) (h : num_Inside.f a b c d = some r) : Calls Try.prog 39 #[.int .u64 a, .int .u64 b, .int .u64 c, .int .u64 d] w fun e w' => e = .returned (.bool r) ∧ ∃ m, w' = w.drewN m :=
  (num_Inside.calls a b c d r w h).mono fun _ _ h => ⟨h.1, h.2.out⟩
theorem ofNat_inj (x : Int) (b : UInt8) (h0 : 0 ≤ x) (h1 : x ≤ 255) : UInt8.ofNat x.toNat = b ↔ x = (b.toNat : Int) := by
  have hb := b.toNat_lt
  constructor
  · rintro rfl
    simp
    omega
  · rintro rfl
    simp
theorem strOfNums_list (xs : List Int) : (strOfNums xs).toList = xs.map fun n => UInt8.ofNat n.toNat := by
  unfold strOfNums
  simp
theorem mark_iff (l : List Int) (hb : Bytes l) (h : 4 ≤ l.length) : (strOfNums (l.take 4)).toList = [127, 69, 76, 70] ↔ l.take 4 = [127, 69, 76, 70] := by
  rw [strOfNums_list]
  rcases l with _ | ⟨a, _ | ⟨b, _ | ⟨c, _ | ⟨d, t⟩⟩⟩⟩
  · simp at h
  · simp at h
  · simp at h
  · simp at h
  · have ha := hb a (by simp)
    have hb' := hb b (by simp)
    have hc := hb c (by simp)
    have hd := hb d (by simp)
    have h1 := ofNat_inj a 127 ha.1 ha.2
    have h2 := ofNat_inj b 69 hb'.1 hb'.2
    have h3 := ofNat_inj c 76 hc.1 hc.2
    have h4 := ofNat_inj d 70 hd.1 hd.2
    simp only [List.take_succ_cons, List.take_zero, List.map_cons, List.map_nil, List.cons.injEq, and_true, h1, h2, h3, h4]
    rfl
set_option maxRecDepth 100000 in
set_option maxHeartbeats 2000000 in
theorem first_in (A0 : Option Addr) (c0 : Nat) (l : List Int) (w : World) (hb : Bytes l) (hlen : l.length ≤ 4611686018427387904) (hr0 : Kd.C (Kd.int .u8) w A0 l.length l) (hc0 : l.length ≤ c0) (r : Int × Int) (hr : firstOf l = r) :
    Calls Try.prog 36 #[.slice A0 l.length c0] w fun e w' => e = .returned (.tuple #[.int .u16 r.1, .int .i64 r.2]) ∧ ∃ m, w' = w.drewN m := by
  have HR := Aside0.mk hr
  have HC := Aside0.mk hr0
  have HCC := Aside0.mk hc0
  clear hr hr0 hc0
  by_cases h64 : l.length < 64
  · obtain rfl : r = (0, 80) := by rw [← HR.out]; unfold firstOf; rw [if_pos (.inl h64)]
    go_enter Try.func36, Try.ntmps36
    go_wp2
    all_goals
      go_ret2
      exact ⟨rfl, 0, rfl⟩
  · obtain ⟨ad, rfl, -⟩ := HC.out.2.2 (by omega)
    have h4 : (4 : Int) ≤ (c0 : Int) := by have := HCC.out; omega
    have h64' : ¬ (l.length : Int) < 64 := by omega
    obtain ⟨s, hs⟩ : ∃ s, strOfNums (l.take 4) = s := ⟨_, rfl⟩
    have hcv : (convert 22 9 (.slice (some ad) 4 c0)).run Try.prog w = .ok (.string s) w := by
      have h := Kd.C_string (P := Try.prog) (src := 22) (dst := 9) (e := 5) (c := c0) Try.underlying22 Try.underlying5 Try.underlying9 (Kd.C_take HC.out (show 4 ≤ l.length by omega))
      rw [List.length_take, Nat.min_eq_left (by omega), hs] at h
      exact h
    have HS := Aside0.mk hs
    clear hs
    have hcell : ∀ i : Nat, 0 < i → i < l.length → w.cell? ⟨ad.block, ad.off + i, none⟩ = some (.int .u8 (rd l i)) := fun i h0 hi => by
      obtain ⟨ad', he', hc⟩ := Kd.at_int HC.out (i : Int) (by omega) (by omega)
      cases he'
      rw [Int.toNat_natCast] at hc
      unfold Addr.add at hc
      rw [if_neg (by omega)] at hc
      exact hc
    have hx4 := hcell 4 (by omega) (by omega)
    have hx5 := hcell 5 (by omega) (by omega)
    have hx6 := hcell 6 (by omega) (by omega)
    clear hcell
    have hl4 : (4 : Int) < (l.length : Int) := by omega
    have hl5 : (5 : Int) < (l.length : Int) := by omega
    have hl6 : (6 : Int) < (l.length : Int) := by omega
    obtain ⟨b4, hb4⟩ : ∃ b, rd l ((4 : Nat) : Int) = b := ⟨_, rfl⟩
    obtain ⟨b5, hb5⟩ : ∃ b, rd l ((5 : Nat) : Int) = b := ⟨_, rfl⟩
    obtain ⟨b6, hb6⟩ : ∃ b, rd l ((6 : Nat) : Int) = b := ⟨_, rfl⟩
    obtain ⟨u16, hu16⟩ : ∃ b, U l 16 2 = b := ⟨_, rfl⟩
    obtain ⟨u18, hu18⟩ : ∃ b, U l 18 2 = b := ⟨_, rfl⟩
    rw [hb4] at hx4
    rw [hb5] at hx5
    rw [hb6] at hx6
    have HF : Aside0 (firstOf l = if (!s.toList == [127, 69, 76, 70]) = true then (0, 80) else if b4 ≠ 2 ∨ b5 ≠ 1 ∨ b6 ≠ 1 then (0, 81) else if u16 ≠ 3 then (0, 82) else if u18 ≠ 62 ∧ u18 ≠ 183 then (0, 83) else (u18, 0)) := ⟨by
      rw [← HS.out, ← hb4, ← hb5, ← hb6, ← hu16, ← hu18]
      unfold firstOf
      have := mark_iff l hb (by omega)
      by_cases hm : l.take 4 = [127, 69, 76, 70]
      · have hc1 : ¬ (l.length < 64 ∨ l.take 4 ≠ [127, 69, 76, 70]) := by simp [hm]; omega
        have hc2 : ¬ (!(strOfNums (l.take 4)).toList == [127, 69, 76, 70]) = true := by simp [this.2 hm]
        rw [if_neg hc1, if_neg hc2]
        rfl
      · have hc1 : l.length < 64 ∨ l.take 4 ≠ [127, 69, 76, 70] := .inr hm
        have hc2 : (!(strOfNums (l.take 4)).toList == [127, 69, 76, 70]) = true := by simp; exact fun h => hm (this.1 h)
        rw [if_pos hc1, if_pos hc2]⟩
    have HU16 := Aside0.mk hu16
    have HU18 := Aside0.mk hu18
    clear hb4 hb5 hb6 hu16 hu18
    have HB := Aside0.mk hb
    clear hb
    have h16 : Aside0 (∀ W, Kd.C (Kd.int .u8) W (some ad) l.length l → Calls Try.prog 38 #[.slice (some ad) l.length c0, .int .u64 16] W fun e w' => e = .returned (.tuple #[.int .u16 u16, .int .i64 0]) ∧ ∃ m, w' = W.drewN m) :=
      ⟨fun W h => u16_any (some ad) c0 l W HB.out hlen h HCC.out 16 (by omega) u16 HU16.out⟩
    have h18 : Aside0 (∀ W, Kd.C (Kd.int .u8) W (some ad) l.length l → Calls Try.prog 38 #[.slice (some ad) l.length c0, .int .u64 18] W fun e w' => e = .returned (.tuple #[.int .u16 u18, .int .i64 0]) ∧ ∃ m, w' = W.drewN m) :=
      ⟨fun W h => u16_any (some ad) c0 l W HB.out hlen h HCC.out 18 (by omega) u18 HU18.out⟩
    have hr2 := HF.out
    rw [HR.out] at hr2
    clear HF HR
    by_cases c1 : (!s.toList == [127, 69, 76, 70]) = true
    · rw [if_pos c1] at hr2
      subst hr2
      go_enter Try.func36, Try.ntmps36
      go_wp2
      all_goals
        go_ret2
        exact ⟨rfl, 0, rfl⟩
    · rw [if_neg c1] at hr2
      have c1' : (!s.toList == [127, 69, 76, 70]) = false := by simpa using c1
      clear c1
      by_cases c2 : b4 ≠ 2 ∨ b5 ≠ 1 ∨ b6 ≠ 1
      · rw [if_pos c2] at hr2
        subst hr2
        have c3 : (b4 != 2) = true ∨ (b4 != 2) = false ∧ (b5 != 1) = true ∨ (b4 != 2) = false ∧ (b5 != 1) = false ∧ (b6 != 1) = true := by
          simp only [bne_iff_ne, bne_eq_false_iff_eq]
          omega
        clear c2
        rcases c3 with d4 | ⟨d4, d5⟩ | ⟨d4, d5, d6⟩
        all_goals
          go_enter Try.func36, Try.ntmps36
          go_wp2
          go_ret2
          exact ⟨rfl, 0, rfl⟩
      · rw [if_neg c2] at hr2
        have d4 : (b4 != 2) = false := by simp only [bne_eq_false_iff_eq]; omega
        have d5 : (b5 != 1) = false := by simp only [bne_eq_false_iff_eq]; omega
        have d6 : (b6 != 1) = false := by simp only [bne_eq_false_iff_eq]; omega
        clear c2
        by_cases c3 : u16 ≠ 3
        · rw [if_pos c3] at hr2
          subst hr2
          have e16 : (u16 != 3) = true := by simpa using c3
          clear c3
          go_enter Try.func36, Try.ntmps36
          go_wp2_with (go_at_call 38; refine (h16.out _ HC.out).mono ?_; rintro e W ⟨rfl, m, rfl⟩)
          go_ret2
          exact ⟨rfl, m, rfl⟩
        · rw [if_neg c3] at hr2
          obtain rfl : u16 = 3 := by omega
          clear c3
          by_cases c4 : u18 ≠ 62 ∧ u18 ≠ 183
          · rw [if_pos c4] at hr2
            subst hr2
            have e1 : (u18 != 62) = true := by simpa using c4.1
            have e2 : (u18 != 183) = true := by simpa using c4.2
            clear c4
            go_enter Try.func36, Try.ntmps36
            go_wp2_with (first | (go_at_call 38; (with_reducible refine (h16.out _ HC.out).mono ?_); rintro e W ⟨rfl, m, rfl⟩) | (go_at_call 38; (with_reducible refine (h18.out _ (Kd.C_drewN HC.out m)).mono ?_); rintro e W ⟨rfl, m2, rfl⟩))
            go_ret2
            exact ⟨rfl, _, rfl⟩
          · rw [if_neg c4] at hr2
            subst hr2
            have e1 : (u18 != 62) = false ∨ (u18 != 62) = true ∧ (u18 != 183) = false := by
              simp only [bne_iff_ne, bne_eq_false_iff_eq]
              omega
            clear c4
            rcases e1 with e1 | ⟨e1, e2⟩
            all_goals
              go_enter Try.func36, Try.ntmps36
              go_wp2_with (first | (go_at_call 38; (with_reducible refine (h16.out _ HC.out).mono ?_); rintro e W ⟨rfl, m, rfl⟩) | (go_at_call 38; (with_reducible refine (h18.out _ (Kd.C_drewN HC.out m)).mono ?_); rintro e W ⟨rfl, m2, rfl⟩))
              go_ret2
              exact ⟨rfl, _, rfl⟩
theorem range_blk {w : World} {g : Nat} {t : TypeId} {cs : Array Value} (h : w.heap[g]? = some (.cells cs t (0, 0))) : w.rangeAt g 0 cs.toList := by
  intro j v hv
  rw [Nat.zero_add, blk_cell h]
  simpa using hv
theorem load_block {P : Program} {ops : Array Oper} {rest : List Oper} {o : Oper} {a : Act} {Q : Exit → Act → World → Prop} {W : World} {ty : TypeId} {x : Operand} {g : Nat} {t : TypeId} {cs : Array Value} {d : TypeDesc}
    (hgd : o.guard = none) (ho : o.op = .load ty x) (hx : a.eval x = .pointer (some ⟨g, 0, none⟩)) (hb : W.heap[g]? = some (.cells cs t (0, 0)))
    (hu : P.underlying ty = some d) (hd : d.isRow = true) (hi : (P.info? ty).map (·.size) = some cs.size)
    (h : wpList P ops Q rest (a.put o.dst (.agg cs)) W) : wpList P ops Q (o :: rest) a W :=
  wpList_load_mid hgd ty x ho g 0 hx cs.toList d (range_blk hb) hu hd (by simpa using hi) (by simpa using h)
/-- Between two calls of a round: the header's variable at block g, the rows ahead of it. -/
structure PB (w : World) (g : Nat) (o : Value) (out : List S32) (W : World) (x0 x1 x2 x3 x4 x5 x6 : Int) : Prop where
  blk : W.heap[g]? = some (.cells #[.int .u32 x0, .int .u32 x1, .int .u64 x2, .int .u64 x3, .int .u64 x4, .int .u64 x5, .int .u64 x6] 32 (0, 0))
  below : Below w.heap.size w W
  base : w.heap.size ≤ g
  row : Kd.R k32 32 W w.heap.size (fun k => k < g) o out
theorem PB.start {w wr : World} {o : Value} {out : List S32} (hr : Kd.R k32 32 wr w.heap.size (fun _ => True) o out) (hb : Below w.heap.size w wr) : PB w wr.heap.size o out (wr.alloc (.cells #[.int .u32 0, .int .u32 0, .int .u64 0, .int .u64 0, .int .u64 0, .int .u64 0, .int .u64 0] 32)) 0 0 0 0 0 0 0 :=
  ⟨blk_new wr _, below_alloc hb _, hb.size, Kd.R_move (Kd.R_mono (Kd.R_bound hr) fun k hk => hk.2.2.1) fun k hk => Below.heap_alloc _ _ _ hk⟩
theorem PB.drewN {w W : World} {g : Nat} {o : Value} {out : List S32} {x0 x1 x2 x3 x4 x5 x6 : Int} (h : PB w g o out W x0 x1 x2 x3 x4 x5 x6) (m : Nat) : PB w g o out (W.drewN m) x0 x1 x2 x3 x4 x5 x6 :=
  ⟨h.blk, pw_below_drewN h.below m, h.base, Kd.R_move h.row fun _ _ => rfl⟩
theorem PB.put {w W : World} {g : Nat} {o : Value} {out : List S32} {x0 x1 x2 x3 x4 x5 x6 y0 y1 y2 y3 y4 y5 y6 : Int} (h : PB w g o out W x0 x1 x2 x3 x4 x5 x6) (i : Nat) (u : Value)
    (e : (#[.int .u32 x0, .int .u32 x1, .int .u64 x2, .int .u64 x3, .int .u64 x4, .int .u64 x5, .int .u64 x6] : Array Value).setIfInBounds i u = #[.int .u32 y0, .int .u32 y1, .int .u64 y2, .int .u64 y3, .int .u64 y4, .int .u64 y5, .int .u64 y6]) :
    PB w g o out (W.setCell ⟨g, i, none⟩ u) y0 y1 y2 y3 y4 y5 y6 :=
  ⟨blk_put h.blk i u e, h.below.setCell (p := ⟨g, i, none⟩) h.base u, h.base, Kd.R_move h.row fun k hk => Below.heap_setCell _ _ _ k (by show k ≠ g; omega)⟩
theorem PB.alloc {w W : World} {g : Nat} {o : Value} {out : List S32} {x0 x1 x2 x3 x4 x5 x6 : Int} (h : PB w g o out W x0 x1 x2 x3 x4 x5 x6) (ob : Obj) : PB w g o out (W.alloc ob) x0 x1 x2 x3 x4 x5 x6 :=
  ⟨blk_alloc h.blk ob, below_alloc h.below ob, h.base, Kd.R_move h.row fun k hk => Below.heap_alloc _ _ _ (by have := blk_lt h.blk; omega)⟩
theorem PB.cell {w W : World} {g : Nat} {o : Value} {out : List S32} {x0 x1 x2 x3 x4 x5 x6 : Int} (h : PB w g o out W x0 x1 x2 x3 x4 x5 x6) (i : Nat) (u : Value)
    (e : (#[.int .u32 x0, .int .u32 x1, .int .u64 x2, .int .u64 x3, .int .u64 x4, .int .u64 x5, .int .u64 x6] : Array Value)[i]? = some u) : W.cell? ⟨g, i, none⟩ = some u ∧ W.frozen? ⟨g, i, none⟩ = false :=
  ⟨(blk_cell h.blk i).trans e, blk_frozen h.blk i⟩
set_option maxRecDepth 1000000 in
set_option maxHeartbeats 4000000 in
theorem table_in (A0 : Option Addr) (c0 : Nat) (l : List Int) (w : World) (hb : Bytes l) (hlen : l.length ≤ 4611686018427387904) (hr0 : Kd.C (Kd.int .u8) w A0 l.length l) (hc0 : l.length ≤ c0) (r : List S32 × Int) (hr : tableOf l = r) :
    Calls Try.prog 11 #[.slice A0 l.length c0] w fun e w' => ∃ v0_ : Value, e = .returned (.tuple #[v0_, .int .i64 r.2]) ∧ Kd.R k32 32 w' w.heap.size (fun _ => True) v0_ r.1 ∧ Below w.heap.size w w' := by
  have HR := Aside0.mk hr
  have HC := Aside0.mk hr0
  have HCC := Aside0.mk hc0
  have HB := Aside0.mk hb
  clear hr hr0 hc0 hb
  have hf := first_in A0 c0 l w HB.out hlen HC.out HCC.out _ rfl
  have H64 : Aside0 ((firstOf l).2 = 0 → 64 ≤ l.length) := ⟨by
    unfold firstOf
    split
    · intro h; cases h
    · intro _; omega⟩
  obtain ⟨m0, e0, hme⟩ : ∃ m0 e0, firstOf l = (m0, e0) := ⟨_, _, rfl⟩
  rw [hme] at hf H64
  have HF := Aside0.mk hf
  have HME := Aside0.mk hme
  clear hf hme
  by_cases he : e0 = 0
  · subst he
    have h64 : 64 ≤ l.length := H64.out rfl
    obtain ⟨at_, hat⟩ : ∃ x, U l 32 8 = x := ⟨_, rfl⟩
    obtain ⟨own, how⟩ : ∃ x, U l 52 2 = x := ⟨_, rfl⟩
    obtain ⟨one, hon⟩ : ∃ x, U l 54 2 = x := ⟨_, rfl⟩
    obtain ⟨many, hma⟩ : ∃ x, U l 56 2 = x := ⟨_, rfl⟩
    have hab := U_bound l HB.out 32 8 (by omega)
    have hmb := U_bound l HB.out 56 2 (by omega)
    rw [hat] at hab
    rw [hma] at hmb
    obtain ⟨ha0, ha1⟩ := hab
    obtain ⟨hm0, hm1⟩ := hmb
    have HAT := Aside0.mk hat
    have HOW := Aside0.mk how
    have HON := Aside0.mk hon
    have HMA := Aside0.mk hma
    clear hat how hon hma
    have f32 : Aside0 (∀ W, Kd.C (Kd.int .u8) W A0 l.length l → Calls Try.prog 37 #[.slice A0 l.length c0, .int .u64 32] W fun e w' => e = .returned (.tuple #[.int .u64 at_, .int .i64 0]) ∧ ∃ m, w' = W.drewN m) :=
      ⟨fun W h => u64_any A0 c0 l W HB.out hlen h HCC.out 32 (by omega) at_ HAT.out⟩
    have f52 : Aside0 (∀ W, Kd.C (Kd.int .u8) W A0 l.length l → Calls Try.prog 38 #[.slice A0 l.length c0, .int .u64 52] W fun e w' => e = .returned (.tuple #[.int .u16 own, .int .i64 0]) ∧ ∃ m, w' = W.drewN m) :=
      ⟨fun W h => u16_any A0 c0 l W HB.out hlen h HCC.out 52 (by omega) own HOW.out⟩
    have f54 : Aside0 (∀ W, Kd.C (Kd.int .u8) W A0 l.length l → Calls Try.prog 38 #[.slice A0 l.length c0, .int .u64 54] W fun e w' => e = .returned (.tuple #[.int .u16 one, .int .i64 0]) ∧ ∃ m, w' = W.drewN m) :=
      ⟨fun W h => u16_any A0 c0 l W HB.out hlen h HCC.out 54 (by omega) one HON.out⟩
    have f56 : Aside0 (∀ W, Kd.C (Kd.int .u8) W A0 l.length l → Calls Try.prog 38 #[.slice A0 l.length c0, .int .u64 56] W fun e w' => e = .returned (.tuple #[.int .u16 many, .int .i64 0]) ∧ ∃ m, w' = W.drewN m) :=
      ⟨fun W h => u16_any A0 c0 l W HB.out hlen h HCC.out 56 (by omega) many HMA.out⟩
    have hinside : headsFit l ↔ (own = 64 ∧ one = 56 ∧ 1 ≤ many ∧ many ≤ 16 ∧ at_ + many * 56 ≤ l.length) := by
      unfold headsFit
      rw [HAT.out, HOW.out, HON.out, HMA.out]
    by_cases hfit : headsFit l
    · obtain ⟨q1, q2, q3, q4, q5⟩ := hinside.1 hfit
      have HR2 : Aside0 (r = ((List.range many.toNat).map fun i => headAt l (at_.toNat + 56 * i), 0)) := ⟨by
        rw [← HR.out]
        unfold tableOf
        rw [HME.out, if_neg (by simp), if_pos hfit, HMA.out, HAT.out]⟩
      subst q1
      subst q2
      have HI : Aside0 (num_Inside.f at_ (many * 56) 0 (l.length : Int) = some true) := ⟨by
        unfold num_Inside.f num_Sub.f
        rw [if_neg (by omega), w64 _ (by omega) (by omega)]
        simp only [Option.bind_some, if_true]
        rw [if_pos (by omega), w64 _ (by omega) (by omega)]
        simp
        omega⟩
      clear hfit hinside HR
      have hlw : (l.length : Int) < 18446744073709551616 := by omega
      have Q5 := Aside0.mk q5
      have q3' : decide (many < 1) = false := by simp; omega
      have q4' : decide (16 < many) = false := by simp; omega
      clear q5 q3 q4
      go_enter Try.func11, Try.ntmps11
      go_wp2_with (first | (go_at_call 39; refine (inside_any _ _ _ _ _ _ HI.out).mono ?_; rintro e W ⟨rfl, m5, rfl⟩) | (first | (go_at_call 36; (with_reducible refine HF.out.mono ?_); rintro e W ⟨rfl, m, rfl⟩) | (go_at_call 37; (with_reducible refine (f32.out _ (Kd.C_drewN HC.out _)).mono ?_); rintro e W ⟨rfl, m1, rfl⟩) | (go_at_call 38; (with_reducible refine (f52.out _ (Kd.C_drewN HC.out _)).mono ?_); rintro e W ⟨rfl, m2, rfl⟩) | (go_at_call 38; (with_reducible refine (f54.out _ (Kd.C_drewN HC.out _)).mono ?_); rintro e W ⟨rfl, m3, rfl⟩) | (go_at_call 38; (with_reducible refine (f56.out _ (Kd.C_drewN HC.out _)).mono ?_); rintro e W ⟨rfl, m4, rfl⟩)))
      obtain ⟨wo, hwo⟩ : ∃ wo : World, wo = w.drewN (m + m1 + m2 + m3 + m4 + m5) := ⟨_, rfl⟩
      rw [← hwo]
      have HBO : Aside0 (Below w.heap.size w wo) := ⟨by rw [hwo]; exact pw_below_drewN (Below.refl _ _) _⟩
      clear hwo
      go_loopw [6, 14, 72] (fun a o i wr => ∃ j : Nat, i = .int .u16 (j : Int) ∧ a = .int .u64 (at_ + 56 * j) ∧ (j : Int) ≤ many ∧ Kd.R k32 32 wr w.heap.size (fun _ => True) o ((List.range j).map fun i => headAt l (at_.toNat + 56 * i)) ∧ Below w.heap.size w wr) (fun _ _ i _ => many.toNat - (intOf i).toNat)
      case atStart => exact ⟨0, rfl, by simp, hm0, Kd.R_nil _ _ _ _ _, HBO.out⟩
      case round =>
        obtain ⟨j, rfl, rfl, hj, hRo, hBr⟩ := hrel
        have HRo := Aside0.mk hRo
        have HBr := Aside0.mk hBr
        clear hRo hBr
        have HCR := Aside0.mk (Kd.C_below HC.out HBr.out)
        by_cases hlt : (j : Int) < many
        · obtain ⟨a, ha⟩ : ∃ a : Nat, (a : Int) = at_ + 56 * j := ⟨(at_ + 56 * j).toNat, by omega⟩
          have hal : a + 56 ≤ l.length := by have := Q5.out; omega
          rw [← ha]
          have HA := Aside0.mk ha
          have ha64 : (a : Int) < 4611686018427387904 := by omega
          clear ha
          obtain ⟨x0, hx0⟩ : ∃ x, U l a 4 = x := ⟨_, rfl⟩
          obtain ⟨x1, hx1⟩ : ∃ x, U l (a + 4) 4 = x := ⟨_, rfl⟩
          obtain ⟨x2, hx2⟩ : ∃ x, U l (a + 8) 8 = x := ⟨_, rfl⟩
          obtain ⟨x3, hx3⟩ : ∃ x, U l (a + 16) 8 = x := ⟨_, rfl⟩
          obtain ⟨x4, hx4⟩ : ∃ x, U l (a + 32) 8 = x := ⟨_, rfl⟩
          obtain ⟨x5, hx5⟩ : ∃ x, U l (a + 40) 8 = x := ⟨_, rfl⟩
          obtain ⟨x6, hx6⟩ : ∃ x, U l (a + 48) 8 = x := ⟨_, rfl⟩
          have HX : Aside0 (headAt l a = ⟨x0, x1, x2, x3, x4, x5, x6⟩) := ⟨by unfold headAt; rw [hx0, hx1, hx2, hx3, hx4, hx5, hx6]⟩
          have F0 : Aside0 (∀ W, Kd.C (Kd.int .u8) W A0 l.length l → Calls Try.prog 40 #[.slice A0 l.length c0, .int .u64 (a : Int)] W fun e w' => e = .returned (.tuple #[.int .u32 x0, .int .i64 0]) ∧ ∃ m, w' = W.drewN m) :=
            ⟨fun W h => u32_any A0 c0 l W HB.out hlen h HCC.out a (by omega) x0 hx0⟩
          have F1 : Aside0 (∀ W, Kd.C (Kd.int .u8) W A0 l.length l → Calls Try.prog 40 #[.slice A0 l.length c0, .int .u64 ((a : Int) + 4)] W fun e w' => e = .returned (.tuple #[.int .u32 x1, .int .i64 0]) ∧ ∃ m, w' = W.drewN m) :=
            ⟨fun W h => u32_any A0 c0 l W HB.out hlen h HCC.out (a + 4) (by omega) x1 hx1⟩
          have G0 : Aside0 (∀ W, Kd.C (Kd.int .u8) W A0 l.length l → Calls Try.prog 37 #[.slice A0 l.length c0, .int .u64 ((a : Int) + 8)] W fun e w' => e = .returned (.tuple #[.int .u64 x2, .int .i64 0]) ∧ ∃ m, w' = W.drewN m) :=
            ⟨fun W h => u64_any A0 c0 l W HB.out hlen h HCC.out (a + 8) (by omega) x2 hx2⟩
          have G1 : Aside0 (∀ W, Kd.C (Kd.int .u8) W A0 l.length l → Calls Try.prog 37 #[.slice A0 l.length c0, .int .u64 ((a : Int) + 8 + 8)] W fun e w' => e = .returned (.tuple #[.int .u64 x3, .int .i64 0]) ∧ ∃ m, w' = W.drewN m) :=
            ⟨fun W h => u64_any A0 c0 l W HB.out hlen h HCC.out (a + 8 + 8) (by omega) x3 hx3⟩
          have G2 : Aside0 (∀ W, Kd.C (Kd.int .u8) W A0 l.length l → Calls Try.prog 37 #[.slice A0 l.length c0, .int .u64 ((a : Int) + 8 + 24)] W fun e w' => e = .returned (.tuple #[.int .u64 x4, .int .i64 0]) ∧ ∃ m, w' = W.drewN m) :=
            ⟨fun W h => u64_any A0 c0 l W HB.out hlen h HCC.out (a + 8 + 24) (by omega) x4 hx4⟩
          have G3 : Aside0 (∀ W, Kd.C (Kd.int .u8) W A0 l.length l → Calls Try.prog 37 #[.slice A0 l.length c0, .int .u64 ((a : Int) + 8 + 32)] W fun e w' => e = .returned (.tuple #[.int .u64 x5, .int .i64 0]) ∧ ∃ m, w' = W.drewN m) :=
            ⟨fun W h => u64_any A0 c0 l W HB.out hlen h HCC.out (a + 8 + 32) (by omega) x5 hx5⟩
          have G4 : Aside0 (∀ W, Kd.C (Kd.int .u8) W A0 l.length l → Calls Try.prog 37 #[.slice A0 l.length c0, .int .u64 ((a : Int) + 8 + 40)] W fun e w' => e = .returned (.tuple #[.int .u64 x6, .int .i64 0]) ∧ ∃ m, w' = W.drewN m) :=
            ⟨fun W h => u64_any A0 c0 l W HB.out hlen h HCC.out (a + 8 + 40) (by omega) x6 hx6⟩
          clear hx0 hx1 hx2 hx3 hx4 hx5 hx6
          have PB0 := Aside0.mk (PB.start HRo.out HBr.out)
          have hsz : (wr.alloc (.cells #[.int .u32 0, .int .u32 0, .int .u64 0, .int .u64 0, .int .u64 0, .int .u64 0, .int .u64 0] 32)).heap.size = wr.heap.size + 1 := by simp
          go_wp2_with (first
            | (go_at_call 40; (with_reducible refine (F0.out _ (Kd.C_below HC.out PB0.out.below)).mono ?_); rintro e W1 ⟨rfl, p0, hW⟩; have PB1 := Aside0.mk (show PB w wr.heap.size _ _ W1 0 0 0 0 0 0 0 from hW ▸ PB0.out.drewN p0); clear hW; obtain ⟨hc1, hf1⟩ := PB1.out.cell 0 _ rfl; have PP1 := Aside0.mk (show PB w wr.heap.size _ _ _ x0 0 0 0 0 0 0 from PB1.out.put 0 (.int .u32 x0) rfl))
            | (go_at_call 40; (with_reducible refine (F1.out _ (Kd.C_below HC.out PP1.out.below)).mono ?_); rintro e W2 ⟨rfl, p1, hW⟩; have PB2 := Aside0.mk (show PB w wr.heap.size _ _ W2 x0 0 0 0 0 0 0 from hW ▸ PP1.out.drewN p1); clear hW; obtain ⟨hc2, hf2⟩ := PB2.out.cell 1 _ rfl; have PP2 := Aside0.mk (show PB w wr.heap.size _ _ _ x0 x1 0 0 0 0 0 from PB2.out.put 1 (.int .u32 x1) rfl)))
          have LB0 : Aside0 (((W2.setCell { block := wr.heap.size, off := 1 } (Value.int IntKind.u32 x1)).alloc (Obj.cells #[Value.pointer (some { block := wr.heap.size, off := 2 }), Value.pointer (some { block := wr.heap.size, off := 3 }), Value.pointer none, Value.pointer (some { block := wr.heap.size, off := 4 }), Value.pointer (some { block := wr.heap.size, off := 5 }), Value.pointer (some { block := wr.heap.size, off := 6 })] 101)).heap[W2.heap.size]? = some (.cells #[Value.pointer (some { block := wr.heap.size, off := 2 }), Value.pointer (some { block := wr.heap.size, off := 3 }), Value.pointer none, Value.pointer (some { block := wr.heap.size, off := 4 }), Value.pointer (some { block := wr.heap.size, off := 5 }), Value.pointer (some { block := wr.heap.size, off := 6 })] 101 (0, 0))) := ⟨by
            have := blk_new (W2.setCell { block := wr.heap.size, off := 1 } (Value.int IntKind.u32 x1)) (Obj.cells #[Value.pointer (some { block := wr.heap.size, off := 2 }), Value.pointer (some { block := wr.heap.size, off := 3 }), Value.pointer none, Value.pointer (some { block := wr.heap.size, off := 4 }), Value.pointer (some { block := wr.heap.size, off := 5 }), Value.pointer (some { block := wr.heap.size, off := 6 })] 101)
            simpa using this⟩
          have PQ3 := Aside0.mk (PP2.out.alloc (Obj.cells #[Value.pointer (some { block := wr.heap.size, off := 2 }), Value.pointer (some { block := wr.heap.size, off := 3 }), Value.pointer none, Value.pointer (some { block := wr.heap.size, off := 4 }), Value.pointer (some { block := wr.heap.size, off := 5 }), Value.pointer (some { block := wr.heap.size, off := 6 })] 101))
          refine wp_loop_rounds 7 ?_
          rw [rounds_succ]
          go_wp2_with (go_at_call 37; (with_reducible refine (G0.out _ (Kd.C_below HC.out PQ3.out.below)).mono ?_); rintro e W3 ⟨rfl, p2, hW⟩; have PB3 := Aside0.mk (show PB w wr.heap.size _ _ W3 x0 x1 0 0 0 0 0 from hW ▸ PQ3.out.drewN p2); have LB3 := Aside0.mk (show W3.heap[W2.heap.size]? = some (.cells #[Value.pointer (some { block := wr.heap.size, off := 2 }), Value.pointer (some { block := wr.heap.size, off := 3 }), Value.pointer none, Value.pointer (some { block := wr.heap.size, off := 4 }), Value.pointer (some { block := wr.heap.size, off := 5 }), Value.pointer (some { block := wr.heap.size, off := 6 })] 101 (0, 0)) from hW ▸ LB0.out); clear hW; obtain ⟨hc3, hf3⟩ := PB3.out.cell 2 _ rfl; have PP3 := Aside0.mk (show PB w wr.heap.size _ _ _ x0 x1 x2 0 0 0 0 from PB3.out.put 2 (.int .u64 x2) rfl); have LP3 := Aside0.mk (blk_far LB3.out (p := ⟨wr.heap.size, 2, none⟩) (blk_ne LB3.out PB3.out.blk (by decide)) (.int .u64 x2)); have hl3 := blk_cell LP3.out 1)
          simp only [List.getElem?_toArray, List.getElem?_cons_zero, List.getElem?_cons_succ] at hl3
          rw [rounds_succ]
          go_wp2_with (go_at_call 37; (with_reducible refine (G1.out _ (Kd.C_below HC.out PP3.out.below)).mono ?_); rintro e W4 ⟨rfl, p3, hW⟩; have PB4 := Aside0.mk (show PB w wr.heap.size _ _ W4 x0 x1 x2 0 0 0 0 from hW ▸ PP3.out.drewN p3); have LB4 := Aside0.mk (show W4.heap[W2.heap.size]? = some (.cells #[Value.pointer (some { block := wr.heap.size, off := 2 }), Value.pointer (some { block := wr.heap.size, off := 3 }), Value.pointer none, Value.pointer (some { block := wr.heap.size, off := 4 }), Value.pointer (some { block := wr.heap.size, off := 5 }), Value.pointer (some { block := wr.heap.size, off := 6 })] 101 (0, 0)) from hW ▸ LP3.out); clear hW; obtain ⟨hc4, hf4⟩ := PB4.out.cell 3 _ rfl; have PP4 := Aside0.mk (show PB w wr.heap.size _ _ _ x0 x1 x2 x3 0 0 0 from PB4.out.put 3 (.int .u64 x3) rfl); have LP4 := Aside0.mk (blk_far LB4.out (p := ⟨wr.heap.size, 3, none⟩) (blk_ne LB4.out PB4.out.blk (by decide)) (.int .u64 x3)); have hl4 := blk_cell LP4.out 3; have hl4b := blk_cell LP4.out 2)
          simp only [List.getElem?_toArray, List.getElem?_cons_zero, List.getElem?_cons_succ] at hl4 hl4b
          rw [rounds_succ]
          go_wp2
          rw [rounds_succ]
          go_wp2_with (go_at_call 37; (with_reducible refine (G2.out _ (Kd.C_below HC.out PP4.out.below)).mono ?_); rintro e W5 ⟨rfl, p4, hW⟩; have PB5 := Aside0.mk (show PB w wr.heap.size _ _ W5 x0 x1 x2 x3 0 0 0 from hW ▸ PP4.out.drewN p4); have LB5 := Aside0.mk (show W5.heap[W2.heap.size]? = some (.cells #[Value.pointer (some { block := wr.heap.size, off := 2 }), Value.pointer (some { block := wr.heap.size, off := 3 }), Value.pointer none, Value.pointer (some { block := wr.heap.size, off := 4 }), Value.pointer (some { block := wr.heap.size, off := 5 }), Value.pointer (some { block := wr.heap.size, off := 6 })] 101 (0, 0)) from hW ▸ LP4.out); clear hW; obtain ⟨hc5, hf5⟩ := PB5.out.cell 4 _ rfl; have PP5 := Aside0.mk (show PB w wr.heap.size _ _ _ x0 x1 x2 x3 x4 0 0 from PB5.out.put 4 (.int .u64 x4) rfl); have LP5 := Aside0.mk (blk_far LB5.out (p := ⟨wr.heap.size, 4, none⟩) (blk_ne LB5.out PB5.out.blk (by decide)) (.int .u64 x4)); have hl5 := blk_cell LP5.out 4)
          simp only [List.getElem?_toArray, List.getElem?_cons_zero, List.getElem?_cons_succ] at hl5
          rw [rounds_succ]
          go_wp2_with (go_at_call 37; (with_reducible refine (G3.out _ (Kd.C_below HC.out PP5.out.below)).mono ?_); rintro e W6 ⟨rfl, p5, hW⟩; have PB6 := Aside0.mk (show PB w wr.heap.size _ _ W6 x0 x1 x2 x3 x4 0 0 from hW ▸ PP5.out.drewN p5); have LB6 := Aside0.mk (show W6.heap[W2.heap.size]? = some (.cells #[Value.pointer (some { block := wr.heap.size, off := 2 }), Value.pointer (some { block := wr.heap.size, off := 3 }), Value.pointer none, Value.pointer (some { block := wr.heap.size, off := 4 }), Value.pointer (some { block := wr.heap.size, off := 5 }), Value.pointer (some { block := wr.heap.size, off := 6 })] 101 (0, 0)) from hW ▸ LP5.out); clear hW; obtain ⟨hc6, hf6⟩ := PB6.out.cell 5 _ rfl; have PP6 := Aside0.mk (show PB w wr.heap.size _ _ _ x0 x1 x2 x3 x4 x5 0 from PB6.out.put 5 (.int .u64 x5) rfl); have LP6 := Aside0.mk (blk_far LB6.out (p := ⟨wr.heap.size, 5, none⟩) (blk_ne LB6.out PB6.out.blk (by decide)) (.int .u64 x5)); have hl6 := blk_cell LP6.out 5)
          simp only [List.getElem?_toArray, List.getElem?_cons_zero, List.getElem?_cons_succ] at hl6
          rw [rounds_succ]
          go_wp2_with (go_at_call 37; (with_reducible refine (G4.out _ (Kd.C_below HC.out PP6.out.below)).mono ?_); rintro e W7 ⟨rfl, p6, hW⟩; have PB7 := Aside0.mk (show PB w wr.heap.size _ _ W7 x0 x1 x2 x3 x4 x5 0 from hW ▸ PP6.out.drewN p6); have LB7 := Aside0.mk (show W7.heap[W2.heap.size]? = some (.cells #[Value.pointer (some { block := wr.heap.size, off := 2 }), Value.pointer (some { block := wr.heap.size, off := 3 }), Value.pointer none, Value.pointer (some { block := wr.heap.size, off := 4 }), Value.pointer (some { block := wr.heap.size, off := 5 }), Value.pointer (some { block := wr.heap.size, off := 6 })] 101 (0, 0)) from hW ▸ LP6.out); clear hW; obtain ⟨hc7, hf7⟩ := PB7.out.cell 6 _ rfl; have PP7 := Aside0.mk (show PB w wr.heap.size _ _ _ x0 x1 x2 x3 x4 x5 x6 from PB7.out.put 6 (.int .u64 x6) rfl); have LP7 := Aside0.mk (blk_far LB7.out (p := ⟨wr.heap.size, 6, none⟩) (blk_ne LB7.out PB7.out.blk (by decide)) (.int .u64 x6)); have hl7 := blk_cell LP7.out 5)
          simp only [List.getElem?_toArray, List.getElem?_cons_zero, List.getElem?_cons_succ] at hl7
          rw [rounds_succ]
          have hlen2 : (((List.range j).map fun i => headAt l (at_.toNat + 56 * i)).length + 1) * 48 ≤ 140737488355328 := by rw [List.length_map, List.length_range]; omega
          go_wp2_with (first
            | ((with_reducible refine gate_dst (N := 119) rfl ?_); refine load_block rfl rfl rfl PP7.out.blk Try.underlying32 rfl (by kernel_rfl) ?_)
            | ((with_reducible refine gate_builtin (b := .append) (xs := #[.tmp 118, .tmp 120]) rfl ?_); at_builtin; refine Kd.R_append k32 (w0 := w) w.heap.size rfl (.tmp 118) (.tmp 120) 23 32 (.agg #[(.int .u32 0), (.int .u32 0), (.int .u64 0), (.int .u64 0), (.int .u64 0), (.int .u64 0), (.int .u64 0)]) 48 rfl Try.underlying23 info32 rfl (by decide) (by omega) u14 ((List.range j).map fun i => headAt l (at_.toNat + 56 * i)) (⟨x0, x1, x2, x3, x4, x5, x6⟩ : S32) [.int .u32 x0, .int .u32 x1, .int .u64 x2, .int .u64 x3, .int .u64 x4, .int .u64 x5, .int .u64 x6] (fun _ => True) (fun _ => False) rfl (by show Value.slice (some ⟨W7.heap.size, 0, none⟩) 1 1 = _; simp) (k32_mkM _ _ _ (⟨x0, x1, x2, x3, x4, x5, x6⟩ : S32)) (fun _ hk => hk.elim) (fun _ _ => trivial) (Kd.R_mono PP7.out.row (fun _ _ => trivial)) PP7.out.below PP7.out.below.size hlen2 ?_; intro v1 w1 ho1 hb1 _ _; have HO1 := Aside0.mk ho1; have HB1 := Aside0.mk hb1; clear ho1 hb1))
          go_roundw
          case rel =>
            refine ⟨j + 1, by go_num, ?_, by omega, ?_, HB1.out⟩
            · have h := HA.out
              congr 1
              omega
            · have h := HO1.out
              rw [List.range_succ, List.map_append, List.map_cons, List.map_nil]
              have e : at_.toNat + 56 * j = a := by have := HA.out; omega
              rw [e, HX.out]
              exact h
          case measure => simp [intOf]; omega
        · have hjm : (j : Int) = many := by omega
          have hjd : decide ((j : Int) < many) = false := by simp; omega
          have HJM := Aside0.mk hjm
          clear hjm
          go_wp2
          go_ret2
          have hr3 := HR2.out
          subst hr3
          refine ⟨u14, rfl, ?_, HBr.out⟩
          have h := HRo.out
          rw [← HJM.out]
          exact h
    · have hr2 : r = ([], 84) := by
        rw [← HR.out]
        unfold tableOf
        rw [HME.out, if_neg (by simp), if_neg hfit]
      subst hr2
      have hc : (own != 64) = true ∨ (own != 64) = false ∧ ((one != 56) = true ∨ (one != 56) = false ∧ (many < 1 ∨ ¬ many < 1 ∧ (16 < many ∨ ¬ 16 < many ∧ num_Inside.f at_ (many * 56) 0 (l.length : Int) = some false))) := by
        simp only [bne_iff_ne, bne_eq_false_iff_eq]
        by_cases b1 : own = 64
        · refine .inr ⟨b1, ?_⟩
          by_cases b2 : one = 56
          · refine .inr ⟨b2, ?_⟩
            by_cases b3 : many < 1
            · exact .inl b3
            · refine .inr ⟨b3, ?_⟩
              by_cases b4 : 16 < many
              · exact .inl b4
              · refine .inr ⟨b4, ?_⟩
                have b5 : ¬ at_ + many * 56 ≤ l.length := fun h => hfit (hinside.2 ⟨b1, b2, by omega, by omega, h⟩)
                unfold num_Inside.f num_Sub.f
                rw [if_neg (by omega), w64 _ (by omega) (by omega)]
                simp only [Option.bind_some, if_true]
                by_cases b6 : at_ - 0 ≤ (l.length : Int)
                · rw [if_pos b6, w64 _ (by omega) (by omega)]
                  simp
                  omega
                · rw [if_neg b6]
          · exact .inl b2
        · exact .inl b1
      clear hfit hinside
      have hlw : (l.length : Int) < 18446744073709551616 := by omega
      rcases hc with d1 | ⟨d1, d2 | ⟨d2, d3 | ⟨d3, d4 | ⟨d4, d5⟩⟩⟩⟩
      · go_enter Try.func11, Try.ntmps11
        go_wp2_with (first | (go_at_call 36; (with_reducible refine HF.out.mono ?_); rintro e W ⟨rfl, m, rfl⟩) | (go_at_call 37; (with_reducible refine (f32.out _ (Kd.C_drewN HC.out _)).mono ?_); rintro e W ⟨rfl, m1, rfl⟩) | (go_at_call 38; (with_reducible refine (f52.out _ (Kd.C_drewN HC.out _)).mono ?_); rintro e W ⟨rfl, m2, rfl⟩) | (go_at_call 38; (with_reducible refine (f54.out _ (Kd.C_drewN HC.out _)).mono ?_); rintro e W ⟨rfl, m3, rfl⟩) | (go_at_call 38; (with_reducible refine (f56.out _ (Kd.C_drewN HC.out _)).mono ?_); rintro e W ⟨rfl, m4, rfl⟩))
        go_ret2
        exact ⟨_, rfl, Kd.R_nil _ _ _ _ _, pw_below_drewN (Below.refl _ _) _⟩
      · go_enter Try.func11, Try.ntmps11
        go_wp2_with (first | (go_at_call 36; (with_reducible refine HF.out.mono ?_); rintro e W ⟨rfl, m, rfl⟩) | (go_at_call 37; (with_reducible refine (f32.out _ (Kd.C_drewN HC.out _)).mono ?_); rintro e W ⟨rfl, m1, rfl⟩) | (go_at_call 38; (with_reducible refine (f52.out _ (Kd.C_drewN HC.out _)).mono ?_); rintro e W ⟨rfl, m2, rfl⟩) | (go_at_call 38; (with_reducible refine (f54.out _ (Kd.C_drewN HC.out _)).mono ?_); rintro e W ⟨rfl, m3, rfl⟩) | (go_at_call 38; (with_reducible refine (f56.out _ (Kd.C_drewN HC.out _)).mono ?_); rintro e W ⟨rfl, m4, rfl⟩))
        go_ret2
        exact ⟨_, rfl, Kd.R_nil _ _ _ _ _, pw_below_drewN (Below.refl _ _) _⟩
      · go_enter Try.func11, Try.ntmps11
        go_wp2_with (first | (go_at_call 36; (with_reducible refine HF.out.mono ?_); rintro e W ⟨rfl, m, rfl⟩) | (go_at_call 37; (with_reducible refine (f32.out _ (Kd.C_drewN HC.out _)).mono ?_); rintro e W ⟨rfl, m1, rfl⟩) | (go_at_call 38; (with_reducible refine (f52.out _ (Kd.C_drewN HC.out _)).mono ?_); rintro e W ⟨rfl, m2, rfl⟩) | (go_at_call 38; (with_reducible refine (f54.out _ (Kd.C_drewN HC.out _)).mono ?_); rintro e W ⟨rfl, m3, rfl⟩) | (go_at_call 38; (with_reducible refine (f56.out _ (Kd.C_drewN HC.out _)).mono ?_); rintro e W ⟨rfl, m4, rfl⟩))
        go_ret2
        exact ⟨_, rfl, Kd.R_nil _ _ _ _ _, pw_below_drewN (Below.refl _ _) _⟩
      · go_enter Try.func11, Try.ntmps11
        go_wp2_with (first | (go_at_call 36; (with_reducible refine HF.out.mono ?_); rintro e W ⟨rfl, m, rfl⟩) | (go_at_call 37; (with_reducible refine (f32.out _ (Kd.C_drewN HC.out _)).mono ?_); rintro e W ⟨rfl, m1, rfl⟩) | (go_at_call 38; (with_reducible refine (f52.out _ (Kd.C_drewN HC.out _)).mono ?_); rintro e W ⟨rfl, m2, rfl⟩) | (go_at_call 38; (with_reducible refine (f54.out _ (Kd.C_drewN HC.out _)).mono ?_); rintro e W ⟨rfl, m3, rfl⟩) | (go_at_call 38; (with_reducible refine (f56.out _ (Kd.C_drewN HC.out _)).mono ?_); rintro e W ⟨rfl, m4, rfl⟩))
        go_ret2
        exact ⟨_, rfl, Kd.R_nil _ _ _ _ _, pw_below_drewN (Below.refl _ _) _⟩
      · have HI := Aside0.mk d5
        clear d5
        go_enter Try.func11, Try.ntmps11
        go_wp2_with (first | (go_at_call 39; refine (inside_any _ _ _ _ _ _ HI.out).mono ?_; rintro e W ⟨rfl, m5, rfl⟩) | (first | (go_at_call 36; (with_reducible refine HF.out.mono ?_); rintro e W ⟨rfl, m, rfl⟩) | (go_at_call 37; (with_reducible refine (f32.out _ (Kd.C_drewN HC.out _)).mono ?_); rintro e W ⟨rfl, m1, rfl⟩) | (go_at_call 38; (with_reducible refine (f52.out _ (Kd.C_drewN HC.out _)).mono ?_); rintro e W ⟨rfl, m2, rfl⟩) | (go_at_call 38; (with_reducible refine (f54.out _ (Kd.C_drewN HC.out _)).mono ?_); rintro e W ⟨rfl, m3, rfl⟩) | (go_at_call 38; (with_reducible refine (f56.out _ (Kd.C_drewN HC.out _)).mono ?_); rintro e W ⟨rfl, m4, rfl⟩)))
        go_ret2
        exact ⟨_, rfl, Kd.R_nil _ _ _ _ _, pw_below_drewN (Below.refl _ _) _⟩
  · have heb : (e0 != 0) = true := by simpa using he
    obtain rfl : r = ([], e0) := by
      rw [← HR.out]
      unfold tableOf
      rw [HME.out, if_pos he]
    clear he
    go_enter Try.func11, Try.ntmps11
    go_wp2_with (go_at_call 36; refine HF.out.mono ?_; rintro e W ⟨rfl, m, rfl⟩)
    go_ret2
    exact ⟨_, rfl, Kd.R_nil _ _ _ _ _, pw_below_drewN (Below.refl _ _) m⟩
end Go.Proofs.Ytlegpojjbeglhaa.HeadWalk
