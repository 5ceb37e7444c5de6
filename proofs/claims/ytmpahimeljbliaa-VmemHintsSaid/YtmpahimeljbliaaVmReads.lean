/- Bytes are read out of an address space. No condition but that the space lies in memory as told. -/
import Derived.Test.YtmpahimeljbliaaVmWrite
import Derived.OwnWalk
namespace Go.Proofs.Ytmpahimeljbliaa.Vm
open Go.RowKit Go.Proofs Go.Proofs.YtmpahimeljbliaaW.PrintWords

/-- The byte of a room at a place. -/
def byteAt (r : Rm) (q : Nat) : Int :=
  match r.ps[(q - r.at_) / 256]? with
  | some (some g) => g.data.getD ((q - r.at_) % 256) 0
  | _ => 0
def bytesAt (l : List Rm) (j x z : Nat) : List Int :=
  match l[j]? with
  | none => []
  | some r => (List.range z).map fun i => byteAt r (x + i)
def readF (l : List Rm) (x z : Nat) : List Int × Int :=
  if z > 16384 then ([], 52) else match mayF l x z 4 with
    | .error e => ([], e)
    | .ok y => (bytesAt l y.1 x z, 0)
theorem Holds.grown {w w' : World} {own : Nat → Option Role} {base a : Nat} {v : Value} {s : Sp} (h : Holds w own base a v s) {row : Option Nat} (hg : w.grownBy w' row) (hr : ∀ k, row = some k → own k = none) : Holds w' own base a v s :=
  h.keep hg.size (fun k hk => hg.block k (h.lt k hk).2 (fun e => hk (hr k e.symm)))
/-- A page's bytes, some of them. -/
theorem page_part {r : Rm} (hr : r.Good) {k : Nat} {g : Pg} (hg : r.ps[k]? = some (some g)) (f n : Nat) (hf : f + n ≤ 256) :
    (g.data.drop f).take n = (List.range n).map fun i => byteAt r (r.at_ + 256 * k + f + i) := by
  have hl := (hr.ok hg).len
  refine List.ext_getElem? fun i => ?_
  rw [List.getElem?_map]
  by_cases c : i < n
  · rw [List.getElem?_take_of_lt c, List.getElem?_drop, List.getElem?_range c]
    unfold byteAt
    simp only [Option.map_some]
    rw [show (r.at_ + 256 * k + f + i - r.at_) / 256 = k from by omega, show (r.at_ + 256 * k + f + i - r.at_) % 256 = f + i from by omega, hg]
    simp only []
    rw [List.getD_eq_getElem?_getD, List.getElem?_eq_getElem (by omega)]
    rfl
  · rw [List.getElem?_eq_none (by rw [List.length_take]; omega), List.getElem?_eq_none (by simp; omega)]
    rfl
theorem range_more (n m : Nat) (F : Nat → Int) : (List.range n).map F ++ ((List.range m).map fun i => F (n + i)) = (List.range (n + m)).map F := by
  rw [List.range_add, List.map_append, List.map_map]
  rfl
/-- append(out, page[f:f+n]...). -/
theorem app_blk {w : World} {ops : Array Oper} {rest : List Oper} {o : Oper} {a : Act} {Q : Exit → Act → World → Prop} (hgd : o.guard = none) (s x : Operand)
    (ho : o.op = .call { callee := .builtin .append, args := #[s, x], argTypes := #[22, 22] }) (base : Nat) (v : Value) (off : Nat) (xs : List Int) (hs : a.eval s = v) (hown : w.ownsRow base 5 1 v off (nums .u8 xs))
    (g : Pg) (hB : Blk w g.b (cellsP g) 90) (hlen : g.data.length = 256) (f n c : Nat) (hx : a.eval x = .slice (some ⟨g.b, 2 + f, none⟩) n c) (hf : f + n ≤ 256) (hoff : off + n ≤ 140737488355328) (hbase : base ≤ w.heap.size)
    (h : ∀ v' w', w'.ownsRow base 5 1 v' (off + n) (nums .u8 (xs ++ (g.data.drop f).take n)) → w.grownBy w' v.ownBlock → wpList Try.prog ops Q rest (a.put o.dst v') w') : wpList Try.prog ops Q (o :: rest) a w := by
  obtain ⟨i0, hi, hz0, hz1, hz2⟩ := info_parts info5
  refine wpList_append_own w hgd s x 22 ho base 5 i0 (.int .u8 0) 1 1 Try.underlying22 hi hz0 hz1 hz2 rfl (by omega) v off (nums .u8 xs) hs hown ⟨g.b, 2 + f, none⟩ n c (nums .u8 ((g.data.drop f).take n)) hx (by simp [nums]; omega) (fun j u hu => ?_) (fun u hu => ?_) (by unfold maxLen; omega) (by omega) hbase ?_
  · unfold nums at hu
    rw [List.getElem?_map] at hu
    obtain ⟨y, hy, rfl⟩ := Option.map_eq_some_iff.1 hu
    rw [add_at]
    have hjn : j < n := by have := (List.getElem?_eq_some_iff.1 hy).1; rw [List.length_take] at this; omega
    rw [List.getElem?_take_of_lt hjn, List.getElem?_drop] at hy
    refine hB.cell (2 + f + j) _ ?_
    unfold cellsP
    rw [List.getElem?_toArray, show 2 + f + j = (f + j) + 1 + 1 from by omega, List.getElem?_cons_succ, List.getElem?_cons_succ, List.getElem?_map, hy]
    rfl
  · obtain ⟨y, -, rfl⟩ := List.mem_map.1 hu
    rfl
  · intro v' w' ho' hg' _
    refine h v' w' ?_ hg'
    rw [nums, List.map_append]
    exact ho'
set_option maxRecDepth 100000 in
set_option maxHeartbeats 2000000 in
theorem read_in {w : World} {own : Nat → Option Role} {base a : Nat} {v : Value} {s : Sp} (h : Holds w own base a v s) (x z : Nat) (hx : x ≤ 18446744073709551615) (hz : z ≤ 18446744073709551615) :
    Calls Try.prog 33 #[.pointer (some ⟨a, 0, none⟩), .int .u64 x, .int .u64 z] w fun e w' => ∃ v' : Value, e = .returned (.tuple #[v', .int .i64 (readF s.rs x z).2]) ∧ w'.ownsRow w.heap.size 5 1 v' (readF s.rs x z).1.length (nums .u8 (readF s.rs x z).1) ∧ Below w.heap.size w w' := by
  have HQ : Calls Try.prog 61 #[.pointer (some ⟨a, 0, none⟩), .int .u64 x, .int .u64 z, .int .i64 4] w fun e w' => e = .returned (mayVal s.rs x z 4) ∧ Below w.heap.size w w' := may_in h x z 4 hx hz (.inr rfl)
  obtain ⟨L, hL⟩ : ∃ L, L = (readF s.rs x z).1 := ⟨_, rfl⟩
  obtain ⟨E, hE⟩ : ∃ E, E = (readF s.rs x z).2 := ⟨_, rfl⟩
  rw [← hL, ← hE]
  have HH := Aside0.mk h
  by_cases hbig : z > 16384
  · have HR := Aside0.mk (show L = [] ∧ E = 52 from by rw [hL, hE]; unfold readF; rw [if_pos hbig]; exact ⟨rfl, rfl⟩)
    clear hL hE h HQ
    go_enter Try.func33, Try.ntmps33
    go_wp2
    go_ret2
    exact ⟨_, by rw [HR.out.2]; rfl, by rw [HR.out.1]; exact own_nil _ _ _ _, Below.refl _ _⟩
  · cases ha : mayF s.rs x z 4 with
    | error er =>
      rw [show mayVal s.rs x z 4 = .tuple #[.slice none 0 0, .int .i64 er] from by unfold mayVal; rw [ha]] at HQ
      have HR := Aside0.mk (show L = [] ∧ E = er from by rw [hL, hE]; unfold readF; rw [if_neg hbig, ha]; exact ⟨rfl, rfl⟩)
      have her : (er != 0) = true := by
        unfold mayF at ha
        split at ha
        · injection ha with ha; rw [← ha]; decide
        · split at ha
          · cases ha
          · injection ha with ha; rw [← ha]; decide
      clear hL hE ha h
      go_enter Try.func33, Try.ntmps33
      go_wp2_with (go_at_call 61; (with_reducible refine HQ.mono ?_); rintro _ W1 ⟨rfl, hB1⟩; have HB1 := Aside0.mk hB1; clear hB1 HQ)
      go_ret2
      exact ⟨_, by rw [HR.out.2]; rfl, by rw [HR.out.1]; exact own_nil _ _ _ _, HB1.out⟩
    | ok y =>
      obtain ⟨r, hr, h1, h2, h3⟩ := all_row (may_row ha)
      rw [show mayVal s.rs x z 4 = .tuple #[rowVal s.rs y, .int .i64 0] from by unfold mayVal; rw [ha]] at HQ
      have HR := Aside0.mk (show L = (List.range z).map (fun i => byteAt r (x + i)) ∧ E = 0 from by rw [hL, hE]; unfold readF; rw [if_neg hbig, ha]; simp only [bytesAt, hr]; exact ⟨trivial, trivial⟩)
      have hrg := h.good.rm r (List.mem_of_getElem? hr)
      have hal := hrg.al
      have hx2 : x ≤ 1099511627776 := by have := hrg.hi; omega
      have hn := hrg.l2
      obtain ⟨i0, hi, hz0, hz1, hz2⟩ := info_parts info5
      have HI := Aside0.mk (And.intro hi (And.intro hz0 (And.intro hz1 hz2)))
      clear hi hz0 hz1 hz2
      rcases h3 with ⟨h3, h4, h5⟩ | ⟨h3, h4, h5, h6, h7, h8⟩
      · have hrow : rowVal s.rs y = .slice none 0 0 := by unfold rowVal; rw [if_pos (by omega)]
        rw [hrow] at HQ
        have HR2 := Aside0.mk (show L = [] from by rw [HR.out.1, h3]; rfl)
        clear hL hE ha h hrow h4 h5 h1 h2 hr hrg h3
        go_enter Try.func33, Try.ntmps33
        go_wp2_with (first
          | (go_at_call 61; (with_reducible refine HQ.mono ?_); rintro _ W1 ⟨rfl, hB1⟩; have HB1 := Aside0.mk hB1; clear hB1 HQ)
          | (at_make; refine wpList_make_own W1 rfl _ _ 22 rfl W1.heap.size 5 i0 (.int .u8 0) 1 Try.underlying22 HI.out.1 HI.out.2.1 HI.out.2.2.1 .i64 .u64 (z : Int) z rfl rfl rfl (by rw [HI.out.2.2.2]; omega) (by unfold maxLen; omega) (Nat.le_refl _) ?_; intro W2 ho2 hg2; have HO2 := Aside0.mk ho2; have HB2 := Aside0.mk (Below.grown (Below.refl W1.heap.size W1) hg2 (Nat.le_refl _) (fun k hk => by cases hk)); clear ho2 hg2))
        go_loop [10, 33] (fun v i => v = .slice (some ⟨W1.heap.size, 0, none⟩) 0 z ∧ i = .int .i64 0) (fun _ i => 0)
        case atStart => exact ⟨rfl, rfl⟩
        case round =>
          obtain ⟨rfl, rfl⟩ := hrel
          go_wp2
          go_ret2
          exact ⟨_, by rw [HR.out.2]; rfl, by rw [HR2.out]; exact own_weaken HO2.out HB1.out.size, below_then HB1.out HB1.out.size HB2.out⟩
      · have hrow : rowVal s.rs y = .slice (some ⟨r.ab, y.2.1, none⟩) (y.2.2 - y.2.1) (y.2.2 - y.2.1) := by unfold rowVal; rw [if_neg (by omega)]; simp only [hr]
        rw [hrow] at HQ
        obtain ⟨j, lo, hi⟩ := y
        simp only [] at hr h6 h7 h8 HQ h4 h5
        have HRm := Aside0.mk hr
        have HP := Aside0.mk h8
        have HRG := Aside0.mk hrg
        have hlo : r.at_ + 256 * lo + x % 256 = x := by unfold loOf at h4; omega
        have hhi : r.at_ + 256 * hi < x + z + 256 ∧ x + z ≤ r.at_ + 256 * hi := by unfold hiOf pagesN at h5; omega
        clear hL hE ha h hrow h4 h5 h1 h2 hr h8 hrg
        obtain ⟨T, hT⟩ : ∃ T, T = r.at_ := ⟨_, rfl⟩
        rw [← hT] at hlo hhi hal
        have HT := Aside0.mk hT
        clear hT
        obtain ⟨M, hM⟩ : ∃ M, M = hi - lo := ⟨_, rfl⟩
        rw [← hM] at HQ HP
        have hM1 : lo + M = hi := by omega
        clear hM
        obtain ⟨f0, hf0⟩ : ∃ f0, f0 = x % 256 := ⟨_, rfl⟩
        rw [← hf0] at hlo
        have hff : f0 < 256 := by omega
        have hfx : (x : Int) % 256 = (f0 : Int) := by omega
        have HF0 := Aside0.mk hfx
        clear hf0 hfx
        go_enter Try.func33, Try.ntmps33
        go_wp2_with (first
          | (go_at_call 61; (with_reducible refine HQ.mono ?_); rintro _ W1 ⟨rfl, hB1⟩; have HB1 := Aside0.mk hB1; have HH1 := Aside0.mk (HH.out.below hB1); clear hB1 HQ)
          | (at_make; refine wpList_make_own W1 rfl _ _ 22 rfl W1.heap.size 5 i0 (.int .u8 0) 1 Try.underlying22 HI.out.1 HI.out.2.1 HI.out.2.2.1 .i64 .u64 (z : Int) z rfl rfl rfl (by rw [HI.out.2.2.2]; omega) (by unfold maxLen; omega) (Nat.le_refl _) ?_; intro W2 ho2 hg2; have HO2 := Aside0.mk ho2; have HB2 := Aside0.mk (Below.grown (Below.refl W1.heap.size W1) hg2 (Nat.le_refl _) (fun k hk => by cases hk)); clear ho2 hg2))
        rw [HF0.out]
        go_loopw [10, 11, 33] (fun v f i wr => ∃ (k off : Nat), i = .int .i64 k ∧ f = .int .u64 ((if k = 0 then f0 else 0 : Nat) : Int) ∧ k ≤ M ∧ off ≤ z ∧ (k < M → off = 256 * k - f0) ∧ (k = M → off = z) ∧ Aside0 (wr.ownsRow W1.heap.size 5 1 v off (nums .u8 ((List.range off).map fun i => byteAt r (x + i)))) ∧ Aside0 (Below W1.heap.size W1 wr)) (fun _ _ i _ => M - (intOf i).toNat)
        case atStart => exact ⟨0, 0, rfl, rfl, Nat.zero_le _, Nat.zero_le _, fun _ => by omega, fun _ => by omega, HO2, HB2⟩
        case round =>
          obtain ⟨k, off, rfl, rfl, hk, hoz, hoff, hend, HV, HB⟩ := hrel
          have hsz : W1.heap.size ≤ wr.heap.size := HB.out.size
          by_cases hlt : k < M
          · obtain ⟨g, hgk⟩ := HP.out k hlt
            have hkl : lo + k < r.ps.length := by omega
            have HW := Aside0.mk (HH1.out.below HB.out)
            have hp := HW.out.pp HRm.out hkl
            rw [(List.getElem?_eq_some_iff.1 hgk).2] at hp
            have hp' : wr.cell? ⟨r.ab, lo + k, none⟩ = some (.pointer (some ⟨g.b, 0, none⟩)) := hp
            have HPG := Aside0.mk (HW.out.pg j _ HRm.out _ g hgk)
            have HGD := Aside0.mk (HRG.out.ok hgk)
            have HGK := Aside0.mk hgk
            have HGA := Aside0.mk (show g.at_ = T + 256 * (lo + k) from by rw [HT.out]; exact (HRG.out.ok hgk).at_)
            have hoo := hoff hlt
            clear hp hgk hoff hend
            obtain ⟨f, hf⟩ : ∃ f, f = (if k = 0 then f0 else 0) := ⟨_, rfl⟩
            rw [← hf]
            have hf1 : f < 256 ∧ (k = 0 → f = f0) ∧ (k ≠ 0 → f = 0) := by rw [hf]; split <;> omega
            have hf2 : T + 256 * (lo + k) + f = x + off := by by_cases k = 0 <;> omega
            clear hf
            have hff2 := hf1.1
            have HF1 := Aside0.mk hf1
            have HOO := Aside0.mk hoo
            have HF2 := Aside0.mk hf2
            clear hf1 hoo hf2
            obtain ⟨A', c', hv⟩ := own_slice HV.out
            subst hv
            by_cases hmin : z - off ≤ 256 - f
            · have hcut := arr_lh g.b f (f + (z - off)) hff2 (by omega) (by omega)
              rw [show ((f + (z - off) : Nat) : Int) = (f : Int) + ((z : Int) - (off : Int)) from by omega, Nat.add_sub_cancel_left] at hcut
              go_wp2_with (first
                | (at_builtin; refine app_blk rfl (.tmp 45) (.tmp 53) rfl W1.heap.size (.slice A' off c') off ((List.range off).map fun i => byteAt r (x + i)) rfl HV.out g HPG.out.1 HGD.out.len f (z - off) (256 - f) rfl (by omega) (by omega) hsz ?_; intro v3 w3 ho3 hg3; have HO3 := Aside0.mk ho3; have HG3 := Aside0.mk hg3; clear ho3 hg3))
              have HN := Aside0.mk (show w3.ownsRow W1.heap.size 5 1 v3 z (nums .u8 ((List.range z).map fun i => byteAt r (x + i))) from by
                have := HO3.out
                rw [page_part HRG.out HGK.out f (z - off) (by omega), show (fun i => byteAt r (r.at_ + 256 * (lo + k) + f + i)) = (fun i => byteAt r (x + (off + i))) from by funext i; congr 1; have := HF2.out; have := HT.out; omega, range_more off (z - off) (fun i => byteAt r (x + i)), show off + (z - off) = z from by omega] at this
                exact this)
              have HBN := Aside0.mk (show Below W1.heap.size W1 w3 from Below.grown HB.out HG3.out hsz (fun q hq => own_base HV.out q hq))
              go_roundw
              case rel => exact ⟨k + 1, z, by go_num, by rw [if_neg (by omega)]; rfl, by omega, by omega, fun h => by have := HF1.out; have := HOO.out; by_cases k = 0 <;> omega, fun _ => rfl, HN, HBN⟩
              case measure => simp [intOf]; omega
            · have hcut := arr_lh g.b f 256 hff2 (by omega) (by omega)
              rw [show ((256 : Nat) : Int) = (f : Int) + (256 - (f : Int)) from by omega] at hcut
              go_wp2_with (first
                | (at_builtin; refine app_blk rfl (.tmp 45) (.tmp 53) rfl W1.heap.size (.slice A' off c') off ((List.range off).map fun i => byteAt r (x + i)) rfl HV.out g HPG.out.1 HGD.out.len f (256 - f) (256 - f) rfl (by omega) (by omega) hsz ?_; intro v3 w3 ho3 hg3; have HO3 := Aside0.mk ho3; have HG3 := Aside0.mk hg3; clear ho3 hg3))
              have HN := Aside0.mk (show w3.ownsRow W1.heap.size 5 1 v3 (off + (256 - f)) (nums .u8 ((List.range (off + (256 - f))).map fun i => byteAt r (x + i))) from by
                have := HO3.out
                rw [page_part HRG.out HGK.out f (256 - f) (by omega), show (fun i => byteAt r (r.at_ + 256 * (lo + k) + f + i)) = (fun i => byteAt r (x + (off + i))) from by funext i; congr 1; have := HF2.out; have := HT.out; omega, range_more off (256 - f) (fun i => byteAt r (x + i))] at this
                exact this)
              have HBN := Aside0.mk (show Below W1.heap.size W1 w3 from Below.grown HB.out HG3.out hsz (fun q hq => own_base HV.out q hq))
              go_roundw
              case rel => exact ⟨k + 1, off + (256 - f), by go_num, by rw [if_neg (by omega)]; rfl, by omega, by omega, fun h => by have := HF1.out; have := HOO.out; by_cases k = 0 <;> omega, fun h => by have := HF1.out; have := HOO.out; by_cases k = 0 <;> omega, HN, HBN⟩
              case measure => simp [intOf]; omega
          · obtain rfl : k = M := by omega
            obtain rfl := hend rfl
            go_wp2
            go_ret2
            exact ⟨_, by rw [HR.out.2]; rfl, by rw [HR.out.1, List.length_map, List.length_range]; exact own_weaken HV.out HB1.out.size, below_then HB1.out HB1.out.size HB.out⟩
end Go.Proofs.Ytmpahimeljbliaa.Vm
