/- messuageref07.Make: what its callees do to a row of bytes beside another one. No condition but room. -/
import Derived.Test.YtmpahimeljbliaaZipMake
import Derived.Test.YtmpahimeljbliaaBx2
import Derived.Lib.AppendStr
namespace Go.Proofs.Ytmpahimeljbliaa.ZipWalk
open Go.RowKit Go.Proofs Go.Proofs.Ytmpahimeljbliaa.B Go.Proofs.Ytmpahimeljbliaa.Buf Go.Proofs.YtmpahimeljbliaaW.PrintWords Go.Proofs.YtmpahimeljbliaaW.PrintLast Go.Proofs.YtmpahimeljbliaaW.PrintMore
open ZipPure (rowOf)

/-- Two rows of bytes of a call's own, and a block that is neither's. -/
structure RB (w0 W : World) (vb vc : Value) (B C : List Int) (g : Nat) (o : Obj) : Prop where
  b : W.ownsRow w0.heap.size 5 1 vb B.length (nums .u8 B)
  c : W.ownsRow w0.heap.size 5 1 vc C.length (nums .u8 C)
  bel : Below w0.heap.size w0 W
  sep : ∀ k, vb.ownBlock = some k → vc.ownBlock ≠ some k
  blk : W.heap[g]? = some o
  nb : vb.ownBlock ≠ some g
  nc : vc.ownBlock ≠ some g
theorem RB.le {w0 W : World} {vb vc : Value} {B C : List Int} {g : Nat} {o : Obj} (h : RB w0 W vb vc B C g o) : w0.heap.size ≤ W.heap.size := h.bel.size
theorem RB.far {w0 W W' : World} {vb vc : Value} {B C : List Int} {g : Nat} {o : Obj} (h : RB w0 W vb vc B C g o) (hb : Below W.heap.size W W') : RB w0 W' vb vc B C g o :=
  ⟨pw_own_below h.b hb, pw_own_below h.c hb, below_then h.bel h.le hb, h.sep, blk_below h.blk hb, h.nb, h.nc⟩
theorem RB.stepB {w0 W W' : World} {vb vb' vc : Value} {B B' C : List Int} {g : Nat} {o : Obj} (h : RB w0 W vb vc B C g o) (ho : W'.ownsRow w0.heap.size 5 1 vb' B'.length (nums .u8 B')) (hb : Below w0.heap.size w0 W') (hk : Kept W W' (fun k => vb.ownBlock = some k))
    (hat : ∀ k, vb'.ownBlock = some k → vb.ownBlock = some k ∨ W.heap.size ≤ k) : RB w0 W' vb' vc B' C g o := by
  have hlt := blk_lt h.blk
  refine ⟨ho, own_move h.c (fun k hk' => hk.2 k (own_lt h.c k hk') (fun e => h.sep k e hk')), hb, fun k e e' => ?_, blk_kept h.blk hk (fun e => h.nb e), fun e => ?_, h.nc⟩
  · have := own_lt h.c k e'
    rcases hat k e with q | q
    · exact h.sep k q e'
    · omega
  · rcases hat g e with q | q
    · exact h.nb q
    · omega
theorem RB.stepC {w0 W W' : World} {vb vc vc' : Value} {B C C' : List Int} {g : Nat} {o : Obj} (h : RB w0 W vb vc B C g o) (ho : W'.ownsRow w0.heap.size 5 1 vc' C'.length (nums .u8 C')) (hb : Below w0.heap.size w0 W') (hk : Kept W W' (fun k => vc.ownBlock = some k))
    (hat : ∀ k, vc'.ownBlock = some k → vc.ownBlock = some k ∨ W.heap.size ≤ k) : RB w0 W' vb vc' B C' g o := by
  have hlt := blk_lt h.blk
  refine ⟨own_move h.b (fun k hk' => hk.2 k (own_lt h.b k hk') (fun e => h.sep k hk' e)), ho, hb, fun k e e' => ?_, blk_kept h.blk hk (fun e => h.nc e), h.nb, fun e => ?_⟩
  · have := own_lt h.b k e
    rcases hat k e' with q | q
    · exact h.sep k e q
    · omega
  · rcases hat g e with q | q
    · exact h.nc q
    · omega
theorem Kept.of_row {W W' : World} {v : Value} (h : W.grownBy W' v.ownBlock) : Kept W W' (fun k => v.ownBlock = some k) := ⟨h.size, fun i hi hn => h.block i hi (fun e => hn e.symm)⟩
theorem at_row {W : World} {v v' : Value} (h : v'.ownBlock = v.ownBlock ∨ ∃ b, v'.ownBlock = some b ∧ W.heap.size ≤ b) : ∀ k, v'.ownBlock = some k → v.ownBlock = some k ∨ W.heap.size ≤ k := by
  intro k hk
  rcases h with e | ⟨b, e, hb⟩
  · exact .inl (e ▸ hk)
  · rw [e] at hk
    cases hk
    exact .inr hb
/-! ### a string behind bytes -/
theorem run_str_at {P : Program} (w : World) (base : Nat) (t u ty e : TypeId) (i : TypeInfo) (ht : P.underlying t = some (.slice e)) (hu : P.underlying u = some .string) (hi : P.info? e = some i) (hz : i.zero = some (.int .u8 0)) (hsize : i.size = 1) (hby : i.bytes = 1)
    (v : Value) (n : Nat) (xs : List Value) (hown : w.ownsRow base e 1 v n xs) (s : ByteArray) (h63 : n + s.size ≤ maxLen) (hbytes : n + s.size ≤ 140737488355328) (hbase : base ≤ w.heap.size) :
    ∃ v' w', (Builtin.append_ #[t, u] ty #[v, .string s]).run P w = .ok v' w' ∧ w'.ownsRow base e 1 v' (n + s.size) (xs ++ Lib.strCells s) ∧ w.grownBy w' v.ownBlock ∧ (v'.ownBlock = v.ownBlock ∨ ∃ b, v'.ownBlock = some b ∧ w.heap.size ≤ b) := by
  obtain ⟨v', w', hr, h2, h3, h4⟩ := Lib.run_append_own_string (P := P) w base t u ty e i ht hu hi hz hsize hby v n xs hown s h63 hbytes hbase
  refine ⟨v', w', hr, h2, h3, ?_⟩
  rcases hown.2 with ⟨rfl, rfl⟩ | ⟨g, cap, cur, rfl, hbg, hg, hnc, hcm, hcs, htake⟩
  · have hx : xs = [] := List.eq_nil_of_length_eq_zero (by simpa using hown.1)
    subst hx
    obtain ⟨v2, w2, hr2, k2, -, -⟩ := Lib.run_append_own_string (P := P) w w.heap.size t u ty e i ht hu hi hz hsize hby _ 0 [] (World.ownsRow_nil w w.heap.size e 1) s h63 hbytes (Nat.le_refl _)
    rw [hr] at hr2
    injection hr2 with e1 e2
    subst e1
    subst e2
    cases hv : v'.ownBlock with
    | none => exact .inl rfl
    | some b => exact .inr ⟨b, rfl, own_base k2 b hv⟩
  · by_cases hroom : n + s.size ≤ cap
    · have hcs' : cur.size = cap := by simpa using hcs
      have hr2 := Lib.run_append_room_string (P := P) w t u ty e i ht hu hi hsize g n cap cur hg s hroom (by omega)
      rw [hr] at hr2
      injection hr2 with e1 e2
      subst e1
      exact .inl rfl
    · have hxl : xs.length = n := by simpa using hown.1
      have holds : ∀ j u, xs[j]? = some u → w.cell? ((⟨g, 0, none⟩ : Addr).add j) = some u := hown.cells (g := g) rfl
      have hr2 := Lib.run_append_grow_string (P := P) w t u ty e i (.int .u8 0) ht hu hi hz ⟨g, 0, none⟩ n cap xs (by rw [hsize]; simpa using hxl) holds s (by omega) (by simp only [maxLen] at h63; omega) (by rw [hby]; exact growslice_fits (by omega) (by omega))
      rw [hr] at hr2
      injection hr2 with e1 e2
      subst e1
      exact .inr ⟨_, rfl, Nat.le_refl _⟩
theorem append_str_at {ops : Array Oper} {rest : List Oper} {o : Oper} {a : Act} {Q : Exit → Act → World → Prop} {w0 W : World} (hgd : o.guard = none) (sl x : Operand)
    (ho : o.op = .call { callee := .builtin .append, args := #[sl, x], argTypes := #[22, 9] })
    (v : Value) (xs : List Int) (y : ByteArray) (hs : a.eval sl = v) (hx : a.eval x = .string y) (HO : W.ownsRow w0.heap.size 5 1 v xs.length (nums .u8 xs)) (HB : Below w0.heap.size w0 W) (hl : xs.length + y.size ≤ 140737488355328)
    (h : ∀ v1 w1, w1.ownsRow w0.heap.size 5 1 v1 (xs ++ bytesOf y).length (nums .u8 (xs ++ bytesOf y)) → Below w0.heap.size w0 w1 → Kept W w1 (fun k => v.ownBlock = some k) → (∀ k, v1.ownBlock = some k → v.ownBlock = some k ∨ W.heap.size ≤ k) → wpList Try.prog ops Q rest (a.put o.dst v1) w1) :
    wpList Try.prog ops Q (o :: rest) a W := by
  obtain ⟨i0, hi, hz0, hz1, hz2⟩ := info_parts infoE
  obtain ⟨v1, w1, hr, h2, h3, h4⟩ := run_str_at (P := Try.prog) W w0.heap.size 22 9 o.type 5 i0 Try.underlying22 Try.underlying9 hi hz0 hz1 hz2 v xs.length (nums .u8 xs) HO y (by simp only [maxLen]; omega) hl HB.size
  refine wpList_plain hgd fun K hK => ?_
  unfold Oper.wp execOp
  simp only [ho, resolve, invoke, builtin, Sem.run_bind, Sem.run_pure, Result.andThen_ok, List.map_toArray, List.map_cons, List.map_nil, hs, hx, hr]
  have hl2 : (xs ++ bytesOf y).length = xs.length + y.size := by rw [List.length_append, bytesOf_length]
  have hc : nums .u8 (xs ++ bytesOf y) = nums .u8 xs ++ Lib.strCells y := by
    rw [nums_append, show nums .u8 (bytesOf y) = Lib.strCells y by simp [nums, bytesOf, Lib.strCells]]
  exact hK _ _ (h v1 w1 (by rw [hl2, hc]; exact h2) (HB.grown h3 HB.size (own_base HO)) (Kept.of_row h3) (at_row h4))
/-! ### numbers behind bytes -/
theorem put_l0 (n : Nat) : ∀ (d j k : Nat) (B : List Int) (x : Int), j + d = n → d < k → 0 ≤ x → x < 18446744073709551616 → n ≤ 8 → B.length + d ≤ 4000000 → messuageref02_Put.l0 k B x (n : Int) (j : Int) = some (B ++ ZipPure.putBytes x d)
  | 0, j, k, B, x, hj, hk, h0, h1, hn, hB => by
    obtain ⟨k, rfl⟩ : ∃ m, k = m + 1 := ⟨k - 1, by omega⟩
    rw [messuageref02_Put.l0, if_neg (by omega), ZipPure.putBytes, List.append_nil]
  | d + 1, j, k, B, x, hj, hk, h0, h1, hn, hB => by
    obtain ⟨k, rfl⟩ : ∃ m, k = m + 1 := ⟨k - 1, by omega⟩
    have ih := put_l0 n d (j + 1) k (B ++ [x % 256]) (x / 256) (by omega) (by omega) (by omega) (by omega) hn (by rw [List.length_append, List.length_singleton]; omega)
    have c1 : (j : Int) < (n : Int) := by omega
    have c2 : B.length < 140737488355328 := by omega
    have e1 : Int.tmod x 256 % 256 = x % 256 := by rw [Int.tmod_eq_emod_of_nonneg h0]; omega
    have e2 : Int.tdiv x 256 = x / 256 := Int.tdiv_eq_ediv_of_nonneg h0
    have e3 : IntKind.u64.wrap (x / 256) = x / 256 := Buf.wrap_small _ (by omega) (by omega)
    have e4 : wrap64 ((j : Int) + 1) = ((j + 1 : Nat) : Int) := by unfold wrap64; omega
    rw [messuageref02_Put.l0, if_pos c1, if_pos c2, e1, e2, e3, e4, ih, ZipPure.putBytes, List.append_assoc]
    rfl
theorem put_f (n k : Nat) (B : List Int) (x : Int) (hk : n < k) (h0 : 0 ≤ x) (h1 : x < 18446744073709551616) (hn : n ≤ 8) (hB : B.length + n ≤ 4000000) : messuageref02_Put.f k B x (n : Int) = some (B ++ ZipPure.putBytes x n) := put_l0 n n 0 k B x (by omega) hk h0 h1 hn hB
theorem row_len_map (m : Nat) (xs : List Int) : (rowOf (xs.map fun x => (x, m))).length = m * xs.length := by
  induction xs with
  | nil => rfl
  | cons x xs ih => rw [List.map_cons, rowOf, List.length_append, ih, ZipPure.putBytes_len, List.length_cons, Nat.mul_add]; omega
theorem put4_l0 (xs : List Int) (hx : ∀ x ∈ xs, 0 ≤ x ∧ x < 18446744073709551616) (hn : xs.length ≤ 8) : ∀ (d j k : Nat) (B : List Int), j + d = xs.length → d + 8 < k → B.length + 4 * d ≤ 3000000 → messuageref07_put4.l0 k B xs (j : Int) = some (B ++ rowOf ((xs.drop j).map fun x => (x, 4)))
  | 0, j, k, B, hj, hk, hB => by
    obtain ⟨k, rfl⟩ : ∃ m, k = m + 1 := ⟨k - 1, by omega⟩
    rw [messuageref07_put4.l0, if_neg (by omega), List.drop_of_length_le (by omega), List.map_nil, rowOf, List.append_nil]
  | d + 1, j, k, B, hj, hk, hB => by
    obtain ⟨k, rfl⟩ : ∃ m, k = m + 1 := ⟨k - 1, by omega⟩
    have hjl : j < xs.length := by omega
    have e0 : rd xs (j : Int) = xs[j] := by unfold rd; rw [Int.toNat_natCast, List.getD_eq_getElem?_getD, List.getElem?_eq_getElem hjl]; rfl
    have hb := hx _ (List.getElem_mem hjl)
    have e1 := put_f 4 k B xs[j] (by omega) hb.1 hb.2 (by omega) (by omega)
    have e4 : wrap64 ((j : Int) + 1) = ((j + 1 : Nat) : Int) := by unfold wrap64; omega
    have ih := put4_l0 xs hx hn d (j + 1) k (B ++ ZipPure.putBytes xs[j] 4) (by omega) (by omega) (by rw [List.length_append, ZipPure.putBytes_len]; omega)
    rw [messuageref07_put4.l0, if_pos (by omega), if_pos (by omega), e0]
    simp only [show ((4 : Nat) : Int) = 4 from rfl] at e1
    rw [e1, Option.bind_some, e4, ih, List.drop_eq_getElem_cons hjl, List.map_cons, rowOf, List.append_assoc]
theorem put2_l0 (xs : List Int) (hx : ∀ x ∈ xs, 0 ≤ x ∧ x < 18446744073709551616) (hn : xs.length ≤ 8) : ∀ (d j k : Nat) (B : List Int), j + d = xs.length → d + 8 < k → B.length + 2 * d ≤ 3000000 → messuageref07_put.l0 k B xs (j : Int) = some (B ++ rowOf ((xs.drop j).map fun x => (x, 2)))
  | 0, j, k, B, hj, hk, hB => by
    obtain ⟨k, rfl⟩ : ∃ m, k = m + 1 := ⟨k - 1, by omega⟩
    rw [messuageref07_put.l0, if_neg (by omega), List.drop_of_length_le (by omega), List.map_nil, rowOf, List.append_nil]
  | d + 1, j, k, B, hj, hk, hB => by
    obtain ⟨k, rfl⟩ : ∃ m, k = m + 1 := ⟨k - 1, by omega⟩
    have hjl : j < xs.length := by omega
    have e0 : rd xs (j : Int) = xs[j] := by unfold rd; rw [Int.toNat_natCast, List.getD_eq_getElem?_getD, List.getElem?_eq_getElem hjl]; rfl
    have hb := hx _ (List.getElem_mem hjl)
    have e1 := put_f 2 k B xs[j] (by omega) hb.1 hb.2 (by omega) (by omega)
    have e4 : wrap64 ((j : Int) + 1) = ((j + 1 : Nat) : Int) := by unfold wrap64; omega
    have ih := put2_l0 xs hx hn d (j + 1) k (B ++ ZipPure.putBytes xs[j] 2) (by omega) (by omega) (by rw [List.length_append, ZipPure.putBytes_len]; omega)
    rw [messuageref07_put.l0, if_pos (by omega), if_pos (by omega), e0]
    simp only [show ((2 : Nat) : Int) = 2 from rfl] at e1
    rw [e1, Option.bind_some, e4, ih, List.drop_eq_getElem_cons hjl, List.map_cons, rowOf, List.append_assoc]
theorem zeros_l0 (n : Nat) : ∀ (d j k : Nat) (B : List Int), j + d = n → d < k → n ≤ 262144 → B.length + d ≤ 4000000 → messuageref02_Zeros.l0 k B (n : Int) (j : Int) = some (B ++ List.replicate d 0)
  | 0, j, k, B, hj, hk, hn, hB => by
    obtain ⟨k, rfl⟩ : ∃ m, k = m + 1 := ⟨k - 1, by omega⟩
    rw [messuageref02_Zeros.l0, if_neg (by omega), List.replicate_zero, List.append_nil]
  | d + 1, j, k, B, hj, hk, hn, hB => by
    obtain ⟨k, rfl⟩ : ∃ m, k = m + 1 := ⟨k - 1, by omega⟩
    have e4 : wrap64 ((j : Int) + 1) = ((j + 1 : Nat) : Int) := by unfold wrap64; omega
    have ih := zeros_l0 n d (j + 1) k (B ++ [0]) (by omega) (by omega) hn (by rw [List.length_append, List.length_singleton]; omega)
    rw [messuageref02_Zeros.l0, if_pos (by omega), if_pos (by omega), e4, ih, List.append_assoc]
    rfl
theorem zeros_f (n : Nat) (B : List Int) (hn : n ≤ 262144) (hB : B.length + n ≤ 4000000) : messuageref02_Zeros.f (n + 2) B (n : Int) = some (B ++ List.replicate n 0) := by
  rw [messuageref02_Zeros.f, if_neg (by omega), messuageref02_Zeros.j0]
  exact zeros_l0 n n 0 (n + 1) B (by omega) (by omega) hn hB
/-! ### the callees, as they meet a row -/
/-- What a call leaves that puts something behind a row. -/
def Rowed (w0 W0 : World) (v : Value) (X : List Int) (e : Ending) (W' : World) : Prop :=
  ∃ v', e = .returned v' ∧ W'.ownsRow w0.heap.size 5 1 v' X.length (nums .u8 X) ∧ Below w0.heap.size w0 W' ∧ Kept W0 W' (fun k => v.ownBlock = some k) ∧ ∀ k, v'.ownBlock = some k → v.ownBlock = some k ∨ W0.heap.size ≤ k
theorem fresh_row {W0 W_ : World} {v : Value} {base n : Nat} {B : List Int} (xs : List Int) (ho : W0.ownsRow base 5 1 v n (nums .u8 B)) (hx : xs.length ≤ 8) (hk : Kept (W0.alloc (.cells (nums .u64 xs).toArray 28)) W_ (fun k => v.ownBlock = some k)) :
    Kd.C (Kd.int .u64) W_ (some ⟨W0.heap.size, 0, none⟩) xs.length xs := by
  have hb := blk_kept (blk_new W0 (.cells (nums .u64 xs).toArray 28)) hk (fun e => by have := own_lt ho _ e; omega)
  refine Kd.C_of_reads (d := (0 : Int)) ⟨rfl, by omega, fun _ => ⟨_, rfl, fun j hj => ?_⟩⟩
  rw [add_plain, blk_cell hb]
  simp [nums, hj]
theorem put4_row (w0 W0 : World) (v : Value) (B : List Int) (n : Nat) (xs : List Int) (cells : Array Value) (hn : xs.length = n) (hc : cells = (nums .u64 xs).toArray) (ho : W0.ownsRow w0.heap.size 5 1 v B.length (nums .u8 B)) (hB : Below w0.heap.size w0 W0)
    (hx : ∀ x ∈ xs, 0 ≤ x ∧ x < 18446744073709551616) (hl : B.length ≤ 2000000) (h8 : n ≤ 8) :
    Calls Try.prog 51 #[v, .slice (some ⟨W0.heap.size, 0, none⟩) n n] (W0.alloc (.cells cells 28)) (Rowed w0 W0 v (B ++ rowOf (xs.map fun x => (x, 4)))) := by
  subst hn
  subst hc
  have hb2 : Below W0.heap.size W0 (W0.alloc (.cells (nums .u64 xs).toArray 28)) := below_alloc (Below.refl _ _) _
  refine (messuageref07_put4.calls 100 (fun k => v.ownBlock = some k) v B (some ⟨W0.heap.size, 0, none⟩) xs.length xs _ w0 _ (below_then hB hB.size hb2) (Kd.R_of_own (pw_own_below ho hb2) (fun k hk => hk)) (fun W_ hk => fresh_row xs ho h8 hk) (Nat.le_refl _) (put4_l0 xs hx h8 xs.length 0 100 B (by omega) (by omega) (by omega))).mono ?_
  rintro _ W' ⟨v', rfl, hR, hb, hk⟩
  exact ⟨v', rfl, Kd.own_of_R hR, hb, Kept.then_ (Kept.of_below hb2 _) hk (fun k h => .inl h), fun k h => (hR.1 k h).imp id (fun q => Nat.le_trans hb2.size q)⟩
theorem put2_row (w0 W0 : World) (v : Value) (B : List Int) (n : Nat) (xs : List Int) (cells : Array Value) (hn : xs.length = n) (hc : cells = (nums .u64 xs).toArray) (ho : W0.ownsRow w0.heap.size 5 1 v B.length (nums .u8 B)) (hB : Below w0.heap.size w0 W0)
    (hx : ∀ x ∈ xs, 0 ≤ x ∧ x < 18446744073709551616) (hl : B.length ≤ 2000000) (h8 : n ≤ 8) :
    Calls Try.prog 52 #[v, .slice (some ⟨W0.heap.size, 0, none⟩) n n] (W0.alloc (.cells cells 28)) (Rowed w0 W0 v (B ++ rowOf (xs.map fun x => (x, 2)))) := by
  subst hn
  subst hc
  have hb2 : Below W0.heap.size W0 (W0.alloc (.cells (nums .u64 xs).toArray 28)) := below_alloc (Below.refl _ _) _
  refine (messuageref07_put.calls 100 (fun k => v.ownBlock = some k) v B (some ⟨W0.heap.size, 0, none⟩) xs.length xs _ w0 _ (below_then hB hB.size hb2) (Kd.R_of_own (pw_own_below ho hb2) (fun k hk => hk)) (fun W_ hk => fresh_row xs ho h8 hk) (Nat.le_refl _) (put2_l0 xs hx h8 xs.length 0 100 B (by omega) (by omega) (by omega))).mono ?_
  rintro _ W' ⟨v', rfl, hR, hb, hk⟩
  exact ⟨v', rfl, Kd.own_of_R hR, hb, Kept.then_ (Kept.of_below hb2 _) hk (fun k h => .inl h), fun k h => (hR.1 k h).imp id (fun q => Nat.le_trans hb2.size q)⟩
theorem zeros_row (w0 W0 : World) (v : Value) (B : List Int) (n : Nat) (ho : W0.ownsRow w0.heap.size 5 1 v B.length (nums .u8 B)) (hB : Below w0.heap.size w0 W0) (hl : B.length ≤ 2000000) (h8 : n ≤ 262144) :
    Calls Try.prog 53 #[v, .int .i64 (n : Int)] W0 (Rowed w0 W0 v (B ++ List.replicate n 0)) := by
  refine (messuageref02_Zeros.calls (n + 2) (fun k => v.ownBlock = some k) v B n _ w0 W0 hB (Kd.R_of_own ho (fun k hk => hk)) (zeros_f n B h8 (by omega))).mono ?_
  rintro _ W' ⟨v', rfl, hR, hb, hk⟩
  exact ⟨v', rfl, Kd.own_of_R hR, hb, hk, fun k h => hR.1 k h⟩
end Go.Proofs.Ytmpahimeljbliaa.ZipWalk
