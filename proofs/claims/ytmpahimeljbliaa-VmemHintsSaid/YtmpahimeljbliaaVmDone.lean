/- A call of the program's, as the law makes it. No condition but that the space, the call and the rooms lie in memory as told. -/
import Derived.Test.YtmpahimeljbliaaVmOps
import Derived.Test.YtmpahimeljbliaaVmMap
import Derived.Test.YtmpahimeljbliaaVmRelease
import Derived.Test.YtmpahimeljbliaaVmReserve
import Derived.Laws.Rows
namespace Go.Proofs.Ytmpahimeljbliaa.Vm
open Go.RowKit Go.Proofs Go.Proofs.YtmpahimeljbliaaW.PrintWords

/-- What a call has answered. -/
structure Out where
  e : Int
  b : List Int
  at_ : Nat
  room : Bool
def cellsU (o : Out) : Array Value := #[.int .i64 o.e, .string (strOfNums o.b), .int .u64 o.at_, .bool o.room]
/-- What a call does with a space, and what it answers. -/
def Done (s : Sp) (x : Nat) (p : Opn) (hint : Nat) (s' : Sp) (o : Out) : Prop :=
  (kindN p.kind ≤ 1 ∧ ∃ b ab, s' = (reserveF s hint (p.size % 70) b ab).1 ∧ o = ⟨(reserveF s hint (p.size % 70) b ab).2.2, [], (reserveF s hint (p.size % 70) b ab).2.1, (reserveF s hint (p.size % 70) b ab).2.2 == 0⟩) ∨
  ((kindN p.kind = 2 ∨ kindN p.kind = 3) ∧ ∃ nb, s' = (mapF s x p.size p.prot p.data nb).1 ∧ o = ⟨(mapF s x p.size p.prot p.data nb).2, [], 0, false⟩) ∨
  (kindN p.kind = 4 ∧ s' = (protF s x p.size p.prot).1 ∧ o = ⟨(protF s x p.size p.prot).2, [], 0, false⟩) ∨
  (kindN p.kind = 5 ∧ s' = (releaseF s x).1 ∧ o = ⟨(releaseF s x).2, [], 0, false⟩) ∨
  (kindN p.kind = 6 ∧ s' = s ∧ o = ⟨(readF s.rs x p.size).2, (readF s.rs x p.size).1, 0, false⟩) ∨
  ((kindN p.kind = 7 ∨ kindN p.kind = 8) ∧ s' = (writeF s x p.data).1 ∧ o = ⟨(writeF s x p.data).2, [], 0, false⟩) ∨
  (kindN p.kind = 9 ∧ s' = s ∧ o = ⟨(loadF s.rs x).2, le8 (loadF s.rs x).1.toNat, 0, false⟩) ∨
  (kindN p.kind = 10 ∧ s' = (writeF s x (le8 p.hint)).1 ∧ o = ⟨(writeF s x (le8 p.hint)).2, [], 0, false⟩)
def DoneOk (w : World) (own : Nat → Option Role) (base a : Nat) (s : Sp) (x : Nat) (p : Opn) (hint : Nat) (e : Ending) (w' : World) : Prop :=
  ∃ (own' : Nat → Option Role) (v' : Value) (s' : Sp) (o : Out), e = .returned (.agg (cellsU o)) ∧ Done s x p hint s' o ∧ Holds w' own' base a v' s' ∧ (∀ k, k < w.heap.size → own' k = own k) ∧ Kp own base w w'
def store4W (W : World) (g : Nat) (c0 c1 c2 c3 : Value) : World := (((W.setCell ⟨g, 0, none⟩ c0).setCell ⟨g, 1, none⟩ c1).setCell ⟨g, 2, none⟩ c2).setCell ⟨g, 3, none⟩ c3
/-- The end: the answer is laid into its variable. -/
theorem done_end {w W : World} {own own' : Nat → Option Role} {base a : Nat} {s s' : Sp} {x : Nat} {p : Opn} {hint : Nat} {v' : Value} {o : Out} {act : Act} {g : Nat} {z0 z1 z2 z3 : Value}
    (hd : act.defers = []) (hp : act.tmps.getD 8 undef = .pointer (some ⟨g, 0, none⟩)) (hg : Blk W g #[z0, z1, z2, z3] 63) (hgw : w.heap.size ≤ g) (hbs : base ≤ w.heap.size) (hgo : own' g = none)
    (hD : Done s x p hint s' o) (hH : Holds W own' base a v' s') (ho : ∀ k, k < w.heap.size → own' k = own k) (hK : Kp own base w W) (c0 c1 c2 c3 : Value)
    (h0 : c0 = .int .i64 o.e) (h1 : c1 = .string (strOfNums o.b)) (h2 : c2 = .int .u64 o.at_) (h3 : c3 = .bool o.room) :
    bodyPost Try.prog Try.f27 (DoneOk w own base a s x p hint) .ret act (store4W W g c0 c1 c2 c3) := by
  subst h0 h1 h2 h3
  have hb : Blk (store4W W g (.int .i64 o.e) (.string (strOfNums o.b)) (.int .u64 o.at_) (.bool o.room)) g (cellsU o) 63 :=
    (((hg.set 0 (.int .i64 o.e)).set 1 (.string (strOfNums o.b))).set 2 (.int .u64 o.at_)).set 3 (.bool o.room)
  have hsz : (store4W W g (.int .i64 o.e) (.string (strOfNums o.b)) (.int .u64 o.at_) (.bool o.room)).heap.size = W.heap.size := by simp [store4W, World.setCell]
  have hof : ∀ k, k ≠ g → (store4W W g (.int .i64 o.e) (.string (strOfNums o.b)) (.int .u64 o.at_) (.bool o.room)).heap[k]? = W.heap[k]? := fun k hk =>
    (((Below.heap_setCell _ ⟨g, 3, none⟩ _ k hk).trans (Below.heap_setCell _ ⟨g, 2, none⟩ _ k hk)).trans (Below.heap_setCell _ ⟨g, 1, none⟩ _ k hk)).trans (Below.heap_setCell _ ⟨g, 0, none⟩ _ k hk)
  refine bodyPost_ret (results_cell_row rfl act.tmps _ g 63 (cellsU o) (0, 0) _ (by simpa using hp) hb Try.underlying63 rfl (by kernel_rfl)) hd ⟨own', v', s', o, rfl, hD, hH.keep (by rw [hsz]; exact Nat.le_refl _) (fun k hk => hof k (fun e => hk (by rw [e]; exact hgo))), ho, ?_⟩
  refine ⟨?_, fun k hk hn => (hof k (by omega)).trans (hK.kp k hk hn)⟩
  exact (((hK.bel.setCell (p := ⟨g, 0, none⟩) (by show base ≤ g; omega) _).setCell (p := ⟨g, 1, none⟩) (by show base ≤ g; omega) _).setCell (p := ⟨g, 2, none⟩) (by show base ≤ g; omega) _).setCell (p := ⟨g, 3, none⟩) (by show base ≤ g; omega) _
theorem load_nat {w : World} {own : Nat → Option Role} {base a : Nat} {v : Value} {s : Sp} (h : Holds w own base a v s) (x : Nat) : 0 ≤ (loadF s.rs x).1 ∧ (loadF s.rs x).1 < 18446744073709551616 := by
  unfold loadF
  split
  · next hz =>
    have h1 := leN_lt (readF s.rs x 8).1 (read_bytes h.good x 8)
    rw [read_len hz (fun e h => by rcases may_err e h with h | h <;> omega)] at h1
    exact ⟨h1.1, h1.2⟩
  · exact ⟨Int.le_refl 0, by show (0 : Int) < 18446744073709551616; decide⟩
theorem two_size (w : World) (o : Obj) : (w.alloc o).heap.size = w.heap.size + 1 := by simp
/-- Two new variables, and a call behind them. -/
theorem two_new {w W1 : World} {o : Obj} {cs cs0 : Array Value} {t t0 : TypeId} (ho : o = .cells cs0 t0) (hB : Below ((w.alloc o).alloc (.cells cs t)).heap.size ((w.alloc o).alloc (.cells cs t)) W1) :
    Below w.heap.size w W1 ∧ Blk W1 w.heap.size cs0 t0 ∧ Blk W1 (w.heap.size + 1) cs t ∧ w.heap.size + 1 < W1.heap.size := by
  subst ho
  have h1 : Below w.heap.size w ((w.alloc (.cells cs0 t0)).alloc (.cells cs t)) := below_alloc (below_new w _) _
  have h3 := (Blk.new (w.alloc (.cells cs0 t0)) cs t).below hB
  have h4 := h3.lt
  rw [two_size] at h3 h4
  exact ⟨below_then h1 h1.size hB, ((Blk.new w cs0 t0).below (below_new _ _)).below hB, h3, h4⟩
set_option maxRecDepth 100000 in
set_option maxHeartbeats 2000000 in
theorem done_reserve {w : World} {own : Nat → Option Role} {base a : Nat} {v : Value} {s : Sp} (h : Holds w own base a v s) (p : Opn) (hp : p.Ok) (A6 : Option Addr) (c6 : Nat) (hS : Src w own A6 c6 p.data) (rooms : List Nat) (A : Option Addr) (c : Nat)
    (hr : ReadsInt w .u64 A rooms.length (natsI rooms)) (hrb : ∀ r ∈ rooms, r ≤ 18446744073709551615) (hl : rooms.length ≤ 100) (hint : Nat) (hh : hint ≤ 18446744073709551615) (hk : kindN p.kind = 0 ∨ kindN p.kind = 1) :
    Calls Try.prog 27 #[.pointer (some ⟨a, 0, none⟩), .agg (cellsO p A6 c6), .slice A rooms.length c, .int .u64 hint] w (DoneOk w own base a s (placeF p rooms) p hint) := by
  have hbs : base ≤ w.heap.size := by have := h.lt a (by rw [h.osp]; simp); omega
  have hx : placeF p rooms ≤ 18446744073709551615 := by
    unfold placeF
    split
    · exact hp.o2
    · omega
  have hpl := (fun (W : World) (hB : Below w.heap.size w W) => place_in p hp A6 c6 rooms A c W (hr.below hB) hrb hl)
  unfold cellsO at hpl
  have HPL := Aside0.mk hpl
  have HKI := Aside0.mk (fun W => kind_in p.kind W hp.k1 hp.k2)
  have HP := Aside0.mk hp
  have HH := Aside0.mk h
  have HS := Aside0.mk hS
  obtain ⟨X, hX⟩ : ∃ X, X = placeF p rooms := ⟨_, rfl⟩
  rw [← hX] at HPL hx ⊢
  have HK := Aside0.mk hk
  obtain ⟨K, hK⟩ : ∃ K, K = kindN p.kind := ⟨_, rfl⟩
  rw [← hK] at HKI hk
  have hno : ∀ q, w.heap.size ≤ q → own q = none := fun q hq => Classical.byContradiction fun cc => by have := (h.lt q cc).2; omega
  have HNO := Aside0.mk hno
  unfold cellsO
  clear h hr hrb hS hX hK hno hpl
  obtain ⟨m, hm⟩ : ∃ m, p.size % 70 = m := ⟨_, rfl⟩
  have HM := Aside0.mk hm
  have hm7 : m ≤ 1000 := by omega
  have e70 : (p.size : Int) % 70 = (m : Int) := by omega
  clear hm
  rcases hk with rfl | rfl
  · go_enter Try.func27, Try.ntmps27
    go_wp2_with (first
      | (go_at_call 31; (with_reducible refine (HPL.out _ (below_alloc (below_new w (.cells #[.int .i64 p.kind, .int .i64 p.room, .int .u64 p.off, .int .u64 p.size, .int .i64 p.prot, .int .u64 p.hint, .slice A6 p.data.length c6] 60)) _)).mono ?_); rintro _ W1 ⟨rfl, hB1⟩; have htwo := two_new rfl hB1; have HB1 := Aside0.mk htwo.1; have HF1 := Aside0.mk htwo.2.1; have HG1 := Aside0.mk htwo.2.2.1; have HZ1 := Aside0.mk htwo.2.2.2; have HH1 := Aside0.mk (HH.out.below HB1.out); have HS1 := Aside0.mk (HS.out.move HB1.out.size (fun k hk _ => HB1.out.block k hk)); have q0 : W1.cell? ⟨w.heap.size, 0, none⟩ = some (.int .i64 p.kind) := HF1.out.cell 0 _ rfl; have q3 : W1.cell? ⟨w.heap.size, 3, none⟩ = some (.int .u64 p.size) := HF1.out.cell 3 _ rfl; have q4 : W1.cell? ⟨w.heap.size, 4, none⟩ = some (.int .i64 p.prot) := HF1.out.cell 4 _ rfl; have q5 : W1.cell? ⟨w.heap.size, 5, none⟩ = some (.int .u64 p.hint) := HF1.out.cell 5 _ rfl; have q6 : W1.cell? ⟨w.heap.size, 6, none⟩ = some (.slice A6 p.data.length c6) := HF1.out.cell 6 _ rfl; clear htwo hB1)
      | (go_at_call 26; (with_reducible refine (HKI.out _).mono ?_); rintro _ _ ⟨rfl, rfl⟩)
      | (go_at_call 54; (with_reducible refine (reserve_in HH1.out hint m hh hm7).mono ?_); rintro _ W2 ⟨own', v', b, ab, rfl, hH, hO, hK⟩; have HH2 := Aside0.mk hH; have HK2 := Aside0.mk hK; have HOW := Aside0.mk hO; clear hH hK hO; have HG2 := Aside0.mk (HG1.out.move (HK2.out.kp _ HZ1.out (HNO.out _ (by omega)))); have HKK := Aside0.mk (((Kp.refl own base w).below hbs HB1.out).then_ (by have := HZ1.out; omega) HK2.out); have z0 : W2.cell? ⟨w.heap.size + 1, 0, none⟩ = some (.int .i64 0) := HG2.out.cell 0 _ rfl; have z1 : W2.cell? ⟨w.heap.size + 1, 1, none⟩ = some (.string ⟨#[]⟩) := HG2.out.cell 1 _ rfl; have z2 : W2.cell? ⟨w.heap.size + 1, 2, none⟩ = some (.int .u64 0) := HG2.out.cell 2 _ rfl; have z3 : W2.cell? ⟨w.heap.size + 1, 3, none⟩ = some (.bool false) := HG2.out.cell 3 _ rfl; have y0 := HG2.out.free 0; have y1 := HG2.out.free 1; have y2 := HG2.out.free 2; have y3 := HG2.out.free 3; clear q0 q3 q4 q5 q6))
    exact done_end rfl rfl HG2.out (by omega) hbs ((HOW.out _ HZ1.out).trans (HNO.out _ (by omega))) (.inl ⟨by rcases HK.out with h | h <;> omega, b, ab, by rw [HM.out], by rw [HM.out]⟩) HH2.out (fun k hk => HOW.out k (by have := HZ1.out; omega)) HKK.out _ _ _ _ rfl rfl rfl rfl
  · go_enter Try.func27, Try.ntmps27
    go_wp2_with (first
      | (go_at_call 31; (with_reducible refine (HPL.out _ (below_alloc (below_new w (.cells #[.int .i64 p.kind, .int .i64 p.room, .int .u64 p.off, .int .u64 p.size, .int .i64 p.prot, .int .u64 p.hint, .slice A6 p.data.length c6] 60)) _)).mono ?_); rintro _ W1 ⟨rfl, hB1⟩; have htwo := two_new rfl hB1; have HB1 := Aside0.mk htwo.1; have HF1 := Aside0.mk htwo.2.1; have HG1 := Aside0.mk htwo.2.2.1; have HZ1 := Aside0.mk htwo.2.2.2; have HH1 := Aside0.mk (HH.out.below HB1.out); have HS1 := Aside0.mk (HS.out.move HB1.out.size (fun k hk _ => HB1.out.block k hk)); have q0 : W1.cell? ⟨w.heap.size, 0, none⟩ = some (.int .i64 p.kind) := HF1.out.cell 0 _ rfl; have q3 : W1.cell? ⟨w.heap.size, 3, none⟩ = some (.int .u64 p.size) := HF1.out.cell 3 _ rfl; have q4 : W1.cell? ⟨w.heap.size, 4, none⟩ = some (.int .i64 p.prot) := HF1.out.cell 4 _ rfl; have q5 : W1.cell? ⟨w.heap.size, 5, none⟩ = some (.int .u64 p.hint) := HF1.out.cell 5 _ rfl; have q6 : W1.cell? ⟨w.heap.size, 6, none⟩ = some (.slice A6 p.data.length c6) := HF1.out.cell 6 _ rfl; clear htwo hB1)
      | (go_at_call 26; (with_reducible refine (HKI.out _).mono ?_); rintro _ _ ⟨rfl, rfl⟩)
      | (go_at_call 54; (with_reducible refine (reserve_in HH1.out hint m hh hm7).mono ?_); rintro _ W2 ⟨own', v', b, ab, rfl, hH, hO, hK⟩; have HH2 := Aside0.mk hH; have HK2 := Aside0.mk hK; have HOW := Aside0.mk hO; clear hH hK hO; have HG2 := Aside0.mk (HG1.out.move (HK2.out.kp _ HZ1.out (HNO.out _ (by omega)))); have HKK := Aside0.mk (((Kp.refl own base w).below hbs HB1.out).then_ (by have := HZ1.out; omega) HK2.out); have z0 : W2.cell? ⟨w.heap.size + 1, 0, none⟩ = some (.int .i64 0) := HG2.out.cell 0 _ rfl; have z1 : W2.cell? ⟨w.heap.size + 1, 1, none⟩ = some (.string ⟨#[]⟩) := HG2.out.cell 1 _ rfl; have z2 : W2.cell? ⟨w.heap.size + 1, 2, none⟩ = some (.int .u64 0) := HG2.out.cell 2 _ rfl; have z3 : W2.cell? ⟨w.heap.size + 1, 3, none⟩ = some (.bool false) := HG2.out.cell 3 _ rfl; have y0 := HG2.out.free 0; have y1 := HG2.out.free 1; have y2 := HG2.out.free 2; have y3 := HG2.out.free 3; clear q0 q3 q4 q5 q6))
    exact done_end rfl rfl HG2.out (by omega) hbs ((HOW.out _ HZ1.out).trans (HNO.out _ (by omega))) (.inl ⟨by rcases HK.out with h | h <;> omega, b, ab, by rw [HM.out], by rw [HM.out]⟩) HH2.out (fun k hk => HOW.out k (by have := HZ1.out; omega)) HKK.out _ _ _ _ rfl rfl rfl rfl
set_option maxRecDepth 100000 in
set_option maxHeartbeats 2000000 in
theorem done_map {w : World} {own : Nat → Option Role} {base a : Nat} {v : Value} {s : Sp} (h : Holds w own base a v s) (p : Opn) (hp : p.Ok) (A6 : Option Addr) (c6 : Nat) (hS : Src w own A6 c6 p.data) (rooms : List Nat) (A : Option Addr) (c : Nat)
    (hr : ReadsInt w .u64 A rooms.length (natsI rooms)) (hrb : ∀ r ∈ rooms, r ≤ 18446744073709551615) (hl : rooms.length ≤ 100) (hint : Nat) (hh : hint ≤ 18446744073709551615) (hk : kindN p.kind = 2 ∨ kindN p.kind = 3) :
    Calls Try.prog 27 #[.pointer (some ⟨a, 0, none⟩), .agg (cellsO p A6 c6), .slice A rooms.length c, .int .u64 hint] w (DoneOk w own base a s (placeF p rooms) p hint) := by
  have hbs : base ≤ w.heap.size := by have := h.lt a (by rw [h.osp]; simp); omega
  have hx : placeF p rooms ≤ 18446744073709551615 := by
    unfold placeF
    split
    · exact hp.o2
    · omega
  have hpl := (fun (W : World) (hB : Below w.heap.size w W) => place_in p hp A6 c6 rooms A c W (hr.below hB) hrb hl)
  unfold cellsO at hpl
  have HPL := Aside0.mk hpl
  have HKI := Aside0.mk (fun W => kind_in p.kind W hp.k1 hp.k2)
  have HP := Aside0.mk hp
  have HH := Aside0.mk h
  have HS := Aside0.mk hS
  obtain ⟨X, hX⟩ : ∃ X, X = placeF p rooms := ⟨_, rfl⟩
  rw [← hX] at HPL hx ⊢
  have HK := Aside0.mk hk
  obtain ⟨K, hK⟩ : ∃ K, K = kindN p.kind := ⟨_, rfl⟩
  rw [← hK] at HKI hk
  have hno : ∀ q, w.heap.size ≤ q → own q = none := fun q hq => Classical.byContradiction fun cc => by have := (h.lt q cc).2; omega
  have HNO := Aside0.mk hno
  unfold cellsO
  clear h hr hrb hS hX hK hno hpl
  rcases hk with rfl | rfl
  · go_enter Try.func27, Try.ntmps27
    go_wp2_with (first
      | (go_at_call 31; (with_reducible refine (HPL.out _ (below_alloc (below_new w (.cells #[.int .i64 p.kind, .int .i64 p.room, .int .u64 p.off, .int .u64 p.size, .int .i64 p.prot, .int .u64 p.hint, .slice A6 p.data.length c6] 60)) _)).mono ?_); rintro _ W1 ⟨rfl, hB1⟩; have htwo := two_new rfl hB1; have HB1 := Aside0.mk htwo.1; have HF1 := Aside0.mk htwo.2.1; have HG1 := Aside0.mk htwo.2.2.1; have HZ1 := Aside0.mk htwo.2.2.2; have HH1 := Aside0.mk (HH.out.below HB1.out); have HS1 := Aside0.mk (HS.out.move HB1.out.size (fun k hk _ => HB1.out.block k hk)); have q0 : W1.cell? ⟨w.heap.size, 0, none⟩ = some (.int .i64 p.kind) := HF1.out.cell 0 _ rfl; have q3 : W1.cell? ⟨w.heap.size, 3, none⟩ = some (.int .u64 p.size) := HF1.out.cell 3 _ rfl; have q4 : W1.cell? ⟨w.heap.size, 4, none⟩ = some (.int .i64 p.prot) := HF1.out.cell 4 _ rfl; have q5 : W1.cell? ⟨w.heap.size, 5, none⟩ = some (.int .u64 p.hint) := HF1.out.cell 5 _ rfl; have q6 : W1.cell? ⟨w.heap.size, 6, none⟩ = some (.slice A6 p.data.length c6) := HF1.out.cell 6 _ rfl; clear htwo hB1)
      | (go_at_call 26; (with_reducible refine (HKI.out _).mono ?_); rintro _ _ ⟨rfl, rfl⟩)
      | (go_at_call 55; (with_reducible refine (map_in HH1.out X p.size p.prot A6 c6 p.data hx HP.out.s2 HP.out.p1 HP.out.p2 HS1.out HP.out.bytes (by have := HP.out.len; omega)).mono ?_); rintro _ W2 ⟨own', nb, rfl, hH, hO, hK⟩; have HH2 := Aside0.mk hH; have HK2 := Aside0.mk hK; have HOW := Aside0.mk hO; clear hH hK hO; have HG2 := Aside0.mk (HG1.out.move (HK2.out.kp _ HZ1.out (HNO.out _ (by omega)))); have HKK := Aside0.mk (((Kp.refl own base w).below hbs HB1.out).then_ (by have := HZ1.out; omega) HK2.out); have z0 : W2.cell? ⟨w.heap.size + 1, 0, none⟩ = some (.int .i64 0) := HG2.out.cell 0 _ rfl; have z1 : W2.cell? ⟨w.heap.size + 1, 1, none⟩ = some (.string ⟨#[]⟩) := HG2.out.cell 1 _ rfl; have z2 : W2.cell? ⟨w.heap.size + 1, 2, none⟩ = some (.int .u64 0) := HG2.out.cell 2 _ rfl; have z3 : W2.cell? ⟨w.heap.size + 1, 3, none⟩ = some (.bool false) := HG2.out.cell 3 _ rfl; have y0 := HG2.out.free 0; have y1 := HG2.out.free 1; have y2 := HG2.out.free 2; have y3 := HG2.out.free 3; clear q0 q3 q4 q5 q6))
    exact done_end rfl rfl HG2.out (by omega) hbs ((HOW.out _ HZ1.out).trans (HNO.out _ (by omega))) (.inr (.inl ⟨HK.out, nb, rfl, rfl⟩)) HH2.out (fun k hk => HOW.out k (by have := HZ1.out; omega)) HKK.out _ _ _ _ rfl rfl rfl rfl
  · go_enter Try.func27, Try.ntmps27
    go_wp2_with (first
      | (go_at_call 31; (with_reducible refine (HPL.out _ (below_alloc (below_new w (.cells #[.int .i64 p.kind, .int .i64 p.room, .int .u64 p.off, .int .u64 p.size, .int .i64 p.prot, .int .u64 p.hint, .slice A6 p.data.length c6] 60)) _)).mono ?_); rintro _ W1 ⟨rfl, hB1⟩; have htwo := two_new rfl hB1; have HB1 := Aside0.mk htwo.1; have HF1 := Aside0.mk htwo.2.1; have HG1 := Aside0.mk htwo.2.2.1; have HZ1 := Aside0.mk htwo.2.2.2; have HH1 := Aside0.mk (HH.out.below HB1.out); have HS1 := Aside0.mk (HS.out.move HB1.out.size (fun k hk _ => HB1.out.block k hk)); have q0 : W1.cell? ⟨w.heap.size, 0, none⟩ = some (.int .i64 p.kind) := HF1.out.cell 0 _ rfl; have q3 : W1.cell? ⟨w.heap.size, 3, none⟩ = some (.int .u64 p.size) := HF1.out.cell 3 _ rfl; have q4 : W1.cell? ⟨w.heap.size, 4, none⟩ = some (.int .i64 p.prot) := HF1.out.cell 4 _ rfl; have q5 : W1.cell? ⟨w.heap.size, 5, none⟩ = some (.int .u64 p.hint) := HF1.out.cell 5 _ rfl; have q6 : W1.cell? ⟨w.heap.size, 6, none⟩ = some (.slice A6 p.data.length c6) := HF1.out.cell 6 _ rfl; clear htwo hB1)
      | (go_at_call 26; (with_reducible refine (HKI.out _).mono ?_); rintro _ _ ⟨rfl, rfl⟩)
      | (go_at_call 55; (with_reducible refine (map_in HH1.out X p.size p.prot A6 c6 p.data hx HP.out.s2 HP.out.p1 HP.out.p2 HS1.out HP.out.bytes (by have := HP.out.len; omega)).mono ?_); rintro _ W2 ⟨own', nb, rfl, hH, hO, hK⟩; have HH2 := Aside0.mk hH; have HK2 := Aside0.mk hK; have HOW := Aside0.mk hO; clear hH hK hO; have HG2 := Aside0.mk (HG1.out.move (HK2.out.kp _ HZ1.out (HNO.out _ (by omega)))); have HKK := Aside0.mk (((Kp.refl own base w).below hbs HB1.out).then_ (by have := HZ1.out; omega) HK2.out); have z0 : W2.cell? ⟨w.heap.size + 1, 0, none⟩ = some (.int .i64 0) := HG2.out.cell 0 _ rfl; have z1 : W2.cell? ⟨w.heap.size + 1, 1, none⟩ = some (.string ⟨#[]⟩) := HG2.out.cell 1 _ rfl; have z2 : W2.cell? ⟨w.heap.size + 1, 2, none⟩ = some (.int .u64 0) := HG2.out.cell 2 _ rfl; have z3 : W2.cell? ⟨w.heap.size + 1, 3, none⟩ = some (.bool false) := HG2.out.cell 3 _ rfl; have y0 := HG2.out.free 0; have y1 := HG2.out.free 1; have y2 := HG2.out.free 2; have y3 := HG2.out.free 3; clear q0 q3 q4 q5 q6))
    exact done_end rfl rfl HG2.out (by omega) hbs ((HOW.out _ HZ1.out).trans (HNO.out _ (by omega))) (.inr (.inl ⟨HK.out, nb, rfl, rfl⟩)) HH2.out (fun k hk => HOW.out k (by have := HZ1.out; omega)) HKK.out _ _ _ _ rfl rfl rfl rfl
set_option maxRecDepth 100000 in
set_option maxHeartbeats 2000000 in
theorem done_protect {w : World} {own : Nat → Option Role} {base a : Nat} {v : Value} {s : Sp} (h : Holds w own base a v s) (p : Opn) (hp : p.Ok) (A6 : Option Addr) (c6 : Nat) (hS : Src w own A6 c6 p.data) (rooms : List Nat) (A : Option Addr) (c : Nat)
    (hr : ReadsInt w .u64 A rooms.length (natsI rooms)) (hrb : ∀ r ∈ rooms, r ≤ 18446744073709551615) (hl : rooms.length ≤ 100) (hint : Nat) (hh : hint ≤ 18446744073709551615) (hk : kindN p.kind = 4) :
    Calls Try.prog 27 #[.pointer (some ⟨a, 0, none⟩), .agg (cellsO p A6 c6), .slice A rooms.length c, .int .u64 hint] w (DoneOk w own base a s (placeF p rooms) p hint) := by
  have hbs : base ≤ w.heap.size := by have := h.lt a (by rw [h.osp]; simp); omega
  have hx : placeF p rooms ≤ 18446744073709551615 := by
    unfold placeF
    split
    · exact hp.o2
    · omega
  have hpl := (fun (W : World) (hB : Below w.heap.size w W) => place_in p hp A6 c6 rooms A c W (hr.below hB) hrb hl)
  unfold cellsO at hpl
  have HPL := Aside0.mk hpl
  have HKI := Aside0.mk (fun W => kind_in p.kind W hp.k1 hp.k2)
  have HP := Aside0.mk hp
  have HH := Aside0.mk h
  have HS := Aside0.mk hS
  obtain ⟨X, hX⟩ : ∃ X, X = placeF p rooms := ⟨_, rfl⟩
  rw [← hX] at HPL hx ⊢
  have HK := Aside0.mk hk
  obtain ⟨K, hK⟩ : ∃ K, K = kindN p.kind := ⟨_, rfl⟩
  rw [← hK] at HKI hk
  have hno : ∀ q, w.heap.size ≤ q → own q = none := fun q hq => Classical.byContradiction fun cc => by have := (h.lt q cc).2; omega
  have HNO := Aside0.mk hno
  unfold cellsO
  clear h hr hrb hS hX hK hno hpl
  subst hk
  go_enter Try.func27, Try.ntmps27
  go_wp2_with (first
    | (go_at_call 31; (with_reducible refine (HPL.out _ (below_alloc (below_new w (.cells #[.int .i64 p.kind, .int .i64 p.room, .int .u64 p.off, .int .u64 p.size, .int .i64 p.prot, .int .u64 p.hint, .slice A6 p.data.length c6] 60)) _)).mono ?_); rintro _ W1 ⟨rfl, hB1⟩; have htwo := two_new rfl hB1; have HB1 := Aside0.mk htwo.1; have HF1 := Aside0.mk htwo.2.1; have HG1 := Aside0.mk htwo.2.2.1; have HZ1 := Aside0.mk htwo.2.2.2; have HH1 := Aside0.mk (HH.out.below HB1.out); have HS1 := Aside0.mk (HS.out.move HB1.out.size (fun k hk _ => HB1.out.block k hk)); have q0 : W1.cell? ⟨w.heap.size, 0, none⟩ = some (.int .i64 p.kind) := HF1.out.cell 0 _ rfl; have q3 : W1.cell? ⟨w.heap.size, 3, none⟩ = some (.int .u64 p.size) := HF1.out.cell 3 _ rfl; have q4 : W1.cell? ⟨w.heap.size, 4, none⟩ = some (.int .i64 p.prot) := HF1.out.cell 4 _ rfl; have q5 : W1.cell? ⟨w.heap.size, 5, none⟩ = some (.int .u64 p.hint) := HF1.out.cell 5 _ rfl; have q6 : W1.cell? ⟨w.heap.size, 6, none⟩ = some (.slice A6 p.data.length c6) := HF1.out.cell 6 _ rfl; clear htwo hB1)
    | (go_at_call 26; (with_reducible refine (HKI.out _).mono ?_); rintro _ _ ⟨rfl, rfl⟩)
    | (go_at_call 56; (with_reducible refine (prot_do HH1.out X p.size p.prot hx HP.out.s2 HP.out.p1 HP.out.p2).mono ?_); rintro _ W2 ⟨rfl, hH, hK⟩; have HH2 := Aside0.mk hH; have HK2 := Aside0.mk hK; clear hH hK; have HG2 := Aside0.mk (HG1.out.move (HK2.out.kp _ HZ1.out (HNO.out _ (by omega)))); have HKK := Aside0.mk (((Kp.refl own base w).below hbs HB1.out).then_ (by have := HZ1.out; omega) HK2.out); have z0 : W2.cell? ⟨w.heap.size + 1, 0, none⟩ = some (.int .i64 0) := HG2.out.cell 0 _ rfl; have z1 : W2.cell? ⟨w.heap.size + 1, 1, none⟩ = some (.string ⟨#[]⟩) := HG2.out.cell 1 _ rfl; have z2 : W2.cell? ⟨w.heap.size + 1, 2, none⟩ = some (.int .u64 0) := HG2.out.cell 2 _ rfl; have z3 : W2.cell? ⟨w.heap.size + 1, 3, none⟩ = some (.bool false) := HG2.out.cell 3 _ rfl; have y0 := HG2.out.free 0; have y1 := HG2.out.free 1; have y2 := HG2.out.free 2; have y3 := HG2.out.free 3; clear q0 q3 q4 q5 q6))
  exact done_end rfl rfl HG2.out (by omega) hbs (HNO.out _ (by omega)) (.inr (.inr (.inl ⟨HK.out, rfl, rfl⟩))) HH2.out (fun _ _ => rfl) HKK.out _ _ _ _ rfl rfl rfl rfl
set_option maxRecDepth 100000 in
set_option maxHeartbeats 2000000 in
theorem done_release {w : World} {own : Nat → Option Role} {base a : Nat} {v : Value} {s : Sp} (h : Holds w own base a v s) (p : Opn) (hp : p.Ok) (A6 : Option Addr) (c6 : Nat) (hS : Src w own A6 c6 p.data) (rooms : List Nat) (A : Option Addr) (c : Nat)
    (hr : ReadsInt w .u64 A rooms.length (natsI rooms)) (hrb : ∀ r ∈ rooms, r ≤ 18446744073709551615) (hl : rooms.length ≤ 100) (hint : Nat) (hh : hint ≤ 18446744073709551615) (hk : kindN p.kind = 5) :
    Calls Try.prog 27 #[.pointer (some ⟨a, 0, none⟩), .agg (cellsO p A6 c6), .slice A rooms.length c, .int .u64 hint] w (DoneOk w own base a s (placeF p rooms) p hint) := by
  have hbs : base ≤ w.heap.size := by have := h.lt a (by rw [h.osp]; simp); omega
  have hx : placeF p rooms ≤ 18446744073709551615 := by
    unfold placeF
    split
    · exact hp.o2
    · omega
  have hpl := (fun (W : World) (hB : Below w.heap.size w W) => place_in p hp A6 c6 rooms A c W (hr.below hB) hrb hl)
  unfold cellsO at hpl
  have HPL := Aside0.mk hpl
  have HKI := Aside0.mk (fun W => kind_in p.kind W hp.k1 hp.k2)
  have HP := Aside0.mk hp
  have HH := Aside0.mk h
  have HS := Aside0.mk hS
  obtain ⟨X, hX⟩ : ∃ X, X = placeF p rooms := ⟨_, rfl⟩
  rw [← hX] at HPL hx ⊢
  have HK := Aside0.mk hk
  obtain ⟨K, hK⟩ : ∃ K, K = kindN p.kind := ⟨_, rfl⟩
  rw [← hK] at HKI hk
  have hno : ∀ q, w.heap.size ≤ q → own q = none := fun q hq => Classical.byContradiction fun cc => by have := (h.lt q cc).2; omega
  have HNO := Aside0.mk hno
  unfold cellsO
  clear h hr hrb hS hX hK hno hpl
  subst hk
  go_enter Try.func27, Try.ntmps27
  go_wp2_with (first
    | (go_at_call 31; (with_reducible refine (HPL.out _ (below_alloc (below_new w (.cells #[.int .i64 p.kind, .int .i64 p.room, .int .u64 p.off, .int .u64 p.size, .int .i64 p.prot, .int .u64 p.hint, .slice A6 p.data.length c6] 60)) _)).mono ?_); rintro _ W1 ⟨rfl, hB1⟩; have htwo := two_new rfl hB1; have HB1 := Aside0.mk htwo.1; have HF1 := Aside0.mk htwo.2.1; have HG1 := Aside0.mk htwo.2.2.1; have HZ1 := Aside0.mk htwo.2.2.2; have HH1 := Aside0.mk (HH.out.below HB1.out); have HS1 := Aside0.mk (HS.out.move HB1.out.size (fun k hk _ => HB1.out.block k hk)); have q0 : W1.cell? ⟨w.heap.size, 0, none⟩ = some (.int .i64 p.kind) := HF1.out.cell 0 _ rfl; have q3 : W1.cell? ⟨w.heap.size, 3, none⟩ = some (.int .u64 p.size) := HF1.out.cell 3 _ rfl; have q4 : W1.cell? ⟨w.heap.size, 4, none⟩ = some (.int .i64 p.prot) := HF1.out.cell 4 _ rfl; have q5 : W1.cell? ⟨w.heap.size, 5, none⟩ = some (.int .u64 p.hint) := HF1.out.cell 5 _ rfl; have q6 : W1.cell? ⟨w.heap.size, 6, none⟩ = some (.slice A6 p.data.length c6) := HF1.out.cell 6 _ rfl; clear htwo hB1)
    | (go_at_call 26; (with_reducible refine (HKI.out _).mono ?_); rintro _ _ ⟨rfl, rfl⟩)
    | (go_at_call 57; (with_reducible refine (release_in HH1.out X hx).mono ?_); rintro _ W2 ⟨own', v', rfl, hH, hO, hK⟩; have HH2 := Aside0.mk hH; have HK2 := Aside0.mk hK; have HOW := Aside0.mk hO; clear hH hK hO; have HG2 := Aside0.mk (HG1.out.move (HK2.out.kp _ HZ1.out (HNO.out _ (by omega)))); have HKK := Aside0.mk (((Kp.refl own base w).below hbs HB1.out).then_ (by have := HZ1.out; omega) HK2.out); have z0 : W2.cell? ⟨w.heap.size + 1, 0, none⟩ = some (.int .i64 0) := HG2.out.cell 0 _ rfl; have z1 : W2.cell? ⟨w.heap.size + 1, 1, none⟩ = some (.string ⟨#[]⟩) := HG2.out.cell 1 _ rfl; have z2 : W2.cell? ⟨w.heap.size + 1, 2, none⟩ = some (.int .u64 0) := HG2.out.cell 2 _ rfl; have z3 : W2.cell? ⟨w.heap.size + 1, 3, none⟩ = some (.bool false) := HG2.out.cell 3 _ rfl; have y0 := HG2.out.free 0; have y1 := HG2.out.free 1; have y2 := HG2.out.free 2; have y3 := HG2.out.free 3; clear q0 q3 q4 q5 q6))
  exact done_end rfl rfl HG2.out (by omega) hbs ((HOW.out _ HZ1.out).trans (HNO.out _ (by omega))) (.inr (.inr (.inr (.inl ⟨HK.out, rfl, rfl⟩)))) HH2.out (fun k hk => HOW.out k (by have := HZ1.out; omega)) HKK.out _ _ _ _ rfl rfl rfl rfl
set_option maxRecDepth 100000 in
set_option maxHeartbeats 2000000 in
theorem done_read {w : World} {own : Nat → Option Role} {base a : Nat} {v : Value} {s : Sp} (h : Holds w own base a v s) (p : Opn) (hp : p.Ok) (A6 : Option Addr) (c6 : Nat) (hS : Src w own A6 c6 p.data) (rooms : List Nat) (A : Option Addr) (c : Nat)
    (hr : ReadsInt w .u64 A rooms.length (natsI rooms)) (hrb : ∀ r ∈ rooms, r ≤ 18446744073709551615) (hl : rooms.length ≤ 100) (hint : Nat) (hh : hint ≤ 18446744073709551615) (hk : kindN p.kind = 6) :
    Calls Try.prog 27 #[.pointer (some ⟨a, 0, none⟩), .agg (cellsO p A6 c6), .slice A rooms.length c, .int .u64 hint] w (DoneOk w own base a s (placeF p rooms) p hint) := by
  have hbs : base ≤ w.heap.size := by have := h.lt a (by rw [h.osp]; simp); omega
  have hx : placeF p rooms ≤ 18446744073709551615 := by
    unfold placeF
    split
    · exact hp.o2
    · omega
  have hpl := (fun (W : World) (hB : Below w.heap.size w W) => place_in p hp A6 c6 rooms A c W (hr.below hB) hrb hl)
  unfold cellsO at hpl
  have HPL := Aside0.mk hpl
  have HKI := Aside0.mk (fun W => kind_in p.kind W hp.k1 hp.k2)
  have HP := Aside0.mk hp
  have HH := Aside0.mk h
  have HS := Aside0.mk hS
  obtain ⟨X, hX⟩ : ∃ X, X = placeF p rooms := ⟨_, rfl⟩
  rw [← hX] at HPL hx ⊢
  have HK := Aside0.mk hk
  obtain ⟨K, hK⟩ : ∃ K, K = kindN p.kind := ⟨_, rfl⟩
  rw [← hK] at HKI hk
  have hno : ∀ q, w.heap.size ≤ q → own q = none := fun q hq => Classical.byContradiction fun cc => by have := (h.lt q cc).2; omega
  have HNO := Aside0.mk hno
  unfold cellsO
  clear h hr hrb hS hX hK hno hpl
  subst hk
  go_enter Try.func27, Try.ntmps27
  go_wp2_with (first
    | (go_at_call 31; (with_reducible refine (HPL.out _ (below_alloc (below_new w (.cells #[.int .i64 p.kind, .int .i64 p.room, .int .u64 p.off, .int .u64 p.size, .int .i64 p.prot, .int .u64 p.hint, .slice A6 p.data.length c6] 60)) _)).mono ?_); rintro _ W1 ⟨rfl, hB1⟩; have htwo := two_new rfl hB1; have HB1 := Aside0.mk htwo.1; have HF1 := Aside0.mk htwo.2.1; have HG1 := Aside0.mk htwo.2.2.1; have HZ1 := Aside0.mk htwo.2.2.2; have HH1 := Aside0.mk (HH.out.below HB1.out); have HS1 := Aside0.mk (HS.out.move HB1.out.size (fun k hk _ => HB1.out.block k hk)); have q0 : W1.cell? ⟨w.heap.size, 0, none⟩ = some (.int .i64 p.kind) := HF1.out.cell 0 _ rfl; have q3 : W1.cell? ⟨w.heap.size, 3, none⟩ = some (.int .u64 p.size) := HF1.out.cell 3 _ rfl; have q4 : W1.cell? ⟨w.heap.size, 4, none⟩ = some (.int .i64 p.prot) := HF1.out.cell 4 _ rfl; have q5 : W1.cell? ⟨w.heap.size, 5, none⟩ = some (.int .u64 p.hint) := HF1.out.cell 5 _ rfl; have q6 : W1.cell? ⟨w.heap.size, 6, none⟩ = some (.slice A6 p.data.length c6) := HF1.out.cell 6 _ rfl; clear htwo hB1)
    | (go_at_call 26; (with_reducible refine (HKI.out _).mono ?_); rintro _ _ ⟨rfl, rfl⟩)
    | (go_at_call 33; (with_reducible refine (read_in HH1.out X p.size hx HP.out.s2).mono ?_); rintro _ W2 ⟨v2, rfl, hO, hB2⟩; have HK2 := Aside0.mk (Kp.below (Kp.refl own base W1) (by have := HB1.out.size; omega) hB2); have HH2 := Aside0.mk (HH1.out.below hB2); have HG2 := Aside0.mk (HG1.out.move (HK2.out.kp _ HZ1.out (HNO.out _ (by omega)))); have HKK := Aside0.mk (((Kp.refl own base w).below hbs HB1.out).then_ (by have := HZ1.out; omega) HK2.out); have z0 : W2.cell? ⟨w.heap.size + 1, 0, none⟩ = some (.int .i64 0) := HG2.out.cell 0 _ rfl; have z1 : W2.cell? ⟨w.heap.size + 1, 1, none⟩ = some (.string ⟨#[]⟩) := HG2.out.cell 1 _ rfl; have z2 : W2.cell? ⟨w.heap.size + 1, 2, none⟩ = some (.int .u64 0) := HG2.out.cell 2 _ rfl; have z3 : W2.cell? ⟨w.heap.size + 1, 3, none⟩ = some (.bool false) := HG2.out.cell 3 _ rfl; have y0 := HG2.out.free 0; have y1 := HG2.out.free 1; have y2 := HG2.out.free 2; have y3 := HG2.out.free 3; clear q0 q3 q4 q5 q6; obtain ⟨A2, c2, rfl⟩ := own_slice hO; have hcv : (convert 22 9 (.slice A2 (readF s.rs X p.size).1.length c2)).run Try.prog W2 = .ok (.string (strOfNums (readF s.rs X p.size).1)) W2 := own_string Try.underlying22 Try.underlying5 Try.underlying9 hO; clear hO hB2))
  exact done_end rfl rfl HG2.out (by omega) hbs (HNO.out _ (by omega)) (.inr (.inr (.inr (.inr (.inl ⟨HK.out, rfl, rfl⟩))))) HH2.out (fun _ _ => rfl) HKK.out _ _ _ _ rfl rfl rfl rfl
set_option maxRecDepth 100000 in
set_option maxHeartbeats 2000000 in
theorem done_write {w : World} {own : Nat → Option Role} {base a : Nat} {v : Value} {s : Sp} (h : Holds w own base a v s) (p : Opn) (hp : p.Ok) (A6 : Option Addr) (c6 : Nat) (hS : Src w own A6 c6 p.data) (rooms : List Nat) (A : Option Addr) (c : Nat)
    (hr : ReadsInt w .u64 A rooms.length (natsI rooms)) (hrb : ∀ r ∈ rooms, r ≤ 18446744073709551615) (hl : rooms.length ≤ 100) (hint : Nat) (hh : hint ≤ 18446744073709551615) (hk : kindN p.kind = 7 ∨ kindN p.kind = 8) :
    Calls Try.prog 27 #[.pointer (some ⟨a, 0, none⟩), .agg (cellsO p A6 c6), .slice A rooms.length c, .int .u64 hint] w (DoneOk w own base a s (placeF p rooms) p hint) := by
  have hbs : base ≤ w.heap.size := by have := h.lt a (by rw [h.osp]; simp); omega
  have hx : placeF p rooms ≤ 18446744073709551615 := by
    unfold placeF
    split
    · exact hp.o2
    · omega
  have hpl := (fun (W : World) (hB : Below w.heap.size w W) => place_in p hp A6 c6 rooms A c W (hr.below hB) hrb hl)
  unfold cellsO at hpl
  have HPL := Aside0.mk hpl
  have HKI := Aside0.mk (fun W => kind_in p.kind W hp.k1 hp.k2)
  have HP := Aside0.mk hp
  have HH := Aside0.mk h
  have HS := Aside0.mk hS
  obtain ⟨X, hX⟩ : ∃ X, X = placeF p rooms := ⟨_, rfl⟩
  rw [← hX] at HPL hx ⊢
  have HK := Aside0.mk hk
  obtain ⟨K, hK⟩ : ∃ K, K = kindN p.kind := ⟨_, rfl⟩
  rw [← hK] at HKI hk
  have hno : ∀ q, w.heap.size ≤ q → own q = none := fun q hq => Classical.byContradiction fun cc => by have := (h.lt q cc).2; omega
  have HNO := Aside0.mk hno
  unfold cellsO
  clear h hr hrb hS hX hK hno hpl
  rcases hk with rfl | rfl
  · go_enter Try.func27, Try.ntmps27
    go_wp2_with (first
      | (go_at_call 31; (with_reducible refine (HPL.out _ (below_alloc (below_new w (.cells #[.int .i64 p.kind, .int .i64 p.room, .int .u64 p.off, .int .u64 p.size, .int .i64 p.prot, .int .u64 p.hint, .slice A6 p.data.length c6] 60)) _)).mono ?_); rintro _ W1 ⟨rfl, hB1⟩; have htwo := two_new rfl hB1; have HB1 := Aside0.mk htwo.1; have HF1 := Aside0.mk htwo.2.1; have HG1 := Aside0.mk htwo.2.2.1; have HZ1 := Aside0.mk htwo.2.2.2; have HH1 := Aside0.mk (HH.out.below HB1.out); have HS1 := Aside0.mk (HS.out.move HB1.out.size (fun k hk _ => HB1.out.block k hk)); have q0 : W1.cell? ⟨w.heap.size, 0, none⟩ = some (.int .i64 p.kind) := HF1.out.cell 0 _ rfl; have q3 : W1.cell? ⟨w.heap.size, 3, none⟩ = some (.int .u64 p.size) := HF1.out.cell 3 _ rfl; have q4 : W1.cell? ⟨w.heap.size, 4, none⟩ = some (.int .i64 p.prot) := HF1.out.cell 4 _ rfl; have q5 : W1.cell? ⟨w.heap.size, 5, none⟩ = some (.int .u64 p.hint) := HF1.out.cell 5 _ rfl; have q6 : W1.cell? ⟨w.heap.size, 6, none⟩ = some (.slice A6 p.data.length c6) := HF1.out.cell 6 _ rfl; clear htwo hB1)
      | (go_at_call 26; (with_reducible refine (HKI.out _).mono ?_); rintro _ _ ⟨rfl, rfl⟩)
      | (go_at_call 32; (with_reducible refine (write_in HH1.out X A6 c6 p.data hx HS1.out HP.out.bytes (by have := HP.out.len; omega)).mono ?_); rintro _ W2 ⟨rfl, hH, hK⟩; have HH2 := Aside0.mk hH; have HK2 := Aside0.mk hK; clear hH hK; have HG2 := Aside0.mk (HG1.out.move (HK2.out.kp _ HZ1.out (HNO.out _ (by omega)))); have HKK := Aside0.mk (((Kp.refl own base w).below hbs HB1.out).then_ (by have := HZ1.out; omega) HK2.out); have z0 : W2.cell? ⟨w.heap.size + 1, 0, none⟩ = some (.int .i64 0) := HG2.out.cell 0 _ rfl; have z1 : W2.cell? ⟨w.heap.size + 1, 1, none⟩ = some (.string ⟨#[]⟩) := HG2.out.cell 1 _ rfl; have z2 : W2.cell? ⟨w.heap.size + 1, 2, none⟩ = some (.int .u64 0) := HG2.out.cell 2 _ rfl; have z3 : W2.cell? ⟨w.heap.size + 1, 3, none⟩ = some (.bool false) := HG2.out.cell 3 _ rfl; have y0 := HG2.out.free 0; have y1 := HG2.out.free 1; have y2 := HG2.out.free 2; have y3 := HG2.out.free 3; clear q0 q3 q4 q5 q6))
    exact done_end rfl rfl HG2.out (by omega) hbs (HNO.out _ (by omega)) (.inr (.inr (.inr (.inr (.inr (.inl ⟨HK.out, rfl, rfl⟩)))))) HH2.out (fun _ _ => rfl) HKK.out _ _ _ _ rfl rfl rfl rfl
  · go_enter Try.func27, Try.ntmps27
    go_wp2_with (first
      | (go_at_call 31; (with_reducible refine (HPL.out _ (below_alloc (below_new w (.cells #[.int .i64 p.kind, .int .i64 p.room, .int .u64 p.off, .int .u64 p.size, .int .i64 p.prot, .int .u64 p.hint, .slice A6 p.data.length c6] 60)) _)).mono ?_); rintro _ W1 ⟨rfl, hB1⟩; have htwo := two_new rfl hB1; have HB1 := Aside0.mk htwo.1; have HF1 := Aside0.mk htwo.2.1; have HG1 := Aside0.mk htwo.2.2.1; have HZ1 := Aside0.mk htwo.2.2.2; have HH1 := Aside0.mk (HH.out.below HB1.out); have HS1 := Aside0.mk (HS.out.move HB1.out.size (fun k hk _ => HB1.out.block k hk)); have q0 : W1.cell? ⟨w.heap.size, 0, none⟩ = some (.int .i64 p.kind) := HF1.out.cell 0 _ rfl; have q3 : W1.cell? ⟨w.heap.size, 3, none⟩ = some (.int .u64 p.size) := HF1.out.cell 3 _ rfl; have q4 : W1.cell? ⟨w.heap.size, 4, none⟩ = some (.int .i64 p.prot) := HF1.out.cell 4 _ rfl; have q5 : W1.cell? ⟨w.heap.size, 5, none⟩ = some (.int .u64 p.hint) := HF1.out.cell 5 _ rfl; have q6 : W1.cell? ⟨w.heap.size, 6, none⟩ = some (.slice A6 p.data.length c6) := HF1.out.cell 6 _ rfl; clear htwo hB1)
      | (go_at_call 26; (with_reducible refine (HKI.out _).mono ?_); rintro _ _ ⟨rfl, rfl⟩)
      | (go_at_call 32; (with_reducible refine (write_in HH1.out X A6 c6 p.data hx HS1.out HP.out.bytes (by have := HP.out.len; omega)).mono ?_); rintro _ W2 ⟨rfl, hH, hK⟩; have HH2 := Aside0.mk hH; have HK2 := Aside0.mk hK; clear hH hK; have HG2 := Aside0.mk (HG1.out.move (HK2.out.kp _ HZ1.out (HNO.out _ (by omega)))); have HKK := Aside0.mk (((Kp.refl own base w).below hbs HB1.out).then_ (by have := HZ1.out; omega) HK2.out); have z0 : W2.cell? ⟨w.heap.size + 1, 0, none⟩ = some (.int .i64 0) := HG2.out.cell 0 _ rfl; have z1 : W2.cell? ⟨w.heap.size + 1, 1, none⟩ = some (.string ⟨#[]⟩) := HG2.out.cell 1 _ rfl; have z2 : W2.cell? ⟨w.heap.size + 1, 2, none⟩ = some (.int .u64 0) := HG2.out.cell 2 _ rfl; have z3 : W2.cell? ⟨w.heap.size + 1, 3, none⟩ = some (.bool false) := HG2.out.cell 3 _ rfl; have y0 := HG2.out.free 0; have y1 := HG2.out.free 1; have y2 := HG2.out.free 2; have y3 := HG2.out.free 3; clear q0 q3 q4 q5 q6))
    exact done_end rfl rfl HG2.out (by omega) hbs (HNO.out _ (by omega)) (.inr (.inr (.inr (.inr (.inr (.inl ⟨HK.out, rfl, rfl⟩)))))) HH2.out (fun _ _ => rfl) HKK.out _ _ _ _ rfl rfl rfl rfl
set_option maxRecDepth 100000 in
set_option maxHeartbeats 2000000 in
theorem done_load {w : World} {own : Nat → Option Role} {base a : Nat} {v : Value} {s : Sp} (h : Holds w own base a v s) (p : Opn) (hp : p.Ok) (A6 : Option Addr) (c6 : Nat) (hS : Src w own A6 c6 p.data) (rooms : List Nat) (A : Option Addr) (c : Nat)
    (hr : ReadsInt w .u64 A rooms.length (natsI rooms)) (hrb : ∀ r ∈ rooms, r ≤ 18446744073709551615) (hl : rooms.length ≤ 100) (hint : Nat) (hh : hint ≤ 18446744073709551615) (hk : kindN p.kind = 9) :
    Calls Try.prog 27 #[.pointer (some ⟨a, 0, none⟩), .agg (cellsO p A6 c6), .slice A rooms.length c, .int .u64 hint] w (DoneOk w own base a s (placeF p rooms) p hint) := by
  have hbs : base ≤ w.heap.size := by have := h.lt a (by rw [h.osp]; simp); omega
  have hx : placeF p rooms ≤ 18446744073709551615 := by
    unfold placeF
    split
    · exact hp.o2
    · omega
  have hpl := (fun (W : World) (hB : Below w.heap.size w W) => place_in p hp A6 c6 rooms A c W (hr.below hB) hrb hl)
  unfold cellsO at hpl
  have HPL := Aside0.mk hpl
  have HKI := Aside0.mk (fun W => kind_in p.kind W hp.k1 hp.k2)
  have HP := Aside0.mk hp
  have HH := Aside0.mk h
  have HS := Aside0.mk hS
  obtain ⟨X, hX⟩ : ∃ X, X = placeF p rooms := ⟨_, rfl⟩
  rw [← hX] at HPL hx ⊢
  have HK := Aside0.mk hk
  obtain ⟨K, hK⟩ : ∃ K, K = kindN p.kind := ⟨_, rfl⟩
  rw [← hK] at HKI hk
  have hno : ∀ q, w.heap.size ≤ q → own q = none := fun q hq => Classical.byContradiction fun cc => by have := (h.lt q cc).2; omega
  have HNO := Aside0.mk hno
  unfold cellsO
  clear h hr hrb hS hX hK hno hpl
  have hn0 := (load_nat HH.out X)
  obtain ⟨N, hNe⟩ : ∃ N, N = (loadF s.rs X).1.toNat := ⟨_, rfl⟩
  have hN : N ≤ 18446744073709551615 := by omega
  have hld := fun (W : World) (hB : Below w.heap.size w W) => load_in (HH.out.below hB) X hx
  rw [show (loadF s.rs X).1 = (N : Int) from by omega] at hld
  have HLD := Aside0.mk hld
  have HNE := Aside0.mk (show (⟨(loadF s.rs X).2, le8 N, 0, false⟩ : Out) = ⟨(loadF s.rs X).2, le8 (loadF s.rs X).1.toNat, 0, false⟩ from by rw [← hNe])
  clear hn0 hNe hld
  subst hk
  go_enter Try.func27, Try.ntmps27
  go_wp2_with (first
    | (go_at_call 31; (with_reducible refine (HPL.out _ (below_alloc (below_new w (.cells #[.int .i64 p.kind, .int .i64 p.room, .int .u64 p.off, .int .u64 p.size, .int .i64 p.prot, .int .u64 p.hint, .slice A6 p.data.length c6] 60)) _)).mono ?_); rintro _ W1 ⟨rfl, hB1⟩; have htwo := two_new rfl hB1; have HB1 := Aside0.mk htwo.1; have HF1 := Aside0.mk htwo.2.1; have HG1 := Aside0.mk htwo.2.2.1; have HZ1 := Aside0.mk htwo.2.2.2; have HH1 := Aside0.mk (HH.out.below HB1.out); have HS1 := Aside0.mk (HS.out.move HB1.out.size (fun k hk _ => HB1.out.block k hk)); have q0 : W1.cell? ⟨w.heap.size, 0, none⟩ = some (.int .i64 p.kind) := HF1.out.cell 0 _ rfl; have q3 : W1.cell? ⟨w.heap.size, 3, none⟩ = some (.int .u64 p.size) := HF1.out.cell 3 _ rfl; have q4 : W1.cell? ⟨w.heap.size, 4, none⟩ = some (.int .i64 p.prot) := HF1.out.cell 4 _ rfl; have q5 : W1.cell? ⟨w.heap.size, 5, none⟩ = some (.int .u64 p.hint) := HF1.out.cell 5 _ rfl; have q6 : W1.cell? ⟨w.heap.size, 6, none⟩ = some (.slice A6 p.data.length c6) := HF1.out.cell 6 _ rfl; clear htwo hB1)
    | (go_at_call 26; (with_reducible refine (HKI.out _).mono ?_); rintro _ _ ⟨rfl, rfl⟩)
    | (go_at_call 58; (with_reducible refine (HLD.out W1 HB1.out).mono ?_); rintro _ W0 ⟨rfl, hB0⟩; have HB0 := Aside0.mk hB0; clear hB0) | (go_at_call 59; (with_reducible refine (put_in N hN W0).mono ?_); rintro _ W2 ⟨v2, rfl, hO, hB3⟩; have hB2 : Below W1.heap.size W1 W2 := below_then HB0.out HB0.out.size hB3; have HK2 := Aside0.mk (Kp.below (Kp.refl own base W1) (by have := HB1.out.size; omega) hB2); have HH2 := Aside0.mk (HH1.out.below hB2); have HG2 := Aside0.mk (HG1.out.move (HK2.out.kp _ HZ1.out (HNO.out _ (by omega)))); have HKK := Aside0.mk (((Kp.refl own base w).below hbs HB1.out).then_ (by have := HZ1.out; omega) HK2.out); have z0 : W2.cell? ⟨w.heap.size + 1, 0, none⟩ = some (.int .i64 0) := HG2.out.cell 0 _ rfl; have z1 : W2.cell? ⟨w.heap.size + 1, 1, none⟩ = some (.string ⟨#[]⟩) := HG2.out.cell 1 _ rfl; have z2 : W2.cell? ⟨w.heap.size + 1, 2, none⟩ = some (.int .u64 0) := HG2.out.cell 2 _ rfl; have z3 : W2.cell? ⟨w.heap.size + 1, 3, none⟩ = some (.bool false) := HG2.out.cell 3 _ rfl; have y0 := HG2.out.free 0; have y1 := HG2.out.free 1; have y2 := HG2.out.free 2; have y3 := HG2.out.free 3; clear q0 q3 q4 q5 q6; obtain ⟨A2, c2, rfl⟩ := own_slice hO; have hcv : (convert 22 9 (.slice A2 8 c2)).run Try.prog W2 = .ok (.string (strOfNums (le8 N))) W2 := own_string Try.underlying22 Try.underlying5 Try.underlying9 hO; clear hO hB2 hB3))
  exact done_end rfl rfl HG2.out (by omega) hbs (HNO.out _ (by omega)) (.inr (.inr (.inr (.inr (.inr (.inr (.inl ⟨HK.out, rfl, HNE.out⟩))))))) HH2.out (fun _ _ => rfl) HKK.out _ _ _ _ rfl rfl rfl rfl
set_option maxRecDepth 100000 in
set_option maxHeartbeats 2000000 in
theorem done_store {w : World} {own : Nat → Option Role} {base a : Nat} {v : Value} {s : Sp} (h : Holds w own base a v s) (p : Opn) (hp : p.Ok) (A6 : Option Addr) (c6 : Nat) (hS : Src w own A6 c6 p.data) (rooms : List Nat) (A : Option Addr) (c : Nat)
    (hr : ReadsInt w .u64 A rooms.length (natsI rooms)) (hrb : ∀ r ∈ rooms, r ≤ 18446744073709551615) (hl : rooms.length ≤ 100) (hint : Nat) (hh : hint ≤ 18446744073709551615) (hk : kindN p.kind = 10) :
    Calls Try.prog 27 #[.pointer (some ⟨a, 0, none⟩), .agg (cellsO p A6 c6), .slice A rooms.length c, .int .u64 hint] w (DoneOk w own base a s (placeF p rooms) p hint) := by
  have hbs : base ≤ w.heap.size := by have := h.lt a (by rw [h.osp]; simp); omega
  have hx : placeF p rooms ≤ 18446744073709551615 := by
    unfold placeF
    split
    · exact hp.o2
    · omega
  have hpl := (fun (W : World) (hB : Below w.heap.size w W) => place_in p hp A6 c6 rooms A c W (hr.below hB) hrb hl)
  unfold cellsO at hpl
  have HPL := Aside0.mk hpl
  have HKI := Aside0.mk (fun W => kind_in p.kind W hp.k1 hp.k2)
  have HP := Aside0.mk hp
  have HH := Aside0.mk h
  have HS := Aside0.mk hS
  obtain ⟨X, hX⟩ : ∃ X, X = placeF p rooms := ⟨_, rfl⟩
  rw [← hX] at HPL hx ⊢
  have HK := Aside0.mk hk
  obtain ⟨K, hK⟩ : ∃ K, K = kindN p.kind := ⟨_, rfl⟩
  rw [← hK] at HKI hk
  have hno : ∀ q, w.heap.size ≤ q → own q = none := fun q hq => Classical.byContradiction fun cc => by have := (h.lt q cc).2; omega
  have HNO := Aside0.mk hno
  unfold cellsO
  clear h hr hrb hS hX hK hno hpl
  subst hk
  go_enter Try.func27, Try.ntmps27
  go_wp2_with (first
    | (go_at_call 31; (with_reducible refine (HPL.out _ (below_alloc (below_new w (.cells #[.int .i64 p.kind, .int .i64 p.room, .int .u64 p.off, .int .u64 p.size, .int .i64 p.prot, .int .u64 p.hint, .slice A6 p.data.length c6] 60)) _)).mono ?_); rintro _ W1 ⟨rfl, hB1⟩; have htwo := two_new rfl hB1; have HB1 := Aside0.mk htwo.1; have HF1 := Aside0.mk htwo.2.1; have HG1 := Aside0.mk htwo.2.2.1; have HZ1 := Aside0.mk htwo.2.2.2; have HH1 := Aside0.mk (HH.out.below HB1.out); have HS1 := Aside0.mk (HS.out.move HB1.out.size (fun k hk _ => HB1.out.block k hk)); have q0 : W1.cell? ⟨w.heap.size, 0, none⟩ = some (.int .i64 p.kind) := HF1.out.cell 0 _ rfl; have q3 : W1.cell? ⟨w.heap.size, 3, none⟩ = some (.int .u64 p.size) := HF1.out.cell 3 _ rfl; have q4 : W1.cell? ⟨w.heap.size, 4, none⟩ = some (.int .i64 p.prot) := HF1.out.cell 4 _ rfl; have q5 : W1.cell? ⟨w.heap.size, 5, none⟩ = some (.int .u64 p.hint) := HF1.out.cell 5 _ rfl; have q6 : W1.cell? ⟨w.heap.size, 6, none⟩ = some (.slice A6 p.data.length c6) := HF1.out.cell 6 _ rfl; clear htwo hB1)
    | (go_at_call 26; (with_reducible refine (HKI.out _).mono ?_); rintro _ _ ⟨rfl, rfl⟩)
    | (go_at_call 60; (with_reducible refine (store_in HH1.out X p.hint hx HP.out.h2).mono ?_); rintro _ W2 ⟨rfl, hH, hK⟩; have HH2 := Aside0.mk hH; have HK2 := Aside0.mk hK; clear hH hK; have HG2 := Aside0.mk (HG1.out.move (HK2.out.kp _ HZ1.out (HNO.out _ (by omega)))); have HKK := Aside0.mk (((Kp.refl own base w).below hbs HB1.out).then_ (by have := HZ1.out; omega) HK2.out); have z0 : W2.cell? ⟨w.heap.size + 1, 0, none⟩ = some (.int .i64 0) := HG2.out.cell 0 _ rfl; have z1 : W2.cell? ⟨w.heap.size + 1, 1, none⟩ = some (.string ⟨#[]⟩) := HG2.out.cell 1 _ rfl; have z2 : W2.cell? ⟨w.heap.size + 1, 2, none⟩ = some (.int .u64 0) := HG2.out.cell 2 _ rfl; have z3 : W2.cell? ⟨w.heap.size + 1, 3, none⟩ = some (.bool false) := HG2.out.cell 3 _ rfl; have y0 := HG2.out.free 0; have y1 := HG2.out.free 1; have y2 := HG2.out.free 2; have y3 := HG2.out.free 3; clear q0 q3 q4 q5 q6))
  exact done_end rfl rfl HG2.out (by omega) hbs (HNO.out _ (by omega)) (.inr (.inr (.inr (.inr (.inr (.inr (.inr (⟨HK.out, rfl, rfl⟩)))))))) HH2.out (fun _ _ => rfl) HKK.out _ _ _ _ rfl rfl rfl rfl
theorem done_in {w : World} {own : Nat → Option Role} {base a : Nat} {v : Value} {s : Sp} (h : Holds w own base a v s) (p : Opn) (hp : p.Ok) (A6 : Option Addr) (c6 : Nat) (hS : Src w own A6 c6 p.data) (rooms : List Nat) (A : Option Addr) (c : Nat)
    (hr : ReadsInt w .u64 A rooms.length (natsI rooms)) (hrb : ∀ r ∈ rooms, r ≤ 18446744073709551615) (hl : rooms.length ≤ 100) (hint : Nat) (hh : hint ≤ 18446744073709551615) :
    Calls Try.prog 27 #[.pointer (some ⟨a, 0, none⟩), .agg (cellsO p A6 c6), .slice A rooms.length c, .int .u64 hint] w (DoneOk w own base a s (placeF p rooms) p hint) := by
  have hk : kindN p.kind = 0 ∨ kindN p.kind = 1 ∨ kindN p.kind = 2 ∨ kindN p.kind = 3 ∨ kindN p.kind = 4 ∨ kindN p.kind = 5 ∨ kindN p.kind = 6 ∨ kindN p.kind = 7 ∨ kindN p.kind = 8 ∨ kindN p.kind = 9 ∨ kindN p.kind = 10 := by unfold kindN; omega
  rcases hk with hk | hk | hk | hk | hk | hk | hk | hk | hk | hk | hk
  · exact done_reserve h p hp A6 c6 hS rooms A c hr hrb hl hint hh (.inl hk)
  · exact done_reserve h p hp A6 c6 hS rooms A c hr hrb hl hint hh (.inr hk)
  · exact done_map h p hp A6 c6 hS rooms A c hr hrb hl hint hh (.inl hk)
  · exact done_map h p hp A6 c6 hS rooms A c hr hrb hl hint hh (.inr hk)
  · exact done_protect h p hp A6 c6 hS rooms A c hr hrb hl hint hh hk
  · exact done_release h p hp A6 c6 hS rooms A c hr hrb hl hint hh hk
  · exact done_read h p hp A6 c6 hS rooms A c hr hrb hl hint hh hk
  · exact done_write h p hp A6 c6 hS rooms A c hr hrb hl hint hh (.inl hk)
  · exact done_write h p hp A6 c6 hS rooms A c hr hrb hl hint hh (.inr hk)
  · exact done_load h p hp A6 c6 hS rooms A c hr hrb hl hint hh hk
  · exact done_store h p hp A6 c6 hS rooms A c hr hrb hl hint hh hk
end Go.Proofs.Ytmpahimeljbliaa.Vm
