/- The law's calls in memory; are they too much; what stands between two calls. No condition but that the calls lie in memory as told. -/
import Derived.Test.YtmpahimeljbliaaVmDone
import Derived.Test.YtmpahimeljbliaaVmPages
import Derived.Test.YtmpahimeljbliaaVmNew
namespace Go.Proofs.Ytmpahimeljbliaa.Vm
open Go.RowKit Go.Proofs Go.Proofs.YtmpahimeljbliaaW.PrintWords

/-- A call in memory. -/
def OpAt (w : World) (ad : Addr) (p : Opn) (A6 : Option Addr) (c6 : Nat) : Prop :=
  w.cell? ad = some (.int .i64 p.kind) ∧ w.cell? ⟨ad.block, ad.off + 1, none⟩ = some (.int .i64 p.room) ∧ w.cell? ⟨ad.block, ad.off + 2, none⟩ = some (.int .u64 p.off) ∧ w.cell? ⟨ad.block, ad.off + 3, none⟩ = some (.int .u64 p.size) ∧ w.cell? ⟨ad.block, ad.off + 4, none⟩ = some (.int .i64 p.prot) ∧ w.cell? ⟨ad.block, ad.off + 5, none⟩ = some (.int .u64 p.hint) ∧ w.cell? ⟨ad.block, ad.off + 6, none⟩ = some (.slice A6 p.data.length c6) ∧
  p.data.length ≤ c6 ∧ ReadsInt w .u8 A6 p.data.length p.data
theorem cell_lt {w : World} {ad : Addr} {v : Value} (h : w.cell? ad = some v) : ad.block < w.heap.size := by
  unfold World.cell? at h
  rcases Nat.lt_or_ge ad.block w.heap.size with c | c
  · exact c
  · rw [Array.getElem?_eq_none c] at h
    cases h
theorem OpAt.below {w W : World} {ad : Addr} {p : Opn} {A6 : Option Addr} {c6 : Nat} (h : OpAt w ad p A6 c6) (hB : Below w.heap.size w W) : OpAt W ad p A6 c6 := by
  have hl : ad.block < w.heap.size := cell_lt h.1
  obtain ⟨h0, h1, h2, h3, h4, h5, h6, h7, h8⟩ := h
  exact ⟨(hB.cell hl).trans h0, (hB.cell (p := ⟨ad.block, _, none⟩) hl).trans h1, (hB.cell (p := ⟨ad.block, _, none⟩) hl).trans h2, (hB.cell (p := ⟨ad.block, _, none⟩) hl).trans h3, (hB.cell (p := ⟨ad.block, _, none⟩) hl).trans h4, (hB.cell (p := ⟨ad.block, _, none⟩) hl).trans h5, (hB.cell (p := ⟨ad.block, _, none⟩) hl).trans h6, h7, h8.below hB⟩
theorem OpAt.src {w W : World} {ad : Addr} {p : Opn} {A6 : Option Addr} {c6 : Nat} (h : OpAt w ad p A6 c6) (hB : Below w.heap.size w W) {own : Nat → Option Role} {a : Nat} {v : Value} {s : Sp} (hH : Holds W own w.heap.size a v s) : Src W own A6 c6 p.data :=
  ⟨(h.below hB).2.2.2.2.2.2.2.2, h.2.2.2.2.2.2.2.1, fun hn ad' e => by
    obtain ⟨ad0, e0, hc⟩ := h.2.2.2.2.2.2.2.2.2.2 hn
    have hl := cell_lt (hc 0 hn)
    have hb : (ad0.add 0).block = ad0.block := by unfold Addr.add; split <;> rfl
    rw [hb] at hl
    rw [e] at e0
    obtain rfl := Option.some.inj e0
    refine ⟨Classical.byContradiction fun cc => ?_, Nat.lt_of_lt_of_le hl hB.size⟩
    have := (hH.lt _ cc).1
    omega⟩
def Ops (w : World) (A : Option Addr) (l : List Opn) : Prop := ∀ (i : Nat) (p : Opn), l[i]? = some p → ∃ ad A6 c6, A = some ad ∧ OpAt w (ad.add (i * 7)) p A6 c6
def bigF (l : List Opn) : Bool := decide (60 < l.length) || l.any fun p => decide (2048 < p.data.length)
set_option maxRecDepth 100000 in
theorem big_in {w : World} {A : Option Addr} {l : List Opn} (h : Ops w A l) (c : Nat) : Calls Try.prog 23 #[.slice A l.length c] w fun e w' => e = .returned (.bool (bigF l)) ∧ w = w' := by
  have HO := Aside0.mk h
  clear h
  by_cases c1 : 60 < l.length
  · have HB := Aside0.mk (show bigF l = true from by unfold bigF; rw [decide_eq_true c1]; rfl)
    go_enter Try.func23, Try.ntmps23
    go_wp2
    go_ret
    exact ⟨by rw [HB.out]; rfl, rfl⟩
  · obtain ⟨n, hn⟩ : ∃ n, n = l.length := ⟨_, rfl⟩
    have HN := Aside0.mk hn
    have HB := Aside0.mk (show bigF l = l.any fun p => decide (2048 < p.data.length) from by unfold bigF; rw [decide_eq_false c1]; rfl)
    rw [← hn] at c1 ⊢
    clear hn
    go_enter Try.func23, Try.ntmps23
    go_wp2
    go_loop [3] (fun i => ∃ k : Nat, i = .int .i64 k ∧ k ≤ n ∧ Aside0 (∀ j p, j < k → l[j]? = some p → p.data.length ≤ 2048)) (fun i => n - (intOf i).toNat)
    case atStart => exact ⟨0, rfl, Nat.zero_le _, ⟨fun j p hj => by omega⟩⟩
    case round =>
      obtain ⟨k, rfl, hk, HA⟩ := hrel
      by_cases hlt : k < n
      · obtain ⟨p, hp⟩ : ∃ p, l[k]? = some p := ⟨l[k]'(by rw [← HN.out]; exact hlt), List.getElem?_eq_getElem _⟩
        obtain ⟨ad, A6, c6, rfl, hat⟩ := HO.out k p hp
        have hc6 := hat.2.2.2.2.2.2.1
        have HP := Aside0.mk hp
        clear hat hp
        by_cases c2 : 2048 < p.data.length
        · have HT := Aside0.mk (show (l.any fun p => decide (2048 < p.data.length)) = true from List.any_eq_true.2 ⟨p, List.mem_of_getElem? HP.out, decide_eq_true c2⟩)
          go_wp2
          go_ret
          exact ⟨by rw [HB.out, HT.out]; rfl, rfl⟩
        · have c3 : p.data.length ≤ 2048 := by omega
          have HA' := Aside0.mk (show ∀ j q, j < k + 1 → l[j]? = some q → q.data.length ≤ 2048 from fun j q hj hq => by
            rcases Nat.lt_or_ge j k with cj | cj
            · exact HA.out j q cj hq
            · obtain rfl : j = k := by omega
              rw [HP.out] at hq
              rw [← Option.some.inj hq]
              exact c3)
          go_wp2
          go_round
          case rel => exact ⟨k + 1, by go_num, by omega, HA'⟩
          case measure => simp [intOf]; omega
      · obtain rfl : k = n := by omega
        have HT := Aside0.mk (show (l.any fun p => decide (2048 < p.data.length)) = false from by
          rw [List.any_eq_false]
          intro p hp
          obtain ⟨j, hj⟩ := List.mem_iff_getElem?.1 hp
          have hjl := (List.getElem?_eq_some_iff.1 hj).1
          have := HA.out j p (by rw [HN.out]; exact hjl) hj
          simp; omega)
        go_wp2
        go_ret
        exact ⟨by rw [HB.out, HT.out]; rfl, rfl⟩
/-- Between two calls: the space, the rooms so far. -/
structure St (w0 W : World) (own : Nat → Option Role) (a : Nat) (v : Value) (s : Sp) (rv : Value) (rooms : List Nat) : Prop where
  hold : Holds W own w0.heap.size a v s
  bel : Below w0.heap.size w0 W
  row : W.ownsRow w0.heap.size 28 1 rv rooms.length (nums .u64 (natsI rooms))
  free : ∀ k, rv.ownBlock = some k → own k = none
  le : ∀ r ∈ rooms, r ≤ 18446744073709551615
theorem St.below {w0 W W1 : World} {own : Nat → Option Role} {a : Nat} {v : Value} {s : Sp} {rv : Value} {rooms : List Nat} (h : St w0 W own a v s rv rooms) (hB : Below W.heap.size W W1) : St w0 W1 own a v s rv rooms :=
  ⟨h.hold.below hB, below_then h.bel h.bel.size hB, own_move h.row (fun k hk => hB.block k (own_lt h.row k hk)), h.free, h.le⟩
theorem St.reads {w0 W : World} {own : Nat → Option Role} {a : Nat} {v : Value} {s : Sp} {rv : Value} {rooms : List Nat} (h : St w0 W own a v s rv rooms) : ∃ A c, rv = .slice A rooms.length c ∧ ReadsInt W .u64 A rooms.length (natsI rooms) := own_reads h.row
/-- Behind a call. -/
theorem St.kept {w0 W W1 : World} {own own' : Nat → Option Role} {a : Nat} {v v' : Value} {s s' : Sp} {rv : Value} {rooms : List Nat} (h : St w0 W own a v s rv rooms) (hH : Holds W1 own' w0.heap.size a v' s') (ho : ∀ k, k < W.heap.size → own' k = own k) (hK : Kp own w0.heap.size W W1) : St w0 W1 own' a v' s' rv rooms :=
  ⟨hH, h.bel.trans hK.bel, own_move h.row (fun k hk => hK.kp k (own_lt h.row k hk) (h.free k hk)), fun k hk => (ho k (own_lt h.row k hk)).trans (h.free k hk), h.le⟩
/-- A room more. -/
theorem St.push {w0 W W1 : World} {own : Nat → Option Role} {a : Nat} {v : Value} {s : Sp} {rv v1 : Value} {rooms : List Nat} (h : St w0 W own a v s rv rooms) (x : Nat) (hx : x ≤ 18446744073709551615) (hr : W1.ownsRow w0.heap.size 28 1 v1 (rooms.length + 1) (nums .u64 (natsI rooms) ++ [.int .u64 x])) (hB : Below w0.heap.size w0 W1) (hg : W.grownBy W1 rv.ownBlock) (hat : v1.ownBlock = rv.ownBlock ∨ ∃ b, v1.ownBlock = some b ∧ W.heap.size ≤ b) : St w0 W1 own a v s v1 (rooms ++ [x]) := by
  refine ⟨h.hold.grown hg h.free, hB, ?_, fun k hk => ?_, fun r hr => ?_⟩
  · rw [List.length_append, natsI, List.map_append, nums, List.map_append]
    exact hr
  · rcases hat with hat | ⟨b, hb, hb2⟩
    · exact h.free k (hat ▸ hk)
    · rw [hb] at hk
      obtain rfl := Option.some.inj hk
      exact Classical.byContradiction fun cc => by have := (h.hold.lt _ cc).2; omega
  · rcases List.mem_append.1 hr with hr | hr
    · exact h.le r hr
    · obtain rfl := List.mem_singleton.1 hr
      exact hx
end Go.Proofs.Ytmpahimeljbliaa.Vm
