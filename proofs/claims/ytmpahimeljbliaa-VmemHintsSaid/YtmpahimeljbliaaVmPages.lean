/- What a space has, told: its pages. No condition but that the space lies in memory as told. -/
import Derived.Test.YtmpahimeljbliaaVmList
import Derived.Great.BuildSlice
import Derived.Deep.MidRow
namespace Go.Proofs.Ytmpahimeljbliaa.Vm
open Go.RowKit Go.Proofs Go.Proofs.YtmpahimeljbliaaW.PrintWords

def pgsR (r : Rm) : List Pg := r.ps.filterMap id
def pgsOf (l : List Rm) : List Pg := l.flatMap pgsR
def cellsL (l : List Pg) : List Value := l.flatMap fun g => (cellsP g).toList
theorem cellsP_size {r : Rm} (hr : r.Good) {k : Nat} {g : Pg} (hg : r.ps[k]? = some (some g)) : (cellsP g).size = 258 := by
  have := (hr.ok hg).len
  simp [cellsP, this]
theorem load_blk {ops : Array Oper} {rest : List Oper} {o : Oper} {a : Act} {Q : Exit → Act → World → Prop} {W : World} {ty : TypeId} {x : Operand} {g : Nat} {t : TypeId} {cs : Array Value} {d : TypeDesc}
    (hgd : o.guard = none) (ho : o.op = .load ty x) (hx : a.eval x = .pointer (some ⟨g, 0, none⟩)) (hb : Blk W g cs t)
    (hu : Try.prog.underlying ty = some d) (hd : d.isRow = true) (hi : (Try.prog.info? ty).map (·.size) = some cs.size)
    (h : wpList Try.prog ops Q rest (a.put o.dst (.agg cs)) W) : wpList Try.prog ops Q (o :: rest) a W :=
  wpList_load_mid hgd ty x ho g 0 hx cs.toList d (fun j v hv => by rw [Nat.zero_add]; exact hb.cell j v (by simpa using hv)) hu hd (by simpa using hi) (by simpa using h)
theorem build_one {ops : Array Oper} {rest : List Oper} {o : Oper} {a : Act} {Q : Exit → Act → World → Prop} {W : World} {t e : TypeId} {x : Operand} {cs : Array Value} {z : Value} {b : Nat}
    (hgd : o.guard = none) (ho : o.op = .buildSlice t 1 #[(0, x)]) (hx : a.eval x = .agg cs) (hu : Try.prog.underlying t = some (.slice e)) (hi : (Try.prog.info? e).map (fun i => (i.zero, i.size, i.bytes)) = some (some z, cs.size, b)) (hz : z.cells.size = cs.size) (hp : 0 < cs.size) (hs : cs.size ≤ 1000)
    (h : wpList Try.prog ops Q rest (a.put o.dst (.slice (some ⟨W.heap.size, 0, none⟩) 1 1)) (W.alloc (.cells cs e))) : wpList Try.prog ops Q (o :: rest) a W := by
  obtain ⟨i0, h1, h2, h3, h4⟩ := info_parts hi
  refine wpList_buildSlice hgd t e 1 _ ho cs i0 z hu h1 h2 (by omega) (by omega) ?_ h
  have hw := Great.fill_whole (s := cs.size) hp [.agg cs] ((Array.range (1 * i0.size)).map (z.cells[· % z.cells.size]!)) (by simp [Value.cells]) (by simp [h3])
  rw [h3] at hw ⊢
  simpa [hx, Value.cells] using hw
theorem pgs_step (r : Rm) (q : Nat) (x : Option Pg) (h : r.ps[q]? = some x) : (r.ps.take (q + 1)).filterMap id = (r.ps.take q).filterMap id ++ x.toList := by
  rw [List.take_add_one, h]
  cases x <;> simp
theorem one_page (g : Pg) : ∀ u ∈ (cellsP g).toList, u.oneCell' = true := by
  intro u hu
  unfold cellsP at hu
  simp only [List.mem_cons, List.mem_map] at hu
  rcases hu with rfl | rfl | ⟨y, -, rfl⟩ <;> rfl
set_option maxRecDepth 100000 in
set_option maxHeartbeats 2000000 in
theorem pages_all {w : World} {own : Nat → Option Role} {base a : Nat} {v : Value} {s : Sp} (h : Holds w own base a v s) :
    Calls Try.prog 29 #[.pointer (some ⟨a, 0, none⟩)] w fun e w' => ∃ v', e = .returned v' ∧ w'.ownsRow w.heap.size 90 258 v' (pgsOf s.rs).length (cellsL (pgsOf s.rs)) ∧ Below w.heap.size w w' := by
  obtain ⟨A, c, rfl, hc⟩ := h.slice
  have hlen := h.good.len
  have HH := Aside0.mk h
  have h2 := h.s2
  obtain ⟨n, hn⟩ : ∃ n, n = s.rs.length := ⟨_, rfl⟩
  rw [← hn] at h2 hlen hc
  have HN := Aside0.mk hn
  clear h hn
  go_enter Try.func29, Try.ntmps29
  go_wp2
  clear h2
  go_loopw [3, 13] (fun d i wr => ∃ (k m : Nat), i = .int .i64 k ∧ k ≤ n ∧ m ≤ 64 * k ∧ Aside0 (m = (pgsOf (s.rs.take k)).length) ∧ Aside0 (wr.ownsRow w.heap.size 90 258 d m (cellsL (pgsOf (s.rs.take k)))) ∧ Aside0 (Below w.heap.size w wr)) (fun _ i _ => n - (intOf i).toNat)
  case atStart => exact ⟨0, 0, rfl, Nat.zero_le _, Nat.zero_le _, ⟨rfl⟩, ⟨own_nil _ _ _ _⟩, ⟨Below.refl _ _⟩⟩
  case round =>
    obtain ⟨k, m, rfl, hk, hmk, HM, HO, HB⟩ := hrel
    by_cases hlt : k < n
    · obtain ⟨r, hr⟩ : ∃ r, s.rs[k]? = some r := ⟨s.rs[k]'(by rw [← HN.out]; exact hlt), List.getElem?_eq_getElem _⟩
      have hW := HH.out.below HB.out
      obtain ⟨-, hrows⟩ := hW.rows
      obtain ⟨ad, rfl, hcell⟩ := hrows k r hr
      have hr1 := hW.r1 hr
      have HR := Aside0.mk hr
      have hrl : r.ps.length ≤ 64 := (HH.out.good.rm r (List.mem_of_getElem? hr)).l2
      obtain ⟨M, hM⟩ : ∃ M, M = r.ps.length := ⟨_, rfl⟩
      rw [← hM] at hr1 hrl
      have HMM := Aside0.mk hM
      clear hr hW hrows hM
      go_wp2
      clear hr1 hcell
      go_loopw [3, 22] (fun d i wr => ∃ (q m : Nat), i = .int .i64 q ∧ q ≤ M ∧ m ≤ 64 * k + q ∧ Aside0 (m = (pgsOf (s.rs.take k) ++ (r.ps.take q).filterMap id).length) ∧ Aside0 (wr.ownsRow w.heap.size 90 258 d m (cellsL (pgsOf (s.rs.take k) ++ (r.ps.take q).filterMap id))) ∧ Aside0 (Below w.heap.size w wr)) (fun _ i _ => M - (intOf i).toNat)
      case atStart => exact ⟨0, m, rfl, Nat.zero_le _, hmk, ⟨by simpa using HM.out⟩, ⟨by simpa using HO.out⟩, HB⟩
      case round =>
        obtain ⟨q, m2, rfl, hq, hmq, HM2, HO2, HB2⟩ := hrel
        by_cases hlt2 : q < M
        · have hql : q < r.ps.length := by rw [← HMM.out]; exact hlt2
          have HW := Aside0.mk (HH.out.below HB2.out)
          have hpp := HW.out.pp HR.out hql
          have hstep := pgs_step r q _ (List.getElem?_eq_getElem hql)
          cases hg : r.ps[q] with
          | none =>
            rw [hg] at hpp hstep
            rw [Option.toList_none, List.append_nil] at hstep
            have hp' : wr.cell? ⟨r.ab, q, none⟩ = some (.pointer none) := hpp
            have HST := Aside0.mk hstep
            clear hpp hg hstep
            go_wp2
            go_roundw
            case rel => exact ⟨q + 1, m2, by go_num, by omega, by omega, ⟨by rw [HST.out]; exact HM2.out⟩, ⟨by rw [HST.out]; exact HO2.out⟩, HB2⟩
            case measure => simp [intOf]; omega
          | some g =>
            rw [hg] at hpp hstep
            rw [Option.toList_some] at hstep
            have HG := Aside0.mk (show r.ps[q]? = some (some g) from by rw [List.getElem?_eq_getElem hql, hg])
            have HCS := Aside0.mk (cellsP_size (HH.out.good.rm r (List.mem_of_getElem? HR.out)) HG.out)
            have HBK := Aside0.mk (HW.out.pg k r HR.out q g HG.out).1
            have hsz : w.heap.size ≤ wr.heap.size := HB2.out.size
            have hp' : wr.cell? ⟨r.ab, q, none⟩ = some (.pointer (some ⟨g.b, 0, none⟩)) := hpp
            have HST := Aside0.mk hstep
            clear hpp hg hstep
            go_wp2_with (first
              | ((with_reducible refine gate_dst (N := 31) rfl ?_); refine load_blk rfl rfl rfl HBK.out Try.underlying90 rfl (by rw [HCS.out]; kernel_rfl) ?_)
              | ((with_reducible refine gate_dst (N := 32) rfl ?_); refine build_one rfl rfl rfl Try.underlying66 (by rw [HCS.out]; exact info90) (by rw [HCS.out]; kernel_rfl) (by rw [HCS.out]; decide) (by rw [HCS.out]; decide) ?_)
              | (at_builtin; refine print_append_cells (W := wr) (w0 := w) w.heap.size rfl (.tmp 28) (.tmp 32) 66 90 (.agg (cellsP ⟨0, 0, 0, List.replicate 256 0⟩)) 258 272 rfl Try.underlying66 info90 (by kernel_rfl) (by decide) (by decide) _ m2 (cellsL (pgsOf (s.rs.take k) ++ (r.ps.take q).filterMap id)) (cellsP g).toList rfl rfl (by rw [Array.length_toList]; exact HCS.out) (one_page g) HO2.out HB2.out hsz (by omega) ?_; intro v1 w1 ho1 hb1 hg1 hx1; have HO1 := Aside0.mk ho1; have HB1 := Aside0.mk hb1; clear ho1 hb1 hg1 hx1))
            go_roundw
            case rel => exact ⟨q + 1, m2 + 1, by go_num, by omega, by omega, ⟨by rw [HST.out, ← List.append_assoc, List.length_append, ← HM2.out]; rfl⟩, ⟨by rw [HST.out, ← List.append_assoc]; have := HO1.out; rw [cellsL, List.flatMap_append, ← cellsL]; simpa using this⟩, HB1⟩
            case measure => simp [intOf]; omega
        · obtain rfl : q = M := by omega
          have HT := Aside0.mk (show pgsOf (s.rs.take (k + 1)) = pgsOf (s.rs.take k) ++ (r.ps.take q).filterMap id from by rw [pgsOf, take_flat pgsR _ k r HR.out, HMM.out, List.take_length]; rfl)
          go_wp2
          exact ⟨⟨k + 1, m2, by go_num, by omega, by omega, ⟨by rw [HT.out]; exact HM2.out⟩, ⟨by rw [HT.out]; exact HO2.out⟩, HB2⟩, by simp [intOf]; omega⟩
    · obtain rfl : k = n := by omega
      go_wp2
      go_ret
      exact ⟨_, rfl, by have h1 := HO.out; have h2 := HM.out; rw [HN.out, List.take_length] at h1 h2; rw [h2] at h1; exact h1, HB.out⟩
end Go.Proofs.Ytmpahimeljbliaa.Vm
