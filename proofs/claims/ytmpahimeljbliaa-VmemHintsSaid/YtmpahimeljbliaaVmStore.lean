/- A number is laid into a space. No condition but that the space lies in memory as told. -/
import Derived.Test.YtmpahimeljbliaaVmLoad
import Derived.Test.YtmpahimeljbliaaVmPut
namespace Go.Proofs.Ytmpahimeljbliaa.Vm
open Go.RowKit Go.Proofs Go.Proofs.YtmpahimeljbliaaW.PrintWords

def byteN (n i : Nat) : Int := ((n / 256 ^ i % 256 : Nat) : Int)
def fill (n k : Nat) : List Int := (List.range 8).map fun i => if i < k then byteN n i else 0
/-- The number's eight bytes, the lowest first. -/
def le8 (n : Nat) : List Int := (List.range 8).map (byteN n)
theorem fill_len (n k : Nat) : (fill n k).length = 8 := by simp [fill]
theorem fill_all (n : Nat) : fill n 8 = le8 n := by
  unfold fill le8
  exact List.map_congr_left (fun i hi => if_pos (List.mem_range.1 hi))
theorem fill_set (n k : Nat) (hk : k < 8) : (fill n k).set k (byteN n k) = fill n (k + 1) := by
  refine List.ext_getElem? fun i => ?_
  rw [List.getElem?_set, fill_len]
  unfold fill
  rw [List.getElem?_map, List.getElem?_map]
  by_cases c : k = i
  · subst c
    rw [if_pos rfl, if_pos hk, List.getElem?_range hk]
    simp
  · rw [if_neg c]
    by_cases d : i < 8
    · rw [List.getElem?_range d]
      simp only [Option.map_some]
      congr 1
      by_cases e : i < k
      · rw [if_pos e, if_pos (by omega)]
      · rw [if_neg e, if_neg (by omega)]
    · rw [List.getElem?_eq_none (by simp; omega)]
      rfl
theorem le8_bytes (n : Nat) : ∀ b ∈ le8 n, 0 ≤ b ∧ b ≤ 255 := by
  intro b hb
  obtain ⟨i, -, rfl⟩ := List.mem_map.1 hb
  unfold byteN
  omega
theorem le8_len (n : Nat) : (le8 n).length = 8 := by simp [le8]
theorem below_new (w : World) (o : Obj) : Below w.heap.size w (w.alloc o) := below_alloc (Below.refl _ _) _
theorem byteN_eq (n k : Nat) : (n : Int) / 2 ^ (8 * k) % 256 = byteN n k := by
  unfold byteN
  rw [show (256 : Nat) ^ k = 2 ^ (8 * k) from by rw [Nat.pow_mul]]
  have h : ((2 ^ (8 * k) : Nat) : Int) = 2 ^ (8 * k) := by simp
  rw [← h]
  generalize 2 ^ (8 * k) = P
  omega
theorem size_setCell (w : World) (ad : Addr) (v : Value) : (w.setCell ad v).heap.size = w.heap.size := by simp [World.setCell]
theorem Kp.then_ {own : Nat → Option Role} {base : Nat} {w w1 w2 : World} (h : Kp own base w w1) (hs : w.heap.size < w1.heap.size) (k : Kp own base w1 w2) : Kp own base w w2 :=
  ⟨h.bel.trans k.bel, fun i hi ho => (k.kp i (by omega) ho).trans (h.kp i hi ho)⟩
theorem Kp.of_none {own : Nat → Option Role} {base : Nat} {w w1 : World} (h : Kp own base w w1) {b : Nat} (hb : w.heap.size ≤ b) (hbs : base ≤ w.heap.size) (j : Nat) (v : Value) : Kp own base w (w1.setCell ⟨b, j, none⟩ v) :=
  ⟨h.bel.setCell (by show base ≤ b; omega) v, fun i hi hn => (Below.heap_setCell w1 ⟨b, j, none⟩ v i (by show i ≠ b; omega)).trans (h.kp i hi hn)⟩
set_option maxRecDepth 100000 in
set_option maxHeartbeats 2000000 in
theorem store_in {w : World} {own : Nat → Option Role} {base a : Nat} {v : Value} {s : Sp} (h : Holds w own base a v s) (x n : Nat) (hx : x ≤ 18446744073709551615) (hn : n ≤ 18446744073709551615) :
    Calls Try.prog 60 #[.pointer (some ⟨a, 0, none⟩), .int .u64 x, .int .u64 n] w fun e w' => e = .returned (.int .i64 (writeF s x (le8 n)).2) ∧ Holds w' own base a v (writeF s x (le8 n)).1 ∧ Kp own base w w' := by
  have hbs : base ≤ w.heap.size := by have := h.lt a (by rw [h.osp]; simp); omega
  have HH := Aside0.mk h
  clear h
  go_enter Try.func60, Try.ntmps60
  go_wp2
  go_loopw [8, 9] (fun j i wr => ∃ k : Nat, i = .int .i64 k ∧ k ≤ 8 ∧ Aside0 (Blk wr w.heap.size ((fill n k).map (.int .u8)).toArray 163) ∧ Aside0 (w.heap.size < wr.heap.size) ∧ Aside0 (Kp own base w wr) ∧ Aside0 (Holds wr own base a v s)) (fun _ i _ => 8 - (intOf i).toNat)
  case atStart => exact ⟨0, rfl, by omega, ⟨Blk.new w _ _⟩, ⟨(Blk.new w _ 163).lt⟩, ⟨(Kp.refl _ _ _).below hbs (below_new _ _)⟩, ⟨HH.out.below (below_new _ _)⟩⟩
  case round =>
    obtain ⟨k, rfl, hk, HB, HZ, HK, HW⟩ := hrel
    by_cases hlt : k < 8
    · have hfree := HB.out.free k
      have hcell : wr.cell? ⟨w.heap.size, k, none⟩ = some (.int .u8 ((fill n k)[k]'(by rw [fill_len]; exact hlt))) := HB.out.cell k _ (by rw [List.getElem?_toArray, List.getElem?_map, List.getElem?_eq_getElem (by rw [fill_len]; exact hlt)]; rfl)
      go_wp2
      refine ⟨⟨k + 1, by go_num, by omega, ⟨?_⟩, ⟨by rw [size_setCell]; exact HZ.out⟩, ⟨HK.out.of_none (Nat.le_refl _) hbs k _⟩, ⟨HW.out.keep (by rw [size_setCell]; exact Nat.le_refl _) (fun q hq => Below.heap_setCell wr ⟨w.heap.size, k, none⟩ _ q (fun e => ?_))⟩⟩, by simp only [intOf]; omega⟩
      · rw [byteN_eq, ← fill_set n k hlt, List.map_set]
        have hs := HB.out.set k (.int .u8 (byteN n k))
        rw [List.setIfInBounds_toArray] at hs
        exact hs
      · have := (HH.out.lt q hq).2
        have e2 : q = w.heap.size := e
        omega
    · obtain rfl : k = 8 := by omega
      rw [fill_all] at HB
      have HS : Src wr own (some ⟨w.heap.size, 0, none⟩) 8 (le8 n) := ⟨⟨rfl, by rw [le8_len]; omega, fun _ => ⟨_, rfl, fun j hj => by
          rw [add_at, Nat.zero_add]
          refine HB.out.cell j _ ?_
          rw [List.getElem?_toArray, List.getElem?_map, List.getD_eq_getElem?_getD, List.getElem?_eq_getElem hj]
          rfl⟩⟩, by rw [le8_len]; omega, fun _ ad e => by
          cases e
          refine ⟨Classical.byContradiction fun c => ?_, HZ.out⟩
          have := (HH.out.lt w.heap.size c).2
          omega⟩
      have HQ : Calls Try.prog 32 #[.pointer (some ⟨a, 0, none⟩), .int .u64 x, .slice (some ⟨w.heap.size, 0, none⟩) 8 8] wr fun e w' => e = .returned (.int .i64 (writeF s x (le8 n)).2) ∧ Holds w' own base a v (writeF s x (le8 n)).1 ∧ Kp own base wr w' := write_in HW.out x _ 8 (le8 n) hx HS (le8_bytes n) (by rw [le8_len]; omega)
      clear HS
      go_wp2_with (go_at_call 32; (with_reducible refine HQ.mono ?_); rintro _ W2 ⟨rfl, hH, hK⟩; have HH2 := Aside0.mk hH; have HK2 := Aside0.mk hK; clear hH hK HQ)
      go_ret
      exact ⟨rfl, HH2.out, HK.out.then_ HZ.out HK2.out⟩
end Go.Proofs.Ytmpahimeljbliaa.Vm
