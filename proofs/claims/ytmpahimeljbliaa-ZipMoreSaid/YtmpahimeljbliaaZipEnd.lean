/- zip.findEnd: what lies at an archive's end. No condition but that the argument is a slice of bytes. -/
import Derived.Test.YtmpahimeljbliaaZipNumB
import Derived.Test.YtmpahimeljbliaaBuf
import Derived.Deep.QuietTactic
import Derived.BigQuiet
import Derived.Deep.RegionHeld3
import Derived.Deep.DeepCutAuto
import Derived.RegionTactic

namespace Go.Proofs.Ytmpahimeljbliaa.ZipEnd
open Go.RowKit Go.Proofs Go.Proofs.Ytmpahimeljbliaa.B Go.Proofs.Ytmpahimeljbliaa.Buf Go.Proofs.YtmpahimeljbliaaW.PrintWords Go.Proofs.YtmpahimeljbliaaW.PrintLast Go.Proofs.YtmpahimeljbliaaW.PrintMore
open ZipPure (numAt U Bytes endFrom endAt endMarks)
open ZipNumB

/-- What zip.findEnd hands back where the last part stands. -/
def endOk (l : List Int) (a : Nat) : Bool := (numAt l (a + 4) 2 == 0) && ((numAt l (a + 6) 2 == 0) && ((numAt l (a + 8) 2 == numAt l (a + 10) 2) && decide (numAt l (a + 16) 4 + numAt l (a + 12) 4 ≤ (a : Int))))
/-- What zip.findEnd hands back. -/
def endRes (l : List Int) : Int × Int × Int × Int × Bool := match endAt l with
  | none => (0, 0, 0, 0, false)
  | some a => ((a : Int), numAt l (a + 10) 2, numAt l (a + 12) 4, numAt l (a + 16) 4, endOk l a)
theorem num2 (A0 : Option Addr) (c0 : Nat) (l : List Int) (z : Int) (a : Nat) (w : World) (hz : z = (a : Int)) (hr : ReadsInt w .u8 A0 l.length l) (hc : l.length ≤ c0) (hl : Bytes l) (hlen : l.length ≤ 140737488355328) (ha : a ≤ 140737488355428) :
    Calls Try.prog 70 #[.slice A0 l.length c0, .int .u64 z, .int .i64 2] w fun e w' => e = .returned (.int .u64 (numAt l a 2)) ∧ ∃ m, w' = w.drewN m := by
  subst hz
  exact (zip_number.calls 9 A0 c0 l a 2 _ w (Kd.C_of_reads hr) hc (number2 l hl a (by omega) (by omega) 9 (by omega))).mono fun _ _ h => ⟨h.1, h.2.out⟩
theorem num4 (A0 : Option Addr) (c0 : Nat) (l : List Int) (z : Int) (a : Nat) (w : World) (hz : z = (a : Int)) (hr : ReadsInt w .u8 A0 l.length l) (hc : l.length ≤ c0) (hl : Bytes l) (hlen : l.length ≤ 140737488355328) (ha : a ≤ 140737488355428) :
    Calls Try.prog 70 #[.slice A0 l.length c0, .int .u64 z, .int .i64 4] w fun e w' => e = .returned (.int .u64 (numAt l a 4)) ∧ ∃ m, w' = w.drewN m := by
  subst hz
  exact (zip_number.calls 9 A0 c0 l a 4 _ w (Kd.C_of_reads hr) hc (number4 l hl a (by omega) (by omega) 9 (by omega))).mono fun _ _ h => ⟨h.1, h.2.out⟩
theorem end_step (l : List Int) (back : Nat) (h1 : 22 ≤ back) (h2 : back ≤ 65557) (h3 : back ≤ l.length) (hn : ¬ (numAt l (l.length - back) 4 = 101010256 ∧ numAt l (l.length - back + 20) 2 = (back : Int) - 22)) : endFrom l (65558 - back) back = endFrom l (65558 - (back + 1)) (back + 1) := by
  rw [show 65558 - back = (65558 - (back + 1)) + 1 by omega, endFrom, if_pos h3, if_neg]
  intro h
  apply hn
  rw [ZipPure.numAt_in _ _ _ (by omega), ZipPure.numAt_in _ _ _ (by omega), h.1, h.2]
  exact ⟨rfl, by omega⟩
theorem end_here (l : List Int) (back : Nat) (h1 : 22 ≤ back) (h2 : back ≤ 65557) (h3 : back ≤ l.length) (hn : numAt l (l.length - back) 4 = 101010256) (hn2 : numAt l (l.length - back + 20) 2 = (back : Int) - 22) : endFrom l (65558 - back) back = some (l.length - back) := by
  rw [show 65558 - back = (65558 - (back + 1)) + 1 by omega, endFrom, if_pos h3, if_pos]
  rw [ZipPure.numAt_in _ _ _ (by omega)] at hn hn2
  exact ⟨hn, by rw [hn2]; omega⟩
theorem end_none (l : List Int) (back : Nat) (h1 : 22 ≤ back) (h : ¬ (back ≤ l.length ∧ back ≤ 65557)) : endFrom l (65558 - back) back = none := by
  by_cases h2 : back ≤ 65557
  · rw [show 65558 - back = (65558 - (back + 1)) + 1 by omega, endFrom, if_neg (by omega)]
  · rw [show 65558 - back = 0 by omega, endFrom]
theorem num2_lt (l : List Int) (hl : Bytes l) (a : Nat) : 0 ≤ numAt l a 2 ∧ numAt l a 2 < 65536 := by
  have := ZipPure.num_lt l hl a 2
  have h2 := ZipPure.num_nonneg l hl a 2
  exact ⟨h2, by omega⟩
theorem num4_lt (l : List Int) (hl : Bytes l) (a : Nat) : 0 ≤ numAt l a 4 ∧ numAt l a 4 < 4294967296 := by
  have := ZipPure.num_lt l hl a 4
  have h2 := ZipPure.num_nonneg l hl a 4
  exact ⟨h2, by omega⟩
theorem store4 {W : World} {g t : Nat} {a0 a1 a2 a3 : Value} (h : W.heap[g]? = some (.cells #[a0, a1, a2, a3] t (0, 0))) (b0 b1 b2 b3 : Value) :
    ((((W.setCell ⟨g, 0, none⟩ b0).setCell ⟨g, 1, none⟩ b1).setCell ⟨g, 2, none⟩ b2).setCell ⟨g, 3, none⟩ b3).heap[g]? = some (.cells #[b0, b1, b2, b3] t (0, 0)) :=
  blk_put (blk_put (blk_put (blk_put h 0 b0 (cs' := #[b0, a1, a2, a3]) rfl) 1 b1 (cs' := #[b0, b1, a2, a3]) rfl) 2 b2 (cs' := #[b0, b1, b2, a3]) rfl) 3 b3 rfl
theorem below4 {w W : World} {g : Nat} (h : Below w.heap.size w W) (hg : w.heap.size ≤ g) (b0 b1 b2 b3 : Value) : Below w.heap.size w ((((W.setCell ⟨g, 0, none⟩ b0).setCell ⟨g, 1, none⟩ b1).setCell ⟨g, 2, none⟩ b2).setCell ⟨g, 3, none⟩ b3) :=
  below_set (below_set (below_set (below_set h hg) hg) hg) hg
/-- What a call of zip.findEnd leaves. -/
def Ended (w : World) (r : Int × Int × Int × Int × Bool) (e : Ending) (w' : World) : Prop :=
  e = .returned (.tuple #[.agg #[.int .u64 r.1, .int .i64 r.2.1, .int .u64 r.2.2.1, .int .u64 r.2.2.2.1], .bool r.2.2.2.2]) ∧ Below w.heap.size w w'

set_option maxRecDepth 100000 in
set_option maxHeartbeats 2000000 in
attribute [local go_sem] max2_int min2_int max_two min_two in
theorem end_in (A0 : Option Addr) (c0 : Nat) (l : List Int) (w : World) (hr : ReadsInt w .u8 A0 l.length l) (hc : l.length ≤ c0) (hl : Bytes l) (hlen : l.length ≤ 140737488355328) :
    Calls Try.prog 69 #[.slice A0 l.length c0] w (Ended w (endRes l)) := by
  obtain ⟨W0, hW0⟩ : ∃ W, W = w.alloc (.cells #[.int .u64 0, .int .i64 0, .int .u64 0, .int .u64 0] 141) := ⟨_, rfl⟩
  have hB0 : Below w.heap.size w W0 := by rw [hW0]; exact below_alloc (Below.refl _ _) _
  have hb0 : W0.heap[w.heap.size]? = some (.cells #[.int .u64 0, .int .i64 0, .int .u64 0, .int .u64 0] 141) := by rw [hW0]; exact blk_new _ _
  have HW := Aside0.mk hW0.symm
  have HB0 := Aside0.mk hB0
  have HK0 := Aside0.mk hb0
  have HR := Aside0.mk (hr.below hB0)
  have HC := Aside0.mk hc
  have HL := Aside0.mk hl
  clear hW0 hB0 hb0 hr hc hl
  have hq0 : W0.cell? ⟨w.heap.size, 0, none⟩ = some (.int .u64 0) := (blk_cell HK0.out 0).trans rfl
  have hq1 : W0.cell? ⟨w.heap.size, 1, none⟩ = some (.int .i64 0) := (blk_cell HK0.out 1).trans rfl
  have hq2 : W0.cell? ⟨w.heap.size, 2, none⟩ = some (.int .u64 0) := (blk_cell HK0.out 2).trans rfl
  have hq3 : W0.cell? ⟨w.heap.size, 3, none⟩ = some (.int .u64 0) := (blk_cell HK0.out 3).trans rfl
  have hf0 : W0.frozen? ⟨w.heap.size, 0, none⟩ = false := blk_frozen HK0.out 0
  have hf1 : W0.frozen? ⟨w.heap.size, 1, none⟩ = false := blk_frozen HK0.out 1
  have hf2 : W0.frozen? ⟨w.heap.size, 2, none⟩ = false := blk_frozen HK0.out 2
  have hf3 : W0.frozen? ⟨w.heap.size, 3, none⟩ = false := blk_frozen HK0.out 3
  have uL : IntKind.u64.wrap (l.length : Int) = (l.length : Int) := Buf.wrap_small _ (by omega) (by omega)
  obtain ⟨R, hR⟩ : ∃ R, R = endRes l := ⟨_, rfl⟩
  rw [← hR]
  have HRS := Aside0.mk hR
  clear hR
  go_enter Try.func69, Try.ntmps69
  go_wp2
  rw [HW.out]
  go_loopw [5] (fun i wr => ∃ (back m : Nat), i = .int .u64 (back : Int) ∧ 22 ≤ back ∧ wr = W0.drewN m ∧ back ≤ 65558 ∧ endFrom l (65558 - back) back = endAt l) (fun i _ => 65558 - (intOf i).toNat)
  case atStart => exact ⟨22, 0, rfl, Nat.le_refl _, rfl, by omega, rfl⟩
  case round =>
    obtain ⟨back, m, rfl, hb22, rfl, hb2, hE⟩ := hrel
    have HE := Aside0.mk hE
    clear hE
    by_cases hcond : back ≤ l.length ∧ back ≤ 65557
    · obtain ⟨hbl, hb3⟩ := hcond
      obtain ⟨a, ha⟩ : ∃ a : Nat, a = l.length - back := ⟨_, rfl⟩
      have hsub : (l.length : Int) - (back : Int) = (a : Int) := by omega
      have HA := Aside0.mk ha
      clear ha
      have hal : a + back = l.length := by have := HA.out; omega
      have ha14 : a ≤ 140737488355328 := by omega
      by_cases h4 : numAt l a 4 = 101010256
      · by_cases h2 : numAt l (a + 20) 2 = (back : Int) - 22
        · have hres : endRes l = ((a : Int), numAt l (a + 10) 2, numAt l (a + 12) 4, numAt l (a + 16) 4, endOk l a) := by
            unfold endRes
            rw [← HE.out, end_here l back hb22 hb3 hbl (by rw [← HA.out]; exact h4) (by rw [← HA.out]; exact h2), ← HA.out]
          have HRES := Aside0.mk (HRS.out.trans hres)
          clear hres
          obtain ⟨n10, h10⟩ : ∃ n, n = numAt l (a + 10) 2 := ⟨_, rfl⟩
          obtain ⟨n12, h12⟩ : ∃ n, n = numAt l (a + 12) 4 := ⟨_, rfl⟩
          obtain ⟨n16, h16⟩ : ∃ n, n = numAt l (a + 16) 4 := ⟨_, rfl⟩
          obtain ⟨n20, h20⟩ : ∃ n, n = numAt l (a + 20) 2 := ⟨_, rfl⟩
          obtain ⟨b10, e10⟩ : 0 ≤ n10 ∧ n10 < 65536 := h10 ▸ num2_lt l HL.out _
          obtain ⟨b12, e12⟩ : 0 ≤ n12 ∧ n12 < 4294967296 := h12 ▸ num4_lt l HL.out _
          obtain ⟨b16, e16⟩ : 0 ≤ n16 ∧ n16 < 4294967296 := h16 ▸ num4_lt l HL.out _
          rw [← h20] at h2
          have H10 := Aside0.mk h10
          have H12 := Aside0.mk h12
          have H16 := Aside0.mk h16
          have H20 := Aside0.mk h20
          have he2 : (n20 != (back : Int) - 22) = false := by simpa using h2
          clear h10 h12 h16 h20 h2
          go_wp2_with (first
            | (go_at_call 70; have HQ := num4 A0 c0 l (a : Int) a (W0.drewN (m)) rfl (HR.out.drewN (m)) HC.out HL.out hlen (by omega); (with_reducible refine HQ.mono ?_); clear HQ; rintro _ _ ⟨rfl, m1, rfl⟩)
            | (go_at_call 70; have HQ := num2 A0 c0 l ((a : Int) + 20) (a + 20) (W0.drewN (m + m1)) rfl (HR.out.drewN (m + m1)) HC.out HL.out hlen (by omega); rw [← H20.out] at HQ; (with_reducible refine HQ.mono ?_); clear HQ; rintro _ _ ⟨rfl, m2, rfl⟩)
            | (go_at_call 70; have HQ := num2 A0 c0 l ((a : Int) + 10) (a + 10) (W0.drewN (m + m1 + m2)) rfl (HR.out.drewN (m + m1 + m2)) HC.out HL.out hlen (by omega); rw [← H10.out] at HQ; (with_reducible refine HQ.mono ?_); clear HQ; rintro _ _ ⟨rfl, m3, rfl⟩)
            | (go_at_call 70; have HQ := num4 A0 c0 l ((a : Int) + 12) (a + 12) (W0.drewN (m + m1 + m2 + m3)) rfl (HR.out.drewN (m + m1 + m2 + m3)) HC.out HL.out hlen (by omega); rw [← H12.out] at HQ; (with_reducible refine HQ.mono ?_); clear HQ; rintro _ _ ⟨rfl, m4, rfl⟩)
            | (go_at_call 70; have HQ := num4 A0 c0 l ((a : Int) + 16) (a + 16) (W0.drewN (m + m1 + m2 + m3 + m4)) rfl (HR.out.drewN (m + m1 + m2 + m3 + m4)) HC.out HL.out hlen (by omega); rw [← H16.out] at HQ; (with_reducible refine HQ.mono ?_); clear HQ; rintro _ _ ⟨rfl, m5, rfl⟩; obtain ⟨W1, hW1⟩ : ∃ W, W = W0.drewN (m + m1 + m2 + m3 + m4 + m5) := ⟨_, rfl⟩; (try rw [World.drewN_drewN]); rw [← hW1]; have HB1 := Aside0.mk (show Below w.heap.size w W1 from hW1 ▸ pw_below_drewN HB0.out _); have HK1 := Aside0.mk (show W1.heap[w.heap.size]? = some (.cells #[.int .u64 0, .int .i64 0, .int .u64 0, .int .u64 0] 141) from hW1 ▸ blk_drewN HK0.out _); have HR1 := Aside0.mk (show ReadsInt W1 .u8 A0 l.length l from hW1 ▸ HR.out.drewN _); clear hW1; have hq10 : W1.cell? ⟨w.heap.size, 0, none⟩ = some (.int .u64 0) := (blk_cell HK1.out 0).trans rfl; have hq11 : W1.cell? ⟨w.heap.size, 1, none⟩ = some (.int .i64 0) := (blk_cell HK1.out 1).trans rfl; have hq12 : W1.cell? ⟨w.heap.size, 2, none⟩ = some (.int .u64 0) := (blk_cell HK1.out 2).trans rfl; have hq13 : W1.cell? ⟨w.heap.size, 3, none⟩ = some (.int .u64 0) := (blk_cell HK1.out 3).trans rfl; have hf10 : W1.frozen? ⟨w.heap.size, 0, none⟩ = false := blk_frozen HK1.out 0; have hf11 : W1.frozen? ⟨w.heap.size, 1, none⟩ = false := blk_frozen HK1.out 1; have hf12 : W1.frozen? ⟨w.heap.size, 2, none⟩ = false := blk_frozen HK1.out 2; have hf13 : W1.frozen? ⟨w.heap.size, 3, none⟩ = false := blk_frozen HK1.out 3))
          all_goals
            obtain ⟨g, hg⟩ : ∃ g, g = W1.heap.size := ⟨_, rfl⟩
            obtain ⟨W2, hW2⟩ : ∃ W, W = W1.alloc (.cells #[.int .u64 (a : Int), .int .i64 n10, .int .u64 n12, .int .u64 n16] 141) := ⟨_, rfl⟩
            rw [← hg, ← hW2]
            have HB2 := Aside0.mk (show Below w.heap.size w W2 from hW2 ▸ below_then HB1.out HB1.out.size (below_alloc (Below.refl _ _) _))
            have HK2 := Aside0.mk (show W2.heap[w.heap.size]? = some (.cells #[.int .u64 0, .int .i64 0, .int .u64 0, .int .u64 0] 141) from hW2 ▸ blk_alloc HK1.out _)
            have HG2 := Aside0.mk (show W2.heap[g]? = some (.cells #[.int .u64 (a : Int), .int .i64 n10, .int .u64 n12, .int .u64 n16] 141) from hW2 ▸ hg ▸ blk_new _ _)
            have HR2 := Aside0.mk (show ReadsInt W2 .u8 A0 l.length l from hW2 ▸ HR1.out.below (below_alloc (Below.refl _ _) _))
            have hgne : w.heap.size ≠ g := by have := blk_lt HK1.out; omega
            have hgne2 : g ≠ w.heap.size := hgne.symm
            clear hW2 hg hq10 hq11 hq12 hq13 hf10 hf11 hf12 hf13 hq0 hq1 hq2 hq3 hf0 hf1 hf2 hf3
            have hq20 : W2.cell? ⟨w.heap.size, 0, none⟩ = some (.int .u64 0) := (blk_cell HK2.out 0).trans rfl
            have hq21 : W2.cell? ⟨w.heap.size, 1, none⟩ = some (.int .i64 0) := (blk_cell HK2.out 1).trans rfl
            have hq22 : W2.cell? ⟨w.heap.size, 2, none⟩ = some (.int .u64 0) := (blk_cell HK2.out 2).trans rfl
            have hq23 : W2.cell? ⟨w.heap.size, 3, none⟩ = some (.int .u64 0) := (blk_cell HK2.out 3).trans rfl
            have hf20 : W2.frozen? ⟨w.heap.size, 0, none⟩ = false := blk_frozen HK2.out 0
            have hf21 : W2.frozen? ⟨w.heap.size, 1, none⟩ = false := blk_frozen HK2.out 1
            have hf22 : W2.frozen? ⟨w.heap.size, 2, none⟩ = false := blk_frozen HK2.out 2
            have hf23 : W2.frozen? ⟨w.heap.size, 3, none⟩ = false := blk_frozen HK2.out 3
            have hg20 : W2.cell? ⟨g, 0, none⟩ = some (.int .u64 (a : Int)) := (blk_cell HG2.out 0).trans rfl
            have hg21 : W2.cell? ⟨g, 1, none⟩ = some (.int .i64 n10) := (blk_cell HG2.out 1).trans rfl
            have hg22 : W2.cell? ⟨g, 2, none⟩ = some (.int .u64 n12) := (blk_cell HG2.out 2).trans rfl
            have hg23 : W2.cell? ⟨g, 3, none⟩ = some (.int .u64 n16) := (blk_cell HG2.out 3).trans rfl
            obtain ⟨x4, hx4⟩ : ∃ n, n = numAt l (a + 4) 2 := ⟨_, rfl⟩
            obtain ⟨x6, hx6⟩ : ∃ n, n = numAt l (a + 6) 2 := ⟨_, rfl⟩
            obtain ⟨x8, hx8⟩ : ∃ n, n = numAt l (a + 8) 2 := ⟨_, rfl⟩
            have K4 := Aside0.mk (fun n : Nat => Calls.quiet_of (w := W2) (n := n) (by have HQ := num2 A0 c0 l ((a : Int) + 4) (a + 4) (W2.drewN n) rfl (HR2.out.drewN n) HC.out HL.out hlen (by omega); rw [← hx4] at HQ; exact HQ))
            have K6 := Aside0.mk (fun n : Nat => Calls.quiet_of (w := W2) (n := n) (by have HQ := num2 A0 c0 l ((a : Int) + 6) (a + 6) (W2.drewN n) rfl (HR2.out.drewN n) HC.out HL.out hlen (by omega); rw [← hx6] at HQ; exact HQ))
            have K8 := Aside0.mk (fun n : Nat => Calls.quiet_of (w := W2) (n := n) (by have HQ := num2 A0 c0 l ((a : Int) + 8) (a + 8) (W2.drewN n) rfl (HR2.out.drewN n) HC.out HL.out hlen (by omega); rw [← hx8] at HQ; exact HQ))
            have K73 := Aside0.mk (fun W : World => (num_Inside.calls n16 n12 0 (a : Int) _ W (inside_at n16 n12 (a : Int) b16 (by omega) b12 (by omega) (by omega))).mono (fun e w' h => (⟨h.1, h.2.out⟩ : e = .returned (.bool (decide (n16 + n12 ≤ (a : Int)))) ∧ ∃ m, w' = W.drewN m)))
            have hok : endOk l a = ((x4 == 0) && ((x6 == 0) && ((x8 == n10) && decide (n16 + n12 ≤ (a : Int))))) := by
              unfold endOk
              rw [← hx4, ← hx6, ← hx8, ← H10.out, ← H12.out, ← H16.out]
            have HOK := Aside0.mk hok
            clear hx4 hx6 hx8 hok
            by_cases h4z : x4 = 0
            · subst h4z
              by_cases h6z : x6 = 0
              · subst h6z
                by_cases h8z : x8 = n10
                · have h8f : (x8 == n10) = true := by simpa using h8z
                  clear h8z
                  go_quiet ((first | (go_at_call 70; (with_reducible exact K4.out _)) | (go_at_call 70; (with_reducible exact K6.out _)) | (go_at_call 70; (with_reducible exact K8.out _))))
                  have hR2 : R = ((a : Int), n10, n12, n16, decide (n16 + n12 ≤ (a : Int))) := by
                    rw [HRES.out, HOK.out, ← H10.out, ← H12.out, ← H16.out, h8f]
                    try simp
                  have HR3 := Aside0.mk hR2
                  clear hR2
                  go_wp2
                  go_region_held3 (fun w' => w'.cell? ⟨g, 0, none⟩ = some (.int .u64 (a : Int)) ∧ w'.cell? ⟨g, 1, none⟩ = some (.int .i64 n10) ∧ w'.cell? ⟨g, 2, none⟩ = some (.int .u64 n12) ∧ w'.cell? ⟨g, 3, none⟩ = some (.int .u64 n16)) (go_keep) (first | (go_at_call 73; refine (K73.out _).mono ?_; rintro _ _ ⟨rfl, m9, rfl⟩))
                  all_goals
                    go_wp2
                    refine bodyPost_ret (results_ct rfl _ _ w.heap.size 141 #[.int .u64 (a : Int), .int .i64 n10, .int .u64 n12, .int .u64 n16] (0, 0) _ rfl (by (with_reducible repeat (first | refine blk_drewN ?_ _ | refine blk_drew ?_)); first | exact store4 HK2.out _ _ _ _ | exact store4 (blk_drewN HK2.out _) _ _ _ _ | exact store4 (blk_drew (blk_drewN HK2.out _)) _ _ _ _) Try.underlying141 rfl (by kernel_rfl)) rfl ?_
                    rw [HR3.out]
                    refine ⟨rfl, ?_⟩
                    (with_reducible repeat (first | apply pw_below_drewN | apply below_drew1))
                    first | exact below4 HB2.out (Nat.le_refl _) _ _ _ _ | exact below4 (pw_below_drewN HB2.out _) (Nat.le_refl _) _ _ _ _ | exact below4 (below_drew1 (pw_below_drewN HB2.out _)) (Nat.le_refl _) _ _ _ _
                · have h8f : (x8 == n10) = false := by simpa using h8z
                  clear h8z
                  go_quiet ((first | (go_at_call 70; (with_reducible exact K4.out _)) | (go_at_call 70; (with_reducible exact K6.out _)) | (go_at_call 70; (with_reducible exact K8.out _))))
                  have hR2 : R = ((a : Int), n10, n12, n16, false) := by
                    rw [HRES.out, HOK.out, ← H10.out, ← H12.out, ← H16.out, h8f]
                    try simp
                  have HR3 := Aside0.mk hR2
                  clear hR2
                  go_wp2
                  go_region
                  all_goals
                    go_wp2
                    refine bodyPost_ret (results_ct rfl _ _ w.heap.size 141 #[.int .u64 (a : Int), .int .i64 n10, .int .u64 n12, .int .u64 n16] (0, 0) _ rfl (by (with_reducible repeat (first | refine blk_drewN ?_ _ | refine blk_drew ?_)); first | exact store4 HK2.out _ _ _ _ | exact store4 (blk_drewN HK2.out _) _ _ _ _ | exact store4 (blk_drew (blk_drewN HK2.out _)) _ _ _ _) Try.underlying141 rfl (by kernel_rfl)) rfl ?_
                    rw [HR3.out]
                    refine ⟨rfl, ?_⟩
                    (with_reducible repeat (first | apply pw_below_drewN | apply below_drew1))
                    first | exact below4 HB2.out (Nat.le_refl _) _ _ _ _ | exact below4 (pw_below_drewN HB2.out _) (Nat.le_refl _) _ _ _ _ | exact below4 (below_drew1 (pw_below_drewN HB2.out _)) (Nat.le_refl _) _ _ _ _
              · have h6f : (x6 == 0) = false := by simpa using h6z
                clear h6z
                go_quiet ((first | (go_at_call 70; (with_reducible exact K4.out _)) | (go_at_call 70; (with_reducible exact K6.out _))))
                have hR2 : R = ((a : Int), n10, n12, n16, false) := by
                  rw [HRES.out, HOK.out, ← H10.out, ← H12.out, ← H16.out, h6f]
                  try simp
                have HR3 := Aside0.mk hR2
                clear hR2
                go_wp2
                go_region
                all_goals
                  go_wp2
                  refine bodyPost_ret (results_ct rfl _ _ w.heap.size 141 #[.int .u64 (a : Int), .int .i64 n10, .int .u64 n12, .int .u64 n16] (0, 0) _ rfl (by (with_reducible repeat (first | refine blk_drewN ?_ _ | refine blk_drew ?_)); first | exact store4 HK2.out _ _ _ _ | exact store4 (blk_drewN HK2.out _) _ _ _ _ | exact store4 (blk_drew (blk_drewN HK2.out _)) _ _ _ _) Try.underlying141 rfl (by kernel_rfl)) rfl ?_
                  rw [HR3.out]
                  refine ⟨rfl, ?_⟩
                  (with_reducible repeat (first | apply pw_below_drewN | apply below_drew1))
                  first | exact below4 HB2.out (Nat.le_refl _) _ _ _ _ | exact below4 (pw_below_drewN HB2.out _) (Nat.le_refl _) _ _ _ _ | exact below4 (below_drew1 (pw_below_drewN HB2.out _)) (Nat.le_refl _) _ _ _ _
            · have h4f : (x4 == 0) = false := by simpa using h4z
              clear h4z
              go_quiet ((go_at_call 70; (with_reducible exact K4.out _)))
              have hR2 : R = ((a : Int), n10, n12, n16, false) := by
                rw [HRES.out, HOK.out, ← H10.out, ← H12.out, ← H16.out, h4f]
                try simp
              have HR3 := Aside0.mk hR2
              clear hR2
              go_wp2
              go_region
              all_goals
                go_wp2
                refine bodyPost_ret (results_ct rfl _ _ w.heap.size 141 #[.int .u64 (a : Int), .int .i64 n10, .int .u64 n12, .int .u64 n16] (0, 0) _ rfl (by (with_reducible repeat (first | refine blk_drewN ?_ _ | refine blk_drew ?_)); first | exact store4 HK2.out _ _ _ _ | exact store4 (blk_drewN HK2.out _) _ _ _ _ | exact store4 (blk_drew (blk_drewN HK2.out _)) _ _ _ _) Try.underlying141 rfl (by kernel_rfl)) rfl ?_
                rw [HR3.out]
                refine ⟨rfl, ?_⟩
                (with_reducible repeat (first | apply pw_below_drewN | apply below_drew1))
                first | exact below4 HB2.out (Nat.le_refl _) _ _ _ _ | exact below4 (pw_below_drewN HB2.out _) (Nat.le_refl _) _ _ _ _ | exact below4 (below_drew1 (pw_below_drewN HB2.out _)) (Nat.le_refl _) _ _ _ _
        · have HN := Aside0.mk (fun (hc : numAt l a 4 = 101010256 ∧ numAt l (a + 20) 2 = (back : Int) - 22) => h2 hc.2)
          obtain ⟨n2, hn2⟩ : ∃ n, n = numAt l (a + 20) 2 := ⟨_, rfl⟩
          rw [← hn2] at h2
          have HN2 := Aside0.mk hn2
          have hne : (n2 != (back : Int) - 22) = true := by simpa using h2
          clear h2 hn2 h4
          go_wp2_with (first
            | (go_at_call 70; have HQ := num4 A0 c0 l (a : Int) a (W0.drewN m) rfl (HR.out.drewN m) HC.out HL.out hlen (by omega); (with_reducible refine HQ.mono ?_); clear HQ; rintro _ _ ⟨rfl, m1, rfl⟩)
            | (go_at_call 70; have HQ := num2 A0 c0 l ((a : Int) + 20) (a + 20) (W0.drewN (m + m1)) rfl (HR.out.drewN (m + m1)) HC.out HL.out hlen (by omega); rw [← HN2.out] at HQ; (with_reducible refine HQ.mono ?_); clear HQ; rintro _ _ ⟨rfl, m2, rfl⟩))
          all_goals
            go_roundw
            case rel => first | exact ⟨back + 1, m + m1 + m2, by go_num, by omega, rfl, by omega, by rw [← HE.out, end_step l back hb22 hb3 hbl (by rw [← HA.out]; exact HN.out)]⟩ | exact ⟨back + 1, m + m1, by go_num, by omega, rfl, by omega, by rw [← HE.out, end_step l back hb22 hb3 hbl (by rw [← HA.out]; exact HN.out)]⟩
            case measure => simp [intOf]; omega
      · have hne : (numAt l a 4 != 101010256) = true := by simpa using h4
        have HN := Aside0.mk (fun (hc : numAt l a 4 = 101010256 ∧ numAt l (a + 20) 2 = (back : Int) - 22) => h4 hc.1)
        clear h4
        go_wp2_with (go_at_call 70; have HQ := num4 A0 c0 l (a : Int) a (W0.drewN m) rfl (HR.out.drewN m) HC.out HL.out hlen (by omega); (with_reducible refine HQ.mono ?_); clear HQ; rintro _ _ ⟨rfl, m1, rfl⟩)
        go_roundw
        case rel => exact ⟨back + 1, m + m1, by go_num, by omega, rfl, by omega, by rw [← HE.out, end_step l back hb22 hb3 hbl (by rw [← HA.out]; exact HN.out)]⟩
        case measure => simp [intOf]; omega
    · have hres : endRes l = (0, 0, 0, 0, false) := by
        unfold endRes
        rw [← HE.out, end_none l back hb22 hcond]
      have HRES := Aside0.mk (HRS.out.trans hres)
      clear hres
      have hno : ¬ (back : Int) ≤ mn (l.length : Int) 65557 := by unfold mn; split <;> omega
      go_wp2
      all_goals
        refine bodyPost_ret (results_ct rfl _ _ w.heap.size 141 #[.int .u64 0, .int .i64 0, .int .u64 0, .int .u64 0] (0, 0) _ rfl (store4 (blk_drewN HK0.out m) _ _ _ _) Try.underlying141 rfl (by kernel_rfl)) rfl ?_
        rw [HRES.out]
        exact ⟨rfl, below4 (pw_below_drewN HB0.out m) (Nat.le_refl _) _ _ _ _⟩
end Go.Proofs.Ytmpahimeljbliaa.ZipEnd
