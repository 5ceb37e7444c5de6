/- The calls that came in, opened: a slice of calls, one call, a slice of numbers. No condition beyond those that stand in each lemma. -/
import Derived.Test.YtmpahimeljbliaaOpens
import Derived.Test.YtmpahimeljbliaaVmFine
import Derived.SizedLaws
namespace Go.Proofs.Ytmpahimeljbliaa.Vm
open Go.RowKit Go.Proofs Go.ChangeShapes Go.WideShapes Go.Deep Go.Proofs.YtmpahimeljbliaaW.PrintWords Go.Proofs.Ytmpahimeljbliaa.Opens

abbrev OT := Int × Int × Int × Int × Int × Int × List Int
def kO : Kd OT := Kd.iso (Kd.pair (Kd.int .i64) (Kd.pair (Kd.int .i64) (Kd.pair (Kd.int .u64) (Kd.pair (Kd.int .u64) (Kd.pair (Kd.int .i64) (Kd.pair (Kd.int .u64) (Kd.slice 5 (Kd.int .u8)))))))) id
def qO (x : OT) : Prop := (Lit.int .i64 x.1).wf = true ∧ (Lit.int .i64 x.2.1).wf = true ∧ (Lit.int .u64 x.2.2.1).wf = true ∧ (Lit.int .u64 x.2.2.2.1).wf = true ∧ (Lit.int .i64 x.2.2.2.2.1).wf = true ∧ (Lit.int .u64 x.2.2.2.2.2.1).wf = true ∧ ∀ b ∈ x.2.2.2.2.2.2, (Lit.int .u8 b).wf = true
theorem o3 : Opens Try.prog (Kd.int .i64) (fun n => (Lit.int .i64 n).wf = true) 3 := opens_int Try.underlying3 (by kernel_rfl)
theorem o5 : Opens Try.prog (Kd.int .u8) (fun n => (Lit.int .u8 n).wf = true) 5 := opens_int Try.underlying5 (by kernel_rfl)
theorem o28 : Opens Try.prog (Kd.int .u64) (fun n => (Lit.int .u64 n).wf = true) 28 := opens_int Try.underlying28 (by kernel_rfl)
theorem o22 : Opens Try.prog (Kd.slice 5 (Kd.int .u8)) (fun xs => ∀ x ∈ xs, (Lit.int .u8 x).wf = true) 22 := opens_slice Try.underlying22 (by kernel_rfl) o5
set_option maxRecDepth 100000 in
theorem o60 : Opens Try.prog kO qO 60 := by
  have h := opens_struct (β := OT) (f := id) (g := id) Try.underlying60 (by kernel_rfl) (fun _ => rfl) (opensF_cons rfl rfl o3 (opensF_cons rfl rfl o3 (opensF_cons rfl rfl o28 (opensF_cons rfl rfl o28 (opensF_cons rfl rfl o3 (opensF_cons rfl rfl o28 (opensF_one rfl o22)))))))
  exact h
theorem o52 : Opens Try.prog (Kd.slice 60 kO) (fun xs => ∀ x ∈ xs, qO x) 52 := opens_slice Try.underlying52 (by kernel_rfl) o60
theorem o53 : Opens Try.prog (Kd.slice 28 (Kd.int .u64)) (fun xs => ∀ x ∈ xs, (Lit.int .u64 x).wf = true) 53 := opens_slice Try.underlying53 (by kernel_rfl) o28
def opn (x : OT) : Opn := ⟨x.1, x.2.1, x.2.2.1.toNat, x.2.2.2.1.toNat, x.2.2.2.2.1, x.2.2.2.2.2.1.toNat, x.2.2.2.2.2.2⟩
theorem wf_i64 {n : Int} (h : (Lit.int .i64 n).wf = true) : -9223372036854775808 ≤ n ∧ n ≤ 9223372036854775807 := by
  have h2 : IntKind.i64.min = -9223372036854775808 := by decide
  have h3 : IntKind.i64.max = 9223372036854775807 := by decide
  simp [Lit.wf, h2, h3] at h
  omega
theorem wf_u64 {n : Int} (h : (Lit.int .u64 n).wf = true) : 0 ≤ n ∧ n ≤ 18446744073709551615 := by
  have h2 : IntKind.u64.min = 0 := by decide
  have h3 : IntKind.u64.max = 18446744073709551615 := by decide
  simp [Lit.wf, h2, h3] at h
  omega
theorem wf_u8 {n : Int} (h : (Lit.int .u8 n).wf = true) : 0 ≤ n ∧ n ≤ 255 := by
  have h2 : IntKind.u8.min = 0 := by decide
  have h3 : IntKind.u8.max = 255 := by decide
  simp [Lit.wf, h2, h3] at h
  omega
theorem qO.fine {x : OT} (h : qO x) : (opn x).Fine := by
  obtain ⟨h0, h1, h2, h3, h4, h5, h6⟩ := h
  exact ⟨(wf_i64 h0).1, (wf_i64 h0).2, (wf_i64 h1).1, (wf_i64 h1).2, by have := wf_u64 h2; show x.2.2.1.toNat ≤ _; omega, by have := wf_u64 h3; show x.2.2.2.1.toNat ≤ _; omega, (wf_i64 h4).1, (wf_i64 h4).2, by have := wf_u64 h5; show x.2.2.2.2.2.1.toNat ≤ _; omega, fun b hb => wf_u8 (h6 b hb)⟩
theorem reads_u8 {w : World} {A : Option Addr} {n : Nat} {k : IntKind} {xs : List Int} (h : (Kd.int k).C w A n xs) : ReadsInt w k A n xs := by
  refine ⟨h.1, h.2.1, fun hn => ?_⟩
  obtain ⟨ad, e, -⟩ := Kd.at_int h 0 (by omega) (by omega)
  refine ⟨ad, e, fun j hj => ?_⟩
  obtain ⟨ad', e', hc⟩ := Kd.at_int h (j : Int) (by omega) (by omega)
  rw [e] at e'
  obtain rfl := Option.some.inj e'
  exact hc
theorem kO_open {w : World} {x : OT} {cs : List Value} (h : kO.K w x cs) (hq : qO x) : ∃ A6 c6, cs = (cellsO (opn x) A6 c6).toList ∧ (opn x).data.length ≤ c6 ∧ ReadsInt w .u8 A6 (opn x).data.length (opn x).data := by
  obtain ⟨a0, b0, rfl, rfl, a1, b1, rfl, rfl, a2, b2, rfl, rfl, a3, b3, rfl, rfl, a4, b4, rfl, rfl, a5, b5, rfl, rfl, A6, c6, rfl, hl, hC⟩ := h
  obtain ⟨h0, h1, h2, h3, h4, h5, h6⟩ := hq
  refine ⟨A6, c6, ?_, hl, reads_u8 hC⟩
  have e2 := Int.toNat_of_nonneg (wf_u64 h2).1
  have e3 := Int.toNat_of_nonneg (wf_u64 h3).1
  have e5 := Int.toNat_of_nonneg (wf_u64 h5).1
  simp only [cellsO, opn, e2, e3, e5]
  rfl
theorem ops_of {w : World} {A : Option Addr} {xs : List OT} (h : kO.C w A xs.length xs) (hq : ∀ x ∈ xs, qO x) : Ops w A (xs.map opn) := by
  intro i p hp
  rw [List.getElem?_map] at hp
  obtain ⟨x, hx, rfl⟩ := Option.map_eq_some_iff.1 hp
  have hi := (List.getElem?_eq_some_iff.1 hx).1
  obtain ⟨ad, e, hc⟩ := h.2.2 (by omega)
  obtain ⟨c, hlen, hK, hcell⟩ := hc i x hx
  obtain ⟨A6, c6, rfl, hl, hR⟩ := kO_open hK (hq x (List.mem_of_getElem? hx))
  refine ⟨ad, A6, c6, e, ?_, ?_, ?_, ?_, ?_, ?_, ?_, hl, hR⟩
  · exact hcell 0 _ rfl
  · rw [← add_field _ _ 1 (by omega)]; exact hcell 1 _ rfl
  · rw [← add_field _ _ 2 (by omega)]; exact hcell 2 _ rfl
  · rw [← add_field _ _ 3 (by omega)]; exact hcell 3 _ rfl
  · rw [← add_field _ _ 4 (by omega)]; exact hcell 4 _ rfl
  · rw [← add_field _ _ 5 (by omega)]; exact hcell 5 _ rfl
  · rw [← add_field _ _ 6 (by omega)]; exact hcell 6 _ rfl
set_option maxRecDepth 100000 in
theorem open_ops {H : Type} {enc : TypeId × Value → H} {W : World} {r : Reach} {b0 base : Nat} {spare : Nat → Bool} {held : Bool} {v : Value} {d : DataW H} {p : List MemPlace}
    (hv : Value.okWide Try.prog W r b0 52 v) (h : DataW.Trod enc Try.prog W base spare held 52 v d p) :
    ∃ (A : Option Addr) (c : Nat) (l : List Opn), v = .slice A l.length c ∧ Ops W A l ∧ ∀ p ∈ l, p.Fine := by
  obtain ⟨a0, len0, cap0, rfl⟩ := okWide_slice Try.underlying52 hv
  obtain ⟨l, ⟨A, c, e1, hc, hC⟩, hq⟩ := opens_arg o52 h
  simp [Value.cells] at e1
  obtain ⟨rfl, rfl, rfl⟩ := e1
  refine ⟨_, _, l.map opn, by rw [List.length_map], ops_of hC hq, fun p hp => ?_⟩
  obtain ⟨x, hx, rfl⟩ := List.mem_map.1 hp
  exact (hq x hx).fine
set_option maxRecDepth 100000 in
theorem open_nums {H : Type} {enc : TypeId × Value → H} {W : World} {r : Reach} {b0 base : Nat} {spare : Nat → Bool} {held : Bool} {v : Value} {d : DataW H} {p : List MemPlace}
    (hv : Value.okWide Try.prog W r b0 53 v) (h : DataW.Trod enc Try.prog W base spare held 53 v d p) :
    ∃ (A : Option Addr) (c : Nat) (l : List Nat), v = .slice A l.length c ∧ l.length ≤ c ∧ ReadsInt W .u64 A l.length (natsI l) ∧ ∀ n ∈ l, n ≤ 18446744073709551615 := by
  obtain ⟨a0, len0, cap0, rfl⟩ := okWide_slice Try.underlying53 hv
  obtain ⟨l, ⟨A, c, e1, hc, hC⟩, hq⟩ := opens_arg o53 h
  simp [Value.cells] at e1
  obtain ⟨rfl, rfl, rfl⟩ := e1
  have hm : natsI (l.map Int.toNat) = l := by
    unfold natsI
    rw [List.map_map]
    refine (List.map_congr_left fun x hx => ?_).trans (List.map_id _)
    have := (wf_u64 (hq x hx)).1
    show ((x.toNat : Nat) : Int) = x
    omega
  refine ⟨_, _, l.map Int.toNat, by rw [List.length_map], by rw [List.length_map]; exact hc, by rw [List.length_map, hm]; exact reads_u8 hC, fun n hn => ?_⟩
  obtain ⟨x, hx, rfl⟩ := List.mem_map.1 hn
  have := wf_u64 (hq x hx)
  omega
set_option maxRecDepth 100000 in
theorem open_op {H : Type} {enc : TypeId × Value → H} {W : World} {r : Reach} {b0 base : Nat} {spare : Nat → Bool} {held : Bool} {v : Value} {d : DataW H} {p : List MemPlace}
    (hv : Value.okWide Try.prog W r b0 60 v) (h : DataW.Trod enc Try.prog W base spare held 60 v d p) :
    ∃ (A6 : Option Addr) (c6 : Nat) (o : Opn), v = .agg (cellsO o A6 c6) ∧ o.data.length ≤ c6 ∧ ReadsInt W .u8 A6 o.data.length o.data ∧ o.Fine := by
  obtain ⟨cs, rfl, _⟩ := okWide_struct Try.underlying60 hv
  obtain ⟨x, hk, hq⟩ := opens_arg o60 h
  obtain ⟨A6, c6, e1, hl, hR⟩ := kO_open hk hq
  obtain rfl : cs = _ := Array.toList_inj.1 e1
  exact ⟨A6, c6, opn x, rfl, hl, hR, hq.fine⟩
end Go.Proofs.Ytmpahimeljbliaa.Vm
