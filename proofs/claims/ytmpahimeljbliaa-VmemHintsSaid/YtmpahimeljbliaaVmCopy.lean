/- Steps of a walk: cuts of an array and of bytes, bytes copied into a block. No condition beyond those of each lemma. -/
import Derived.Test.YtmpahimeljbliaaVmProt
import Derived.Laws.CopyOwn
namespace Go.Proofs.Ytmpahimeljbliaa.Vm
open Go.RowKit Go.Proofs Go.Proofs.YtmpahimeljbliaaW.PrintWords

theorem info5 : (Try.prog.info? 5).map (fun i => (i.zero, i.size, i.bytes)) = some (some (.int .u8 0), 1, 1) := by kernel_rfl
theorem len88 : Try.prog.arrayLen 88 = 256 := by kernel_rfl
theorem elem88 : Try.prog.elem 88 = 5 := by kernel_rfl
theorem arr_l (b f : Nat) (hf : f < 256) : ∀ W : World, (Instr.sliceAt 88 (.pointer (some ⟨b, 2, none⟩)) (some (.int .u64 f)) none none).run Try.prog W = .ok (.slice (some ⟨b, 2 + f, none⟩) (256 - f) (256 - f)) W := by
  obtain ⟨i, hi0, _, hsz, _⟩ := info_parts info5
  intro W
  have hu : Try.prog.underlying 88 = some (.array (Try.prog.arrayLen 88) (Try.prog.elem 88)) := by rw [len88, elem88]; exact Try.underlying88
  rw [run_sliceAt_array_l W 88 ⟨b, 2, none⟩ hu .u64 (f : Int) (by omega) (by rw [len88]; omega), elem88, len88]
  simp [sizeOf, typeInfo, hi0, hsz, slicedAt, Result.andThen, add_at]
  omega
theorem arr_lh (b f t : Nat) (hf : f < 256) (h1 : f ≤ t) (h2 : t ≤ 256) : ∀ W : World, (Instr.sliceAt 88 (.pointer (some ⟨b, 2, none⟩)) (some (.int .u64 f)) (some (.int .u64 t)) none).run Try.prog W = .ok (.slice (some ⟨b, 2 + f, none⟩) (t - f) (256 - f)) W := by
  obtain ⟨i, hi0, _, hsz, _⟩ := info_parts info5
  intro W
  have hu : Try.prog.underlying 88 = some (.array (Try.prog.arrayLen 88) (Try.prog.elem 88)) := by rw [len88, elem88]; exact Try.underlying88
  rw [run_sliceAt_array_lh W 88 ⟨b, 2, none⟩ hu .u64 .u64 (f : Int) (t : Int) (by omega) (by omega) (by rw [len88]; omega), elem88, len88]
  simp [sizeOf, typeInfo, hi0, hsz, slicedAt, Result.andThen, add_at]
  omega
theorem arr_all (b : Nat) : ∀ W : World, (Instr.sliceAt 88 (.pointer (some ⟨b, 2, none⟩)) none none none).run Try.prog W = .ok (.slice (some ⟨b, 2, none⟩) 256 256) W := by
  obtain ⟨i, hi0, _, hsz, _⟩ := info_parts info5
  intro W
  have hu : Try.prog.underlying 88 = some (.array (Try.prog.arrayLen 88) (Try.prog.elem 88)) := by rw [len88, elem88]; exact Try.underlying88
  rw [run_sliceAt_array_all W 88 ⟨b, 2, none⟩ hu, elem88, len88]
  simp [sizeOf, typeInfo, hi0, hsz, slicedAt, Result.andThen, add_at]
/-- Bytes that are read, in a block that nobody of own's has. -/
structure Src (w : World) (own : Nat → Option Role) (A : Option Addr) (c : Nat) (xs : List Int) : Prop where
  rd : ReadsInt w .u8 A xs.length xs
  le : xs.length ≤ c
  no : 0 < xs.length → ∀ ad, A = some ad → own ad.block = none ∧ ad.block < w.heap.size
theorem Src.move {w w' : World} {own : Nat → Option Role} {A : Option Addr} {c : Nat} {xs : List Int} (h : Src w own A c xs) (hs : w.heap.size ≤ w'.heap.size) (hk : ∀ k, k < w.heap.size → own k = none → w'.heap[k]? = w.heap[k]?) : Src w' own A c xs :=
  ⟨⟨h.rd.1, h.rd.2.1, fun hn => by
    obtain ⟨ad, e, hc⟩ := h.rd.2.2 hn
    obtain ⟨n1, n2⟩ := h.no hn ad e
    refine ⟨ad, e, fun j hj => ?_⟩
    have hb : (ad.add j).block = ad.block := by unfold Addr.add; split <;> rfl
    have := hc j hj
    unfold World.cell? at this ⊢
    rw [hb] at this ⊢
    rw [hk ad.block n2 n1]
    exact this⟩, h.le, fun hl ad e => ⟨(h.no hl ad e).1, Nat.lt_of_lt_of_le (h.no hl ad e).2 hs⟩⟩
/-- xs[m:]. -/
theorem Src.cut {w : World} {own : Nat → Option Role} {A : Option Addr} {c : Nat} {xs : List Int} (h : Src w own A c xs) (m : Nat) (hm : m ≤ xs.length) :
    ∃ A', (∀ W : World, (Instr.slice 22 (.slice A xs.length c) (some (.int .i64 m)) none none).run Try.prog W = .ok (.slice A' (xs.drop m).length (c - m)) W) ∧ Src w own A' (c - m) (xs.drop m) := by
  obtain ⟨i, hi0, _, hsz, _⟩ := info_parts info5
  have hrun := cut_from (P := Try.prog) 22 5 .i64 Try.underlying22 hi0 1 hsz A xs.length c (m : Int) (by omega) (by omega)
  have hrd := h.rd.drop_ (c := c) m hm h.le
  refine ⟨if c = m then A else A.map (·.add m), fun W => ?_, ⟨by rw [List.length_drop]; exact hrd, by rw [List.length_drop]; have := h.le; omega, fun hl ad e => ?_⟩⟩
  · have := hrun W
    simpa using this
  · have hl0 : 0 < xs.length := by rw [List.length_drop] at hl; omega
    split at e
    · exact h.no hl0 ad e
    · obtain ⟨ad0, e0, rfl⟩ := Option.map_eq_some_iff.1 e
      have hb : (ad0.add m).block = ad0.block := by unfold Addr.add; split <;> rfl
      rw [hb]
      exact h.no hl0 ad0 e0
/-- copy(block[off:], xs). -/
theorem copy_blk {w : World} {ops : Array Oper} {rest : List Oper} {o : Oper} {a : Act} {Q : Exit → Act → World → Prop} (hgd : o.guard = none) (d s : Operand)
    (ho : o.op = .call { callee := .builtin .copy, args := #[d, s], argTypes := #[22, 22] }) (g off dLen dCap : Nat) (A : Option Addr) (c : Nat) (own : Nat → Option Role) (xs : List Int)
    (hd : a.eval d = .slice (some ⟨g, off, none⟩) dLen dCap) (hs : a.eval s = .slice A xs.length c) (cur : List Value) (t : TypeId) (hg : Blk w g cur.toArray t) (hr : Src w own A c xs) (hfit : off + min xs.length dLen ≤ cur.length)
    (h : ∀ w', Blk w' g (splice cur off ((xs.take (min xs.length dLen)).map (.int .u8))).toArray t → (∀ i, i ≠ g → w'.heap[i]? = w.heap[i]?) → w'.heap.size = w.heap.size → (∀ B, B ≤ g → Below B w w') → wpList Try.prog ops Q rest (a.put o.dst (.int .i64 (min xs.length dLen : Nat))) w') :
    wpList Try.prog ops Q (o :: rest) a w := by
  have hsz : (Try.prog.info? 5).map (·.size) = some 1 := by kernel_rfl
  have hl : ((xs.take (min xs.length dLen)).map (Value.int .u8)).length = min xs.length dLen := by simp
  by_cases h0 : min xs.length dLen = 0
  · refine wpList_copy_nothing hgd d s 22 22 ho 5 Try.underlying22 hsz (some ⟨g, off, none⟩) A dLen dCap xs.length c hd hs h0 ?_
    have := h w (by rw [h0]; simpa [splice] using hg) (fun _ _ => rfl) rfl (fun B _ => Below.refl _ _)
    rw [h0] at this
    exact this
  · obtain ⟨ad, e, hc⟩ := hr.rd.2.2 (by omega)
    subst e
    refine wpList_copy_own hgd d s 22 22 ho 5 Try.underlying22 hsz g off dLen dCap ad xs.length c hd hs cur.toArray t hg ((xs.take (min xs.length dLen)).map (Value.int .u8)) hl (fun j v hv => ?_) (by rw [hl]; simpa using hfit) (fun v hv => ?_) ?_
    · rw [List.getElem?_map] at hv
      obtain ⟨x, hx, rfl⟩ := Option.map_eq_some_iff.1 hv
      have hj : j < (xs.take (min xs.length dLen)).length := (List.getElem?_eq_some_iff.1 hx).1
      rw [List.length_take] at hj
      rw [hc j (by omega)]
      rw [List.getElem?_take_of_lt (by omega)] at hx
      rw [List.getD_eq_getElem?_getD, hx]
      rfl
    · obtain ⟨x, -, rfl⟩ := List.mem_map.1 hv
      rfl
    · rw [hl]
      have := h (w.setRow g (cur.take off ++ (((xs.take (min xs.length dLen)).map (Value.int .u8)) ++ cur.drop (off + min xs.length dLen))).toArray) (by
        have := setRow_heap w g cur.toArray (cur.take off ++ (((xs.take (min xs.length dLen)).map (Value.int .u8)) ++ cur.drop (off + min xs.length dLen))).toArray t (0, 0) hg
        unfold splice
        rw [hl]
        exact this) (fun i hi => setRow_other _ _ _ _ hi) (by simp) (fun B hB => below_setRow (Below.refl _ _) hB _)
      exact this
end Go.Proofs.Ytmpahimeljbliaa.Vm
