/- zip.Make: the archive of these files, or the error. No condition but that the argument is a slice of files. -/
import Derived.Test.YtmpahimeljbliaaZipTwo
import Derived.Test.YtmpahimeljbliaaBx1
namespace Go.Proofs.Ytmpahimeljbliaa.ZipWalk
open Go.RowKit Go.Proofs Go.Proofs.Ytmpahimeljbliaa.Buf Go.Proofs.YtmpahimeljbliaaW.PrintWords Go.Proofs.YtmpahimeljbliaaW.PrintLast Go.Proofs.YtmpahimeljbliaaW.PrintMore

/-- A file as it lies in a row. -/
def kF : Kd (ByteArray × List Int) := Kd.pair Kd.string (Kd.slice 5 (Kd.int .u8))
def fOf (x : ByteArray × List Int) : ZipPure.F := (bytesOf x.1, x.2)
theorem file_at {w : World} {A : Option Addr} {n : Nat} {l : List (ByteArray × List Int)} (h : kF.C w A n l) (k : Nat) (hk : k < n) :
    ∃ ad s A1 c1 ys, A = some ad ∧ l[k]? = some (s, ys) ∧ w.cell? (ad.add (k * 2)) = some (.string s) ∧ w.cell? ⟨(ad.add (k * 2)).block, (ad.add (k * 2)).off + 1, none⟩ = some (.slice A1 ys.length c1) ∧ ys.length ≤ c1 ∧ ReadsInt w .u8 A1 ys.length ys := by
  obtain ⟨ad, c, e, _, hK, hc0⟩ := Kd.C_get h (ByteArray.empty, []) (k : Int) (by omega) (by omega)
  have hl : l.length = n := h.1
  have hg : l[k]? = some (l.getD (k : Int).toNat (ByteArray.empty, [])) := by
    rw [Int.toNat_natCast, List.getD_eq_getElem?_getD, List.getElem?_eq_getElem (by omega)]
    rfl
  generalize l.getD (k : Int).toNat (ByteArray.empty, []) = x at hK hg
  obtain ⟨s, ys⟩ := x
  obtain ⟨_, _, rfl, rfl, A1, c1, rfl, hle, hR⟩ := hK
  have hc : ∀ j u, [Value.string s, .slice A1 ys.length c1][j]? = some u → w.cell? (ad.add (k * 2 + j)) = some u := hc0
  exact ⟨ad, s, A1, c1, ys, e, hg, hc 0 _ rfl, by rw [← add_field _ _ 1 (by omega)]; exact hc 1 _ rfl, hle, Kd.reads_of_C hR⟩

/-- Two buffers, and a block that neither touches. -/
structure TB (w0 W : World) (f c : Nat) (vf vc : Value) (F C : List Int) (g : Nat) (o : Obj) : Prop where
  two : Two w0 W f c vf vc F C
  kf : KB W f g vf o
  kc : KB W c g vc o
theorem TB.stepF {w0 W W' : World} {f c g : Nat} {vf vf' vc : Value} {F F' C : List Int} {o : Obj} (h : TB w0 W f c vf vc F C g o) (h1 : BufV w0.heap.size W' f vf' F') (h2 : Step W W' f vf vf') : TB w0 W' f c vf' vc F' C g o :=
  have k := h.kf.next h2
  ⟨h.two.stepF h1 h2, k, ⟨k.blk, h.kc.ne, h.kc.own⟩⟩
theorem TB.stepC {w0 W W' : World} {f c g : Nat} {vf vc vc' : Value} {F C C' : List Int} {o : Obj} (h : TB w0 W f c vf vc F C g o) (h1 : BufV w0.heap.size W' c vc' C') (h2 : Step W W' c vc vc') : TB w0 W' f c vf vc' F C' g o :=
  have k := h.kc.next h2
  ⟨h.two.stepC h1 h2, ⟨k.blk, h.kf.ne, h.kf.own⟩, k⟩
theorem TB.mk_new {w0 W : World} {f c : Nat} {vf vc : Value} {F C : List Int} (h : Two w0 W f c vf vc F C) (o : Obj) : TB w0 (W.alloc o) f c vf vc F C W.heap.size o :=
  have hb : Below W.heap.size W (W.alloc o) := below_alloc (Below.refl _ _) o
  ⟨h.far hb, KB.fresh h.lf.buf rfl (blk_new W o), KB.fresh h.lc.buf rfl (blk_new W o)⟩
theorem Two.le {w0 W : World} {f c : Nat} {vf vc : Value} {F C : List Int} (h : Two w0 W f c vf vc F C) : w0.heap.size ≤ W.heap.size := h.lf.bel.size
theorem cell_two {w0 W : World} {A : Addr} {v : Value} (h : w0.cell? A = some v) (hb : Below w0.heap.size w0 W) : W.cell? A = some v := pw_cell_below hb h
set_option maxHeartbeats 2000000 in
theorem len_same (base b : Nat) (v : Value) (xs : List Int) (W : World) (hv : BufV base W b v xs) :
    Calls Try.prog 44 #[.pointer (some ⟨b, 0, none⟩)] W fun e W' => e = .returned (.int .i64 xs.length) ∧ W' = W := by
  obtain ⟨A, c, rfl, hrd⟩ := own_reads hv.row
  have hc := hv.box.cell
  clear hrd
  go_enter Try.func44, Try.ntmps44
  go_wp2
  go_ret
  exact ⟨rfl, rfl⟩

open ZipPure in
/-- What a round makes of the two. -/
theorem parts_next (l : List F) (k : Nat) (f : F) (B C : List Int) (hf : l[k]? = some f) (h0 : f.1.length ≠ 0) (h1 : f.1.length ≤ 256) (h2 : f.2.length ≤ 262144) :
    partsOf (l.drop k) B C = if (B ++ localOf f (padOf B.length f.1.length)).length + (C ++ centralOf f B.length).length + 22 > 262144 then (([], []), 67) else partsOf (l.drop (k + 1)) (B ++ localOf f (padOf B.length f.1.length)) (C ++ centralOf f B.length) := by
  have hd : l.drop k = f :: l.drop (k + 1) := by
    obtain ⟨hk, he⟩ := List.getElem?_eq_some_iff.1 hf
    rw [List.drop_eq_getElem_cons hk, he]
  rw [hd, partsOf, if_neg (by omega), if_neg (by omega)]
open ZipPure in
theorem parts_bad (l : List F) (k : Nat) (f : F) (B C : List Int) (hf : l[k]? = some f) (h0 : f.1.length = 0 ∨ f.1.length > 256) : partsOf (l.drop k) B C = (([], []), 40) := by
  have hd : l.drop k = f :: l.drop (k + 1) := by
    obtain ⟨hk, he⟩ := List.getElem?_eq_some_iff.1 hf
    rw [List.drop_eq_getElem_cons hk, he]
  rw [hd, partsOf, if_pos h0]
open ZipPure in
theorem parts_big (l : List F) (k : Nat) (f : F) (B C : List Int) (hf : l[k]? = some f) (h0 : f.1.length ≠ 0) (h1 : f.1.length ≤ 256) (h2 : f.2.length > 262144) : partsOf (l.drop k) B C = (([], []), 67) := by
  have hd : l.drop k = f :: l.drop (k + 1) := by
    obtain ⟨hk, he⟩ := List.getElem?_eq_some_iff.1 hf
    rw [List.drop_eq_getElem_cons hk, he]
  rw [hd, partsOf, if_neg (by omega), if_pos h2]
theorem C_map {α β : Type} {d : Kd α} {d' : Kd β} {f : α → β} (hsz : d.sz = d'.sz) (hK : ∀ w x cs, d.K w x cs → d'.K w (f x) cs) {w : World} {A : Option Addr} {n : Nat} {xs : List α} (h : d.C w A n xs) : d'.C w A n (xs.map f) := by
  obtain ⟨h1, h2, h3⟩ := h
  refine ⟨by rw [List.length_map]; exact h1, h2, fun hn => ?_⟩
  obtain ⟨ad, e, hc⟩ := h3 hn
  refine ⟨ad, e, fun j p hj => ?_⟩
  rw [List.getElem?_map] at hj
  obtain ⟨q, hq, rfl⟩ := Option.map_eq_some_iff.1 hj
  rw [← hsz]
  obtain ⟨c, hl, hk, hcc⟩ := hc j q hq
  exact ⟨c, hl, hK _ _ _ hk, hcc⟩
end Go.Proofs.Ytmpahimeljbliaa.ZipWalk
