/- The law's calls: their kind, their place, a number's bytes. No condition but the numbers' kinds. -/
import Derived.Test.YtmpahimeljbliaaVmStore
namespace Go.Proofs.Ytmpahimeljbliaa.Vm
open Go.RowKit Go.Proofs Go.Proofs.YtmpahimeljbliaaW.PrintWords

/-- A call. -/
structure Opn where
  kind : Int
  room : Int
  off : Nat
  size : Nat
  prot : Int
  hint : Nat
  data : List Int
structure Opn.Ok (p : Opn) : Prop where
  k1 : -9223372036854775808 ≤ p.kind
  k2 : p.kind ≤ 9223372036854775807
  r1 : -9223372036854775808 ≤ p.room
  r2 : p.room ≤ 9223372036854775807
  o2 : p.off ≤ 18446744073709551615
  s2 : p.size ≤ 18446744073709551615
  p1 : -9223372036854775808 ≤ p.prot
  p2 : p.prot ≤ 9223372036854775807
  h2 : p.hint ≤ 18446744073709551615
  bytes : ∀ b ∈ p.data, 0 ≤ b ∧ b ≤ 255
  len : p.data.length ≤ 2048
def cellsO (p : Opn) (A : Option Addr) (c : Nat) : Array Value := #[.int .i64 p.kind, .int .i64 p.room, .int .u64 p.off, .int .u64 p.size, .int .i64 p.prot, .int .u64 p.hint, .slice A p.data.length c]
def kindN (n : Int) : Int := n % 11
theorem kind_in (n : Int) (w : World) (h1 : -9223372036854775808 ≤ n) (h2 : n ≤ 9223372036854775807) : Calls Try.prog 26 #[.int .i64 n] w fun e w' => e = .returned (.int .i64 (kindN n)) ∧ w = w' := by
  have hk : (n.tmod 11 + 11).tmod 11 = kindN n := by
    unfold kindN
    have h3 := Int.tmod_eq_emod (a := n) (b := 11)
    split at h3
    · rw [h3, Int.tmod_eq_emod_of_nonneg (by omega)]; omega
    · rw [h3, Int.tmod_eq_emod_of_nonneg (by omega)]; omega
  have hb : -11 < n.tmod 11 ∧ n.tmod 11 < 11 := ⟨by have := Int.lt_tmod_of_pos n (show (0:Int) < 11 by decide); omega, Int.tmod_lt_of_pos n (by decide)⟩
  have hw : wrap64 (n.tmod 11 + 11) = n.tmod 11 + 11 := by unfold wrap64; omega
  have HK := Aside0.mk hk
  have HW := Aside0.mk hw
  clear hk hw hb
  go_enter Try.func26, Try.ntmps26
  go_wp2
  go_ret
  exact ⟨by rw [HW.out, HK.out]; rfl, rfl⟩
def placeF (p : Opn) (rooms : List Nat) : Nat :=
  if p.room < 0 ∨ rooms.length = 0 then p.off else (rooms.getD (p.room.toNat % rooms.length) 0 + p.off) % 18446744073709551616
def natsI (l : List Nat) : List Int := l.map Int.ofNat
theorem reads_cell {w W : World} {k : IntKind} {ad : Addr} {n : Nat} {xs : List Int} (h : ReadsInt w k (some ad) n xs) (hB : Below w.heap.size w W) (m : Nat) (hm : m < n) : W.cell? (ad.add m) = some (.int k (rd xs m)) := by
  obtain ⟨ad', e, hc⟩ := (h.below hB).at_ (m : Int) (by omega) (by omega)
  injection e with e
  subst e
  exact hc
set_option maxRecDepth 100000 in
theorem place_in (p : Opn) (hp : p.Ok) (A6 : Option Addr) (c6 : Nat) (rooms : List Nat) (A : Option Addr) (c : Nat) (w : World) (hr : ReadsInt w .u64 A rooms.length (natsI rooms)) (hrb : ∀ r ∈ rooms, r ≤ 18446744073709551615) (hl : rooms.length ≤ 100) :
    Calls Try.prog 31 #[.agg (cellsO p A6 c6), .slice A rooms.length c] w fun e w' => e = .returned (.int .u64 (placeF p rooms)) ∧ Below w.heap.size w w' := by
  have hok := hp.r1
  have hok2 := hp.r2
  have hoo := hp.o2
  unfold cellsO
  by_cases c1 : p.room < 0
  · have HF := Aside0.mk (show placeF p rooms = p.off from if_pos (.inl c1))
    clear hr
    go_enter Try.func31, Try.ntmps31
    go_wp2
    go_ret
    exact ⟨by rw [HF.out]; rfl, below_new _ _⟩
  · by_cases c2 : rooms.length = 0
    · have HF := Aside0.mk (show placeF p rooms = p.off from if_pos (.inr c2))
      have c3 : ((rooms.length : Int) == 0) = true := by simp [c2]
      clear hr
      clear c2
      go_enter Try.func31, Try.ntmps31
      go_wp2
      go_ret
      exact ⟨by rw [HF.out]; rfl, below_new _ _⟩
    · have HF := Aside0.mk (show placeF p rooms = (rooms.getD (p.room.toNat % rooms.length) 0 + p.off) % 18446744073709551616 from if_neg (fun h => h.elim c1 c2))
      have c3 : ((rooms.length : Int) == 0) = false := beq_eq_false_iff_ne.2 (by omega)
      obtain ⟨n, hn⟩ : ∃ n, n = rooms.length := ⟨_, rfl⟩
      obtain ⟨m, hm⟩ : ∃ m, m = p.room.toNat % n := ⟨_, rfl⟩
      rw [← hn] at hr c3 hl c2 HF ⊢
      rw [← hm] at HF
      have hmn : m < n := by rw [hm]; exact Nat.mod_lt _ (by omega)
      have ht : p.room.tmod n = (m : Int) := by
        rw [Int.tmod_eq_emod_of_nonneg (by omega), hm, Int.natCast_emod, Int.toNat_of_nonneg (by omega)]
      obtain ⟨ad, rfl, -⟩ := hr.at_ (m : Int) (by omega) (by omega)
      have hcell := fun (W : World) (hB : Below w.heap.size w W) => reads_cell hr hB m hmn
      obtain ⟨r, hrr⟩ : ∃ r, r = rooms.getD m 0 := ⟨_, rfl⟩
      have hrd : rd (natsI rooms) m = (r : Int) := by
        unfold rd natsI
        rw [hrr]
        simp [List.getD_eq_getElem?_getD, List.getElem?_map]
        cases rooms[m]? <;> rfl
      rw [hrd] at hcell
      rw [← hrr] at HF
      have hr2 : r ≤ 18446744073709551615 := by rw [hrr, List.getD_eq_getElem?_getD, List.getElem?_eq_getElem (by omega)]; exact hrb _ (List.getElem_mem _)
      have HC := Aside0.mk hcell
      have hc0 : (w.alloc (.cells (cellsO p A6 c6) 60)).cell? (ad.add m) = some (.int .u64 r) := hcell _ (below_new _ _)
      unfold cellsO at hc0
      clear hcell hrd hm hn hrr hr c2 hrb hp
      go_enter Try.func31, Try.ntmps31
      go_wp2
      go_quiet (fail)
      go_wp2
      go_ret
      refine ⟨?_, pw_below_drewN (below_new _ _) nq⟩
      rw [HF.out, show (((r + p.off) % 18446744073709551616 : Nat) : Int) = IntKind.u64.wrap ((r : Int) + p.off) from by rw [IntKind.wrap_u64]; omega]
      rfl
theorem byte_div (n k : Nat) : ((n / 256 ^ k : Nat) : Int) % 256 = byteN n k := by unfold byteN; omega
theorem le8_take (n k : Nat) (hk : k < 8) : (le8 n).take (k + 1) = (le8 n).take k ++ [byteN n k] := by
  rw [List.take_add_one, show (le8 n)[k]? = some (byteN n k) from by unfold le8; rw [List.getElem?_map, List.getElem?_range hk]; rfl]
  rfl
set_option maxRecDepth 100000 in
theorem put_in (n : Nat) (hn : n ≤ 18446744073709551615) (w : World) :
    Calls Try.prog 59 #[.slice none 0 0, .int .u64 n, .int .i64 8] w fun e w' => ∃ v', e = .returned v' ∧ w'.ownsRow w.heap.size 5 1 v' 8 (nums .u8 (le8 n)) ∧ Below w.heap.size w w' := by
  go_enter Try.func59, Try.ntmps59
  go_wp2
  go_loopw [0, 1, 7] (fun d q i wr => ∃ k m : Nat, i = .int .i64 k ∧ q = .int .u64 m ∧ k ≤ 8 ∧ m ≤ 18446744073709551615 ∧ Aside0 (m = n / 256 ^ k) ∧ Aside0 (wr.ownsRow w.heap.size 5 1 d k (nums .u8 ((le8 n).take k))) ∧ Aside0 (Below w.heap.size w wr)) (fun _ _ i _ => 8 - (intOf i).toNat)
  case atStart => exact ⟨0, n, rfl, rfl, by omega, hn, ⟨by simp⟩, ⟨own_nil _ _ _ _⟩, ⟨Below.refl _ _⟩⟩
  case round =>
    obtain ⟨k, m, rfl, rfl, hk, hm, HM, HO, HB⟩ := hrel
    by_cases hlt : k < 8
    · have hsz : w.heap.size ≤ wr.heap.size := HB.out.size
      have HBY := Aside0.mk (byte_div n k)
      go_wp2_with (at_builtin; refine print_append_cells (W := wr) (w0 := w) w.heap.size rfl (.tmp 13) (.tmp 17) 22 5 (.int .u8 0) 1 1 rfl Try.underlying22 info5 rfl (by decide) (by decide) _ k (nums .u8 ((le8 n).take k)) [.int .u8 ((m : Int) % 256)] rfl rfl rfl (by simp [Value.oneCell']) HO.out HB.out hsz (by omega) ?_; intro v1 w1 ho1 hb1 hg1 hx1; have HO1 := Aside0.mk ho1; have HB1 := Aside0.mk hb1; clear ho1 hb1 hg1 hx1)
      go_roundw
      case rel => exact ⟨k + 1, m / 256, by go_num, by rw [show ((m / 256 : Nat) : Int) = (m : Int) / 256 from by omega], by omega, by omega, ⟨by rw [HM.out, Nat.div_div_eq_div_mul, ← Nat.pow_succ]⟩, ⟨by rw [le8_take n k hlt, ← HBY.out, ← HM.out, nums, List.map_append]; exact HO1.out⟩, HB1⟩
      case measure => simp [intOf]; omega
    · obtain rfl : k = 8 := by omega
      go_wp2
      go_ret
      exact ⟨_, rfl, by have := HO.out; rw [List.take_of_length_le (by rw [le8_len]; omega)] at this; exact this, HB.out⟩
end Go.Proofs.Ytmpahimeljbliaa.Vm
