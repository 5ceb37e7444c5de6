/- A number is read out of a space, and laid into it. No condition but that the space lies in memory as told. -/
import Derived.Test.YtmpahimeljbliaaVmReads
import Derived.Laws.BitsLemmas
namespace Go.Proofs.Ytmpahimeljbliaa.Vm
open Go.RowKit Go.Proofs Go.Proofs.YtmpahimeljbliaaW.PrintWords

/-- The number of bytes, the lowest first. -/
def leN : List Int → Int
  | [] => 0
  | b :: r => b + 256 * leN r
theorem leN_lt : ∀ l : List Int, (∀ b ∈ l, 0 ≤ b ∧ b ≤ 255) → 0 ≤ leN l ∧ leN l < 256 ^ l.length
  | [], _ => ⟨Int.le_refl _, by decide⟩
  | b :: r, h => by
    have h1 := h b List.mem_cons_self
    have h2 := leN_lt r (fun x hx => h x (List.mem_cons_of_mem _ hx))
    rw [leN, List.length_cons, Int.pow_succ]
    omega
def loadF (l : List Rm) (x : Nat) : Int × Int := if (readF l x 8).2 = 0 then (leN (readF l x 8).1, 0) else (0, (readF l x 8).2)
theorem read_len {l : List Rm} {x z : Nat} (h : (readF l x z).2 = 0) (hl : ∀ e, mayF l x z 4 = .error e → e ≠ 0) : (readF l x z).1.length = z := by
  unfold readF at h ⊢
  split at h
  · cases h
  · next hz =>
    rw [if_neg hz]
    cases ha : mayF l x z 4 with
    | error e =>
      rw [ha] at h
      exact absurd h (hl e ha)
    | ok y =>
      obtain ⟨r, hr, -⟩ := all_row (may_row ha)
      simp [bytesAt, hr]
theorem may_err {l : List Rm} {x z p : Nat} (e : Int) (h : mayF l x z p = .error e) : e = 52 ∨ e = 54 := by
  unfold mayF at h
  split at h
  · injection h with h; exact .inl h.symm
  · split at h
    · cases h
    · injection h with h; exact .inr h.symm
theorem byte_ok {s : Sp} (h : s.Good) {r : Rm} (hr : r ∈ s.rs) (q : Nat) : 0 ≤ byteAt r q ∧ byteAt r q ≤ 255 := by
  unfold byteAt
  split
  · next g hg =>
    rw [List.getD_eq_getElem?_getD]
    cases hd : g.data[(q - r.at_) % 256]? with
    | none => simp
    | some u => exact ((h.rm r hr).ok hg).bytes u (List.mem_of_getElem? hd)
  · omega
theorem read_bytes {s : Sp} (h : s.Good) (x z : Nat) : ∀ b ∈ (readF s.rs x z).1, 0 ≤ b ∧ b ≤ 255 := by
  intro b hb
  unfold readF at hb
  split at hb
  · cases hb
  · split at hb
    · cases hb
    · unfold bytesAt at hb
      split at hb
      · cases hb
      · next r hr =>
        obtain ⟨i, -, rfl⟩ := List.mem_map.1 hb
        exact byte_ok h (List.mem_of_getElem? hr) _
theorem or_join (n b : Int) (hn : 0 ≤ n) (hn2 : n < 72057594037927936) (hb : 0 ≤ b) (hb2 : b ≤ 255) : Go.bits .or .u64 (n * 256) b = n * 256 + b :=
  bits_join .u64 64 (by decide) (fun n h1 h2 => by rw [IntKind.wrap_u64]; omega) 8 (n * 256) b (by omega) (by omega) (by omega) hb (by omega) (by omega)
theorem pow7 : ∀ m : Nat, m ≤ 7 → (256 : Int) ^ m ≤ 72057594037927936 := by decide
theorem own_block {w : World} {base n : Nat} {e : TypeId} {A : Option Addr} {c : Nat} {xs : List Value} (h : w.ownsRow base e 1 (.slice A n c) n xs) (hn : 0 < n) : ∃ g, A = some ⟨g, 0, none⟩ := by
  rcases h.2 with ⟨h1, h2⟩ | ⟨g, cap, cur, hv, -⟩
  · omega
  · injection hv with h1; exact ⟨g, h1⟩
set_option maxRecDepth 100000 in
set_option maxHeartbeats 2000000 in
theorem load_in {w : World} {own : Nat → Option Role} {base a : Nat} {v : Value} {s : Sp} (h : Holds w own base a v s) (x : Nat) (hx : x ≤ 18446744073709551615) :
    Calls Try.prog 58 #[.pointer (some ⟨a, 0, none⟩), .int .u64 x] w fun e w' => e = .returned (.tuple #[.int .u64 (loadF s.rs x).1, .int .i64 (loadF s.rs x).2]) ∧ Below w.heap.size w w' := by
  have HQ : Calls Try.prog 33 #[.pointer (some ⟨a, 0, none⟩), .int .u64 x, .int .u64 8] w fun e w' => ∃ v' : Value, e = .returned (.tuple #[v', .int .i64 (readF s.rs x 8).2]) ∧ w'.ownsRow w.heap.size 5 1 v' (readF s.rs x 8).1.length (nums .u8 (readF s.rs x 8).1) ∧ Below w.heap.size w w' := read_in h x 8 hx (by omega)
  have hbytes := read_bytes h.good x 8
  obtain ⟨L, hL⟩ : ∃ L, L = (readF s.rs x 8).1 := ⟨_, rfl⟩
  obtain ⟨E, hE⟩ : ∃ E, E = (readF s.rs x 8).2 := ⟨_, rfl⟩
  rw [← hL, ← hE] at HQ
  rw [← hL] at hbytes
  have hres : loadF s.rs x = if E = 0 then (leN L, 0) else (0, E) := by unfold loadF; rw [← hL, ← hE]
  have hl8 : E = 0 → L.length = 8 := fun he => by rw [hL]; exact read_len (by rw [← hE]; exact he) (fun e h => by rcases may_err e h with h | h <;> omega)
  rw [hres]
  clear hL hE h hres
  by_cases he : E = 0
  · have h8 := hl8 he
    subst he
    rw [if_pos rfl]
    have HB := Aside0.mk hbytes
    rw [h8] at HQ
    have H8 := Aside0.mk h8
    clear hl8 hbytes h8
    go_enter Try.func58, Try.ntmps58
    go_wp2_with (go_at_call 33; (with_reducible refine HQ.mono ?_); rintro _ W1 ⟨v', rfl, ho, hB1⟩; obtain ⟨A, c, rfl⟩ := own_slice ho; have HO := Aside0.mk ho; have HB1 := Aside0.mk hB1; clear ho hB1 HQ; obtain ⟨g, rfl⟩ := own_block HO.out (by omega))
    go_loop [8, 9] (fun n i => ∃ k : Nat, i = .int .i64 ((k : Int) - 1) ∧ k ≤ 8 ∧ n = .int .u64 (leN (L.drop k))) (fun _ i => (intOf i + 1).toNat)
    case atStart => exact ⟨8, rfl, by omega, by rw [List.drop_of_length_le (by rw [H8.out]; omega)]; rfl⟩
    case round =>
      obtain ⟨k, rfl, hk, rfl⟩ := hrel
      cases k with
      | zero =>
        go_wp2
        go_ret2
        exact ⟨rfl, HB1.out⟩
      | succ k =>
        obtain ⟨N, hN⟩ : ∃ N, N = leN (L.drop (k + 1)) := ⟨_, rfl⟩
        have hNb := leN_lt (L.drop (k + 1)) (fun b hb => HB.out b (List.mem_of_mem_drop hb))
        have hk7 : k ≤ 7 := by omega
        have hp : (256 : Int) ^ (L.drop (k + 1)).length ≤ 72057594037927936 := by
          rw [List.length_drop, H8.out]
          exact pow7 _ (by omega)
        rw [← hN] at hNb ⊢
        have hN0 : 0 ≤ N := hNb.1
        have hN1 : N < 72057594037927936 := by omega
        obtain ⟨b, hb⟩ : ∃ b, b = rd L k := ⟨_, rfl⟩
        have hlk : k < L.length := by rw [H8.out]; omega
        have hbn : L[k] = b := by rw [hb]; unfold rd; simp [hlk]
        have hbb := HB.out b (by rw [← hbn]; exact List.getElem_mem _)
        have hstep := Aside0.mk (show leN (L.drop k) = N * 256 + b from by rw [List.drop_eq_getElem_cons hlk, leN, hbn, ← hN]; omega)
        have hb0 : 0 ≤ b := hbb.1
        have hb1 : b ≤ 255 := hbb.2
        have hc := (own_at HO.out (k : Int) (by omega) (by omega)).1
        rw [← hb] at hc
        have hc2 : W1.cell? ⟨g, k, none⟩ = some (.int .u8 b) := hc
        have hor := or_join N b hN0 hN1 hb0 hb1
        have hsh : IntKind.u64.wrap (N * 256) = N * 256 := by rw [IntKind.wrap_u64]; omega
        clear hNb hp hN hb hbn hbb hc hlk
        go_wp2
        exact ⟨⟨k, rfl, by omega, by rw [hstep.out]⟩, by simp only [intOf]; omega⟩
  · rw [if_neg he]
    have hne : (E != 0) = true := by simp [he]
    clear hl8 hbytes he
    go_enter Try.func58, Try.ntmps58
    go_wp2_with (go_at_call 33; (with_reducible refine HQ.mono ?_); rintro _ W1 ⟨v', rfl, ho, hB1⟩; have HB1 := Aside0.mk hB1; clear ho hB1 HQ)
    go_ret2
    exact ⟨rfl, HB1.out⟩
end Go.Proofs.Ytmpahimeljbliaa.Vm
