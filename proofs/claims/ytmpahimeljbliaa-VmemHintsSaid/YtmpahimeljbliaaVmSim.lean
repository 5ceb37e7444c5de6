/- Two rows of pages are the same but for a range of bytes: the law's test. No condition but that the rows lie in memory as told. -/
import Derived.Test.YtmpahimeljbliaaVmFine
namespace Go.Proofs.Ytmpahimeljbliaa.Vm
set_option pp.maxSteps 300000
set_option pp.deepTerms true
open Go.RowKit Go.Proofs Go.Proofs.YtmpahimeljbliaaW.PrintWords

/-- A row of pages in memory. -/
def PgAt (w : World) (A : Option Addr) (P : List Pg) : Prop := ∀ (q : Nat) (g : Pg), P[q]? = some g → ∃ ad, A = some ad ∧ w.cell? (ad.add (q * 258)) = some (.int .u64 g.at_) ∧ w.cell? ⟨(ad.add (q * 258)).block, (ad.add (q * 258)).off + 1, none⟩ = some (.int .i64 g.prot) ∧ ∀ j u, g.data[j]? = some u → w.cell? ⟨(ad.add (q * 258)).block, (ad.add (q * 258)).off + (2 + j), none⟩ = some (.int .u8 u)
theorem PgAt.below {w W : World} {A : Option Addr} {P : List Pg} (h : PgAt w A P) (hB : Below w.heap.size w W) : PgAt W A P := fun q g hg => by
  obtain ⟨ad, e, h0, h1, h2⟩ := h q g hg
  exact ⟨ad, e, (hB.cell (cell_lt h0)).trans h0, (hB.cell (cell_lt h1)).trans h1, fun j u hu => (hB.cell (cell_lt (h2 j u hu))).trans (h2 j u hu)⟩
structure Sim1 (x z : Nat) (p q : Pg) : Prop where
  at_ : p.at_ = q.at_
  prot : p.prot = q.prot
  l1 : p.data.length = 256
  l2 : q.data.length = 256
  hi : p.at_ ≤ 1099511627776
  data : ∀ k u v, p.data[k]? = some u → q.data[k]? = some v → u ≠ v → x ≤ p.at_ + k ∧ p.at_ + k < x + z
structure Sim (x z : Nat) (P Q : List Pg) : Prop where
  len : P.length = Q.length
  each : ∀ (i : Nat) (p q : Pg), P[i]? = some p → Q[i]? = some q → Sim1 x z p q
set_option maxRecDepth 100000 in
set_option maxHeartbeats 2000000 in
theorem sim_in {w : World} {A A' : Option Addr} {P Q : List Pg} {x z : Nat} (hP : PgAt w A P) (hQ : PgAt w A' Q) (hs : Sim x z P Q) (c c' : Nat) (hx : x ≤ 18446744073709551615) (hz : z ≤ 18446744073709551615) (hn : P.length ≤ 9223372036854775807) :
    Calls Try.prog 30 #[.slice A P.length c, .slice A' Q.length c', .int .u64 x, .int .u64 z] w fun e w' => e = .returned (.bool true) ∧ Below w.heap.size w w' := by
  have HS := Aside0.mk hs
  have HP := Aside0.mk (fun (W : World) (hB : Below w.heap.size w W) => hP.below hB)
  have HQ := Aside0.mk (fun (W : World) (hB : Below w.heap.size w W) => hQ.below hB)
  rw [← hs.len]
  obtain ⟨n, hn'⟩ : ∃ n, n = P.length := ⟨_, rfl⟩
  rw [← hn'] at hn ⊢
  have HN := Aside0.mk hn'
  have hne : ((n : Int) != (n : Int)) = false := by simp
  clear hP hQ hs hn'
  go_enter Try.func30, Try.ntmps30
  go_wp2
  go_loopw [9] (fun i wr => ∃ y : Nat, i = .int .i64 y ∧ y ≤ n ∧ Aside0 (Below w.heap.size w wr)) (fun i _ => n - (intOf i).toNat)
  case atStart => exact ⟨0, rfl, Nat.zero_le _, ⟨Below.refl _ _⟩⟩
  case round =>
    obtain ⟨y, rfl, hy, HB⟩ := hrel
    by_cases hlt : y < n
    · obtain ⟨p, hp⟩ : ∃ p, P[y]? = some p := ⟨P[y]'(by rw [← HN.out]; exact hlt), List.getElem?_eq_getElem _⟩
      obtain ⟨q, hq⟩ : ∃ q, Q[y]? = some q := ⟨Q[y]'(by rw [← HS.out.len, ← HN.out]; exact hlt), List.getElem?_eq_getElem _⟩
      obtain ⟨ad, rfl, p0, p1, -⟩ := HP.out wr HB.out y p hp
      obtain ⟨ad', rfl, q0, q1, -⟩ := HQ.out wr HB.out y q hq
      have hs1 := HS.out.each y p q hp hq
      have HS1 := Aside0.mk hs1
      have HPP := Aside0.mk hp
      have HQQ := Aside0.mk hq
      have e1 : ((p.at_ : Int) != (q.at_ : Int)) = false := by rw [hs1.at_]; simp
      have e2 : ((p.prot : Int) != (q.prot : Int)) = false := by rw [hs1.prot]; simp
      have hhi := hs1.hi
      clear hs1 hp hq
      go_wp2
      go_quiet (fail)
      go_wp2
      go_loopw [10, 11] (fun i _ wr => ∃ k : Nat, i = .int .i64 k ∧ k ≤ 256 ∧ Aside0 (Below w.heap.size w wr)) (fun i _ _ => 256 - (intOf i).toNat)
      case atStart => exact ⟨0, rfl, Nat.zero_le _, ⟨pw_below_drewN HB.out _⟩⟩
      case round =>
        obtain ⟨k, rfl, hk, HBk⟩ := hrel
        by_cases hlt2 : k < 256
        · obtain ⟨u, hu⟩ : ∃ u, p.data[k]? = some u := ⟨p.data[k]'(by rw [HS1.out.l1]; exact hlt2), List.getElem?_eq_getElem _⟩
          obtain ⟨v, hv⟩ : ∃ v, q.data[k]? = some v := ⟨q.data[k]'(by rw [HS1.out.l2]; exact hlt2), List.getElem?_eq_getElem _⟩
          obtain ⟨ad2, e2, p0, -, p2⟩ := HP.out wr HBk.out y p HPP.out
          cases e2
          obtain ⟨ad3, e3, q0, -, q2⟩ := HQ.out wr HBk.out y q HQQ.out
          cases e3
          have p2' : wr.cell? ⟨(ad.add (y * 258)).block, (ad.add (y * 258)).off + 2 + k, none⟩ = some (.int .u8 u) := by rw [Nat.add_assoc]; exact p2 k u hu
          have q2' : wr.cell? ⟨(ad'.add (y * 258)).block, (ad'.add (y * 258)).off + 2 + k, none⟩ = some (.int .u8 v) := by rw [Nat.add_assoc]; exact q2 k v hv
          clear p2 q2
          have w1 : IntKind.u64.wrap (k : Int) = (k : Int) := by rw [IntKind.wrap_u64]; omega
          have w2 : IntKind.u64.wrap ((p.at_ : Int) + (k : Int)) = (p.at_ : Int) + (k : Int) := by rw [IntKind.wrap_u64]; omega
          by_cases huv : u = v
          · have hb : (u != v) = false := by simp [huv]
            clear huv hu hv
            go_wp2
            go_quiet (fail)
            go_wp2
            go_roundw
            case rel => exact ⟨k + 1, by go_num, by omega, ⟨pw_below_drewN HBk.out _⟩⟩
            case measure => simp [intOf]; omega
          · have hb : (u != v) = true := by simp [huv]
            obtain ⟨hr1, hr2⟩ := HS1.out.data k u v hu hv huv
            have w3 : IntKind.u64.wrap ((p.at_ : Int) + (k : Int) - (x : Int)) = (p.at_ : Int) + (k : Int) - (x : Int) := by rw [IntKind.wrap_u64]; omega
            have d1 : decide ((p.at_ : Int) + (k : Int) < (x : Int)) = false := decide_eq_false (by omega)
            have d2 : decide ((p.at_ : Int) + (k : Int) - (x : Int) ≥ (z : Int)) = false := decide_eq_false (by omega)
            clear huv hu hv
            go_wp2
            go_quiet (fail)
            go_wp2
            go_roundw
            case rel => exact ⟨k + 1, by go_num, by omega, ⟨pw_below_drewN HBk.out _⟩⟩
            case measure => simp [intOf]; omega
        · obtain rfl : k = 256 := by omega
          go_wp2
          go_roundw
          case rel => exact ⟨y + 1, by go_num, by omega, HBk⟩
          case measure => simp [intOf]; omega
    · obtain rfl : y = n := by omega
      go_wp2
      go_ret
      exact ⟨rfl, HB.out⟩
end Go.Proofs.Ytmpahimeljbliaa.Vm
