/- The document's List of an archive. No condition but that the argument is a slice of bytes. -/
import Derived.Test.YtmpahimeljbliaaZipListW
import Derived.Test.YtmpahimeljbliaaZipNumR
namespace Go.Proofs.Ytmpahimeljbliaa.ZipWalk
open Go.RowKit Go.Proofs Go.Proofs.Ytmpahimeljbliaa.B Go.Proofs.Ytmpahimeljbliaa.Buf Go.Proofs.YtmpahimeljbliaaW.PrintWords Go.Proofs.YtmpahimeljbliaaW.PrintLast Go.Proofs.YtmpahimeljbliaaW.PrintMore
open ZipPure (numAt U Bytes endAt endFrom endMarks listFrom listOf longAt Ent entAt)
open ZipEnd (endOk num2_lt num4_lt)
open ZipNumB (w64 w64i w64' ref_n)

theorem rn2 (A0 : Option Addr) (c0 : Nat) (l : List Int) (z : Int) (a : Nat) (w : World) (hz : z = (a : Int)) (hr : ReadsInt w .u8 A0 l.length l) (hc : l.length ≤ c0) (hl : Bytes l) (hlen : l.length ≤ 140737488355328) (ha : a ≤ 140737488355428) :
    Calls Try.prog 41 #[.slice A0 l.length c0, .int .u64 z, .int .i64 2] w fun e w' => e = .returned (.int .u64 (numAt l a 2)) ∧ ∃ m, w' = w.drewN m := by
  subst hz
  exact (messuageref07_n.calls 9 A0 c0 l a 2 _ w (Kd.C_of_reads hr) hc (ref_n l hl a 2 (by omega) (by omega) (by omega) 9 (by omega))).mono fun _ _ h => ⟨h.1, h.2.out⟩
theorem rn4 (A0 : Option Addr) (c0 : Nat) (l : List Int) (z : Int) (a : Nat) (w : World) (hz : z = (a : Int)) (hr : ReadsInt w .u8 A0 l.length l) (hc : l.length ≤ c0) (hl : Bytes l) (hlen : l.length ≤ 140737488355328) (ha : a ≤ 140737488355428) :
    Calls Try.prog 41 #[.slice A0 l.length c0, .int .u64 z, .int .i64 4] w fun e w' => e = .returned (.int .u64 (numAt l a 4)) ∧ ∃ m, w' = w.drewN m := by
  subst hz
  exact (messuageref07_n.calls 9 A0 c0 l a 4 _ w (Kd.C_of_reads hr) hc (ref_n l hl a 4 (by omega) (by omega) (by omega) 9 (by omega))).mono fun _ _ h => ⟨h.1, h.2.out⟩
/-- What the document's Last says. -/
def lastRes : Option Nat → Int × Bool
  | some e => ((e : Int), true)
  | none => (0, false)
theorem last_l0 (b : List Int) (hb : Bytes b) (hlen : b.length ≤ 140737488355328) : ∀ (d back k : Nat), d + back = 65558 → 22 ≤ back → 2 * d + 14 < k → messuageref07_Last.l0 k b ((b.length : Int) - (back : Int)) = some (lastRes (endFrom b d back))
  | 0, back, k, hd, h22, hk => by
    obtain ⟨k, rfl⟩ : ∃ m, k = m + 1 + 1 := ⟨k - 2, by omega⟩
    have hw : wrap64 (wrap64 ((b.length : Int) - 22) - 65535) = (b.length : Int) - 22 - 65535 := by
      rw [w64' ((b.length : Int) - 22) (by omega) (by omega), w64' _ (by omega) (by omega)]
    have hd0 : decide ((b.length : Int) - (back : Int) ≥ (b.length : Int) - 22 - 65535) = false := decide_eq_false (by omega)
    rw [messuageref07_Last.l0, hw, hd0, ite_self, messuageref07_Last.j1, if_neg (by decide), endFrom]
    rfl
  | d + 1, back, k, hd, h22, hk => by
    obtain ⟨k, rfl⟩ : ∃ m, k = m + 1 + 1 := ⟨k - 2, by omega⟩
    have hw : wrap64 (wrap64 ((b.length : Int) - 22) - 65535) = (b.length : Int) - 22 - 65535 := by
      rw [w64' ((b.length : Int) - 22) (by omega) (by omega), w64' _ (by omega) (by omega)]
    rw [messuageref07_Last.l0, hw, endFrom]
    clear hw
    by_cases hbl : back ≤ b.length
    · obtain ⟨a, ha⟩ : ∃ a : Nat, a = b.length - back := ⟨_, rfl⟩
      have e0 : (b.length : Int) - (back : Int) = (a : Int) := by omega
      have i1 := ref_n b hb a 4 (by omega) (by omega) (by omega) k (by omega)
      have i2 := ref_n b hb (a + 20) 2 (by omega) (by omega) (by omega) k (by omega)
      have ih := last_l0 b hb hlen d (back + 1) k (by omega) (by omega) (by omega)
      have p1 : (a : Int) ≥ 0 := by omega
      have p2 : (a : Int) ≥ (b.length : Int) - 22 - 65535 := by omega
      have q1 : (0 : Int) ≤ (a : Int) := by omega
      have q2 : (a : Int) < 18446744073709551616 := by omega
      have e1 : IntKind.u64.wrap (a : Int) = (a : Int) := w64 _ q1 q2
      have q3 : (a : Int) + 20 < 18446744073709551616 := by omega
      have e2 : IntKind.u64.wrap ((a : Int) + 20) = ((a + 20 : Nat) : Int) := by rw [w64 _ (by omega) q3]; omega
      have hnum : numAt b a 4 = U b a 4 := ZipPure.numAt_in _ _ _ (by omega)
      have hnum2 : numAt b (a + 20) 2 = U b (a + 20) 2 := ZipPure.numAt_in _ _ _ (by omega)
      have e3 : wrap64 (wrap64 ((b.length : Int) - (a : Int)) - 22) = (back : Int) - 22 := by
        rw [w64' ((b.length : Int) - (a : Int)) (by omega) (by omega), w64' _ (by omega) (by omega)]
        omega
      have e4 : IntKind.u64.wrap ((back : Int) - 22) = (back : Int) - 22 := w64 _ (by omega) (by omega)
      have e5 : wrap64 ((a : Int) - 1) = (b.length : Int) - ((back + 1 : Nat) : Int) := by
        rw [w64' _ (by omega) (by omega)]
        omega
      have eb : ((b.length - a - 22 : Nat) : Int) = (back : Int) - 22 := by omega
      simp only [show ((4 : Nat) : Int) = 4 from rfl, show ((2 : Nat) : Int) = 2 from rfl] at i1 i2
      rw [e0, if_pos p1, decide_eq_true p2, messuageref07_Last.j1, if_pos rfl, e1, i1, Option.bind_some, e2, i2, Option.bind_some, e3, e4, e5, ih, if_pos hbl, ← ha, hnum, hnum2]
      have hm : endMarks b a ↔ U b a 4 = 101010256 ∧ U b (a + 20) 2 = (back : Int) - 22 := by unfold endMarks; rw [eb]
      clear e0 e1 e2 e3 e4 e5 i1 i2 ih
      by_cases h1 : U b a 4 = 101010256
      · by_cases h2 : U b (a + 20) 2 = (back : Int) - 22
        · rw [if_pos h1, if_pos h2, if_pos (hm.2 ⟨h1, h2⟩)]
          rfl
        · rw [if_pos h1, if_neg h2, if_neg (fun h => h2 (hm.1 h).2)]
      · rw [if_neg h1, if_neg (fun h => h1 (hm.1 h).1)]
    · have n1 : ¬ (b.length : Int) - (back : Int) ≥ 0 := by omega
      rw [if_neg n1, messuageref07_Last.j1, if_neg (by decide), if_neg hbl]
      rfl
end Go.Proofs.Ytmpahimeljbliaa.ZipWalk
