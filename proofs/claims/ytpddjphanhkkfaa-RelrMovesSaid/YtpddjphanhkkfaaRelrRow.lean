/- Bits of a row. No condition. -/
import Derived.Test.YtpddjphanhkkfaaRelrEncPure
namespace Go.Proofs.Ytpddjphanhkkfaa.RelrRow
open Go.RowKit Go.Proofs.Ytpddjphanhkkfaa.RelrEncPure

theorem or_comm (a b : Int) : Go.bits .or .u64 a b = Go.bits .or .u64 b a := by
  unfold Go.bits
  simp only [BitVec.or_comm]
theorem pow_mono {a b : Nat} (h : a ≤ b) : (2 : Int) ^ a ≤ 2 ^ b := by
  have := Nat.pow_le_pow_right (n := 2) (by decide) h
  have h2 : ((2 ^ a : Nat) : Int) ≤ ((2 ^ b : Nat) : Int) := Int.ofNat_le.2 this
  rw [Int.natCast_pow, Int.natCast_pow] at h2
  exact h2
theorem pow_small63 (e : Nat) (h : e ≤ 62) : (2 : Int) ^ (e + 1) ≤ 9223372036854775808 := pow_mono (a := e + 1) (b := 63) (by omega)
/-- A bit above all that there are. -/
theorem or_pow (acc : Int) (e : Nat) (h0 : 0 ≤ acc) (h1 : acc < 2 ^ e) (he : e ≤ 63) : Go.bits .or .u64 acc (2 ^ e) = acc + 2 ^ e := by
  have hp : (2 : Int) ^ e ≤ 9223372036854775808 := pow_mono (a := e) (b := 63) he
  have hpp : (0 : Int) < 2 ^ e := Int.pow_pos (by decide)
  rw [or_comm, bits_join .u64 64 (by decide) (fun n h1 h2 => by rw [IntKind.wrap_u64]; omega) e (2 ^ e) acc (by omega) (by simp) (by omega) h0 h1 (by omega)]
  omega
theorem next_bit (acc frm p p' : Int) (e : Nat) (hp : p = frm + 8 * e) (h : 8 ≤ p' - p) (ha : acc < 2 ^ (e + 1)) : acc + 2 ^ (e + 1) < 2 ^ ((p' - frm) / 8 + 1).toNat := by
  have h1 : e + 2 ≤ ((p' - frm) / 8 + 1).toNat := by omega
  have h2 : (2 : Int) ^ (e + 2) ≤ 2 ^ ((p' - frm) / 8 + 1).toNat := pow_mono h1
  have h3 : (2 : Int) ^ (e + 2) = 2 ^ (e + 1) * 2 := Int.pow_succ _ _
  clear h1
  generalize (2 : Int) ^ ((p' - frm) / 8 + 1).toNat = x at h2
  generalize (2 : Int) ^ (e + 2) = y at h2 h3
  omega
end Go.Proofs.Ytpddjphanhkkfaa.RelrRow
