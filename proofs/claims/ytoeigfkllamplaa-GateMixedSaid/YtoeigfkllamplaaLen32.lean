/-
  The library's Len32 in powers of two. Conditions: a number of 32 bits, not 0.
-/
import Derived.Test.YtoeigfkllamplaaSq
import Derived.Test.YtoeigfkllamplaaLenq
import Derived.Lib.ItoaNum
namespace Go.Proofs.Ytoeigfkllamplaa
open Go.RowKit

theorem len32_t (d : Int) (w : World) (h0 : 0 < d) (h1 : d < 4294967296) :
    Calls Try.prog 24 #[.int .u32 d] w fun e w' => ∃ n : Nat, e = .returned (.int .i64 ((n : Int) + 1)) ∧ n < 32 ∧ (2 : Int) ^ n ≤ d ∧ d < (2 : Int) ^ (n + 1) ∧ w' = w := by
  refine (len32_q d w (by omega) (by omega)).mono ?_
  rintro e w' ⟨rfl, rfl⟩
  have hb := Lib.bitLenAux_bounds 64 d.toNat (by omega) (by omega)
  have hle := Lib.bitLen_le d.toNat 32 (by omega) (by omega)
  obtain ⟨b1, b2, b3⟩ := hb
  have e1 : Lib.bitLen d.toNat = (Lib.bitLen d.toNat - 1) + 1 := by unfold Lib.bitLen; omega
  refine ⟨Lib.bitLen d.toNat - 1, by rw [show ((Lib.bitLen d.toNat : Nat) : Int) = ((Lib.bitLen d.toNat - 1 : Nat) : Int) + 1 by omega], by omega, ?_, ?_, rfl⟩
  · have : ((2 ^ (Lib.bitLen d.toNat - 1) : Nat) : Int) ≤ (d.toNat : Int) := Int.ofNat_le.2 b2
    rw [Int.natCast_pow] at this
    have e2 : ((d.toNat : Nat) : Int) = d := by omega
    rw [e2] at this
    exact this
  · have : ((d.toNat : Nat) : Int) < ((2 ^ Lib.bitLen d.toNat : Nat) : Int) := Int.ofNat_lt.2 b3
    rw [Int.natCast_pow] at this
    have e2 : ((d.toNat : Nat) : Int) = d := by omega
    rw [e2] at this
    rw [← e1]
    exact this
end Go.Proofs.Ytoeigfkllamplaa
