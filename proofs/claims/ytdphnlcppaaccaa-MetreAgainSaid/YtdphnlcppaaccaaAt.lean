/-
  Plain laws on changes of a metre: the place of a tick by its part is the reference's. No program in sight.
-/
import Derived.Test.YtdphnlcppaaccaaSum
import Derived.Test.YtdphnlcppaaccaaRefd
namespace Go.Proofs.Ytdphnlcppaaccaa
open Go.RowKit

def lg (ms : List Met) (k : Nat) : Int := mt ms k * mu ms k
/-- The tick at which the part of change k ends. -/
def endN (ms : List Met) (k : Nat) : Int := tickN ms k + (lastN ms k + 1 - mb ms k) * lg ms k

theorem endN_next {ms : List Met} {k : Nat} (hk : k + 1 < ms.length) : endN ms k = tickN ms (k + 1) := by
  unfold endN lastN lg
  rw [if_pos hk]
  show _ = tickN ms k + _
  rw [show mb ms (k + 1) - 1 + 1 - mb ms k = mb ms (k + 1) - mb ms k by omega]

theorem tick_lt_end {ms : List Met} (hv : Valid ms) {k : Nat} (hk : k < ms.length) : tickN ms k < endN ms k ∧ endN ms k ≤ tickN ms k + 2199025352704 := by
  have h := lastN_le hv hk
  have hl := long_bd (hv.fine k hk)
  have f := (hv.fine k hk).b0
  have h1 : 1 * 1 ≤ (lastN ms k + 1 - mb ms k) * lg ms k := Int.mul_le_mul (by omega) hl.1 (by omega) (by omega)
  have h2 := (mul_bd (a := lastN ms k + 1 - mb ms k) (A := 1048577) (b := lg ms k) (by omega) (by omega) (by unfold lg; omega) hl.2).2
  unfold endN
  omega

theorem tickN_mono {ms : List Met} (hv : Valid ms) {i j : Nat} (hij : i ≤ j) (hj : j < ms.length) : tickN ms i ≤ tickN ms j := by
  induction j with
  | zero => obtain rfl : i = 0 := by omega
            exact Int.le_refl _
  | succ j ih =>
    rcases Nat.lt_or_ge i (j + 1) with h | h
    · have := ih (by omega) (by omega)
      have h2 := (tick_lt_end hv (k := j) (by omega)).1
      rw [endN_next hj] at h2
      omega
    · obtain rfl : i = j + 1 := by omega
      exact Int.le_refl _

theorem bg_head {ms : List Met} (hv : Valid ms) {k : Nat} (hk : k < ms.length) : bgn ms (mb ms k) ms.length = tickN ms k := by
  have h := bg_part hv hk (Int.le_refl (mb ms k)) (by have := lastN_le hv hk; omega)
  unfold bg at h
  rw [h, show mb ms k - mb ms k = 0 by omega, Int.zero_mul, Int.add_zero]

/-- The reference's bar of a tick, where the tick lies in part k or behind it, if it is the last. -/
theorem atB_part {ms : List Met} (hv : Valid ms) {k : Nat} (hk : k < ms.length) {tick : Int} (h1 : tickN ms k ≤ tick) (h2 : k + 1 < ms.length → tick < tickN ms (k + 1)) (j : Nat) (hj : k < j) (hjn : j ≤ ms.length) :
    atB ms tick j = mb ms k + (tick - tickN ms k) / lg ms k := by
  induction j with
  | zero => omega
  | succ j ih =>
    unfold atB
    rw [bg_head hv (by omega)]
    rcases Nat.lt_or_ge k j with h | h
    · have h3 := h2 (by omega)
      have h4 := tickN_mono hv (i := k + 1) (j := j) (by omega) (by omega)
      rw [if_neg (by omega)]
      exact ih h (by omega)
    · obtain rfl : j = k := by omega
      rw [if_pos h1]
      rfl

/-- A tick in part k: its bar is of the part. -/
theorem bar_in {ms : List Met} (hv : Valid ms) {k : Nat} (hk : k < ms.length) {tick : Int} (h1 : tickN ms k ≤ tick) (h2 : tick < endN ms k) :
    mb ms k ≤ mb ms k + (tick - tickN ms k) / lg ms k ∧ mb ms k + (tick - tickN ms k) / lg ms k ≤ lastN ms k := by
  have hl : 1 ≤ lg ms k := (long_bd (hv.fine k hk)).1
  have h0 : 0 ≤ (tick - tickN ms k) / lg ms k := Int.ediv_nonneg (by omega) (by omega)
  have h3 : (tick - tickN ms k) / lg ms k < lastN ms k + 1 - mb ms k := Int.ediv_lt_of_lt_mul (by omega) (by unfold endN at h2; omega)
  omega

theorem rPlace_part {ms : List Met} (hv : Valid ms) {k : Nat} (hk : k < ms.length) {tick : Int} (h0 : 0 ≤ tick) (ht : tick ≤ 16777216) (h1 : tickN ms k ≤ tick) (h2 : tick < endN ms k) :
    rPlace ms tick = (mb ms k + (tick - tickN ms k) / lg ms k, (tick - tickN ms k) % lg ms k / mu ms k, (tick - tickN ms k) % mu ms k, 0) := by
  have hl : 1 ≤ lg ms k := (long_bd (hv.fine k hk)).1
  have hb := bar_in hv hk h1 h2
  have hle := (lastN_le hv hk).2
  have ha := atB_part hv hk h1 (fun h => by rw [← endN_next h]; exact h2) ms.length hk (Nat.le_refl _)
  have ho := ofI_of_part hv hk (bar := mb ms k + (tick - tickN ms k) / lg ms k) hb ms.length hk (Nat.le_refl _)
  have hg : bgn ms (mb ms k + (tick - tickN ms k) / lg ms k) ms.length = _ := bg_part hv hk hb.1 (by omega)
  unfold rPlace
  rw [if_neg (by omega), ha, if_neg (by omega), ho, hg]
  have e : tick - (tickN ms k + (mb ms k + (tick - tickN ms k) / lg ms k - mb ms k) * (mt ms k * mu ms k)) = (tick - tickN ms k) % lg ms k := by
    have h3 := Int.mul_ediv_add_emod (tick - tickN ms k) (lg ms k)
    rw [Int.mul_comm] at h3
    rw [show mb ms k + (tick - tickN ms k) / lg ms k - mb ms k = (tick - tickN ms k) / lg ms k by omega]
    show tick - (tickN ms k + (tick - tickN ms k) / lg ms k * lg ms k) = _
    omega
  rw [e, Int.emod_emod_of_dvd _ ⟨mt ms k, by unfold lg; rw [Int.mul_comm]⟩]

theorem rPlace_none {ms : List Met} (hv : Valid ms) {tick : Int} (h0 : 0 ≤ tick) (ht : tick ≤ 16777216) (h : ∀ k, k < ms.length → endN ms k ≤ tick) : rPlace ms tick = (0, 0, 0, 70) := by
  have hp := hv.pos
  have hk : ms.length - 1 < ms.length := by omega
  have h1 := h _ hk
  have hl : 1 ≤ lg ms (ms.length - 1) := (long_bd (hv.fine _ hk)).1
  have ht' := (tick_lt_end hv hk).1
  have ha := atB_part hv hk (tick := tick) (by omega) (fun h => by omega) ms.length hk (Nat.le_refl _)
  have hla : lastN ms (ms.length - 1) = 1048576 := by unfold lastN; rw [if_neg (by omega)]
  have h3 : lastN ms (ms.length - 1) + 1 - mb ms (ms.length - 1) ≤ (tick - tickN ms (ms.length - 1)) / lg ms (ms.length - 1) :=
    (Int.le_ediv_iff_mul_le (by omega)).2 (by unfold endN at h1; omega)
  unfold rPlace
  rw [if_neg (by omega), ha, if_pos (by omega)]
end Go.Proofs.Ytdphnlcppaaccaa
