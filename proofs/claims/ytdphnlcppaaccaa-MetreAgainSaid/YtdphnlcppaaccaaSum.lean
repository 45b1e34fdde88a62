/-
  Plain laws on changes of a metre: the tick of a bar by its part is the reference's sum. No program in sight.
-/
import Derived.Test.YtdphnlcppaaccaaParts
namespace Go.Proofs.Ytdphnlcppaaccaa
open Go.RowKit

theorem mb_mono {ms : List Met} (hv : Valid ms) {i j : Nat} (hij : i ≤ j) (hj : j < ms.length) : mb ms i ≤ mb ms j := by
  induction j with
  | zero => obtain rfl : i = 0 := by omega
            exact Int.le_refl _
  | succ j ih =>
    rcases Nat.lt_or_ge i (j + 1) with h | h
    · have := hv.up j hj; have := ih (by omega) (by omega); omega
    · obtain rfl : i = j + 1 := by omega
      exact Int.le_refl _
theorem mb_lt {ms : List Met} (hv : Valid ms) {i j : Nat} (hij : i < j) (hj : j < ms.length) : mb ms i < mb ms j := by
  have := hv.up i (by omega)
  have := mb_mono hv (i := i + 1) (j := j) (by omega) hj
  omega

/-- Bar is among the bars of part k. -/
def InPart (ms : List Met) (k : Nat) (bar : Int) : Prop := mb ms k ≤ bar ∧ bar ≤ lastN ms k

theorem lastN_le {ms : List Met} (hv : Valid ms) {k : Nat} (hk : k < ms.length) : mb ms k ≤ lastN ms k ∧ lastN ms k ≤ 1048576 := by
  unfold lastN
  split
  · rename_i h
    have := hv.up k h
    have := (hv.fine (k + 1) h).b1
    omega
  · have := (hv.fine k hk).b1
    omega

theorem ofI_of_part {ms : List Met} (hv : Valid ms) {k : Nat} (hk : k < ms.length) {bar : Int} (hb : InPart ms k bar) (j : Nat) (hj : k < j) (hjn : j ≤ ms.length) : ofI ms bar j = k := by
  induction j with
  | zero => omega
  | succ j ih =>
    unfold ofI
    rcases Nat.lt_or_ge k j with h | h
    · have h2 : ¬ mb ms j ≤ bar := by
        have h3 := hb.2
        unfold lastN at h3
        rw [if_pos (by omega)] at h3
        have := mb_mono hv (i := k + 1) (j := j) (by omega) (by omega)
        omega
      rw [if_neg h2]
      exact ih h (by omega)
    · obtain rfl : j = k := by omega
      rw [if_pos hb.1]

theorem bgn_head {ms : List Met} (hv : Valid ms) {k : Nat} (hk : k < ms.length) {bar : Int} (hb : mb ms k ≤ bar) (j : Nat) (hj : j ≤ k) : bgn ms bar j = tickN ms j := by
  induction j with
  | zero => rfl
  | succ j ih =>
    have e : eN ms bar j = mb ms (j + 1) := by
      unfold eN
      rw [if_pos (by omega)]
      have := mb_mono hv (i := j + 1) (j := k) hj hk
      omega
    have := hv.up j (by omega)
    unfold bgn tickN
    rw [e, if_pos this, ih (by omega), Int.mul_assoc]

theorem bgn_tail {ms : List Met} (hv : Valid ms) {k : Nat} (hk : k < ms.length) {bar : Int} (hb : mb ms k ≤ bar) (hb2 : k + 1 < ms.length → bar ≤ mb ms (k + 1)) (j : Nat) (hj : k < j) (hjn : j ≤ ms.length) :
    bgn ms bar j = tickN ms k + (bar - mb ms k) * (mt ms k * mu ms k) := by
  induction j with
  | zero => omega
  | succ j ih =>
    rcases Nat.lt_or_ge k j with h | h
    · have h2 : ¬ mb ms j < eN ms bar j := by
        have := eN_le ms bar j
        have := hb2 (by omega)
        have := mb_mono hv (i := k + 1) (j := j) (by omega) (by omega)
        omega
      unfold bgn
      rw [if_neg h2]
      exact ih h (by omega)
    · obtain rfl : j = k := by omega
      have e : eN ms bar j = bar := by
        unfold eN
        split
        · rename_i h3; have := hb2 h3; omega
        · rfl
      unfold bgn
      rw [e, bgn_head hv hk hb j (Nat.le_refl _)]
      split
      · rw [Int.mul_assoc]
      · have : bar - mb ms j = 0 := by omega
        rw [this]; simp

/-- The tick of a bar of part k. -/
theorem bg_part {ms : List Met} (hv : Valid ms) {k : Nat} (hk : k < ms.length) {bar : Int} (hb : mb ms k ≤ bar) (hb2 : bar ≤ lastN ms k + 1) :
    bg ms bar = tickN ms k + (bar - mb ms k) * (mt ms k * mu ms k) :=
  bgn_tail hv hk hb (fun h => by unfold lastN at hb2; rw [if_pos h] at hb2; omega) ms.length hk (Nat.le_refl _)

theorem part_of_bar {ms : List Met} (hv : Valid ms) {bar : Int} (h0 : 0 ≤ bar) (h1 : bar ≤ 1048576) : ∃ k, k < ms.length ∧ InPart ms k bar := by
  have key : ∀ j, j ≤ ms.length → 0 < j → (∃ k, k < j ∧ InPart ms k bar) ∨ (j < ms.length ∧ mb ms j ≤ bar) := by
    intro j
    induction j with
    | zero => intro _ h; omega
    | succ j ih =>
      intro hj _
      have hstep : mb ms j ≤ bar → (∃ k, k < j + 1 ∧ InPart ms k bar) ∨ (j + 1 < ms.length ∧ mb ms (j + 1) ≤ bar) := fun hm => by
        by_cases hlt : j + 1 < ms.length
        · by_cases hle : mb ms (j + 1) ≤ bar
          · exact .inr ⟨hlt, hle⟩
          · exact .inl ⟨j, by omega, hm, by unfold lastN; rw [if_pos hlt]; omega⟩
        · exact .inl ⟨j, by omega, hm, by unfold lastN; rw [if_neg hlt]; omega⟩
      rcases Nat.eq_zero_or_pos j with rfl | hp
      · exact hstep (by rw [hv.zero]; exact h0)
      · rcases ih (by omega) hp with ⟨k, hk, hk2⟩ | ⟨_, h⟩
        · exact .inl ⟨k, by omega, hk2⟩
        · exact hstep h
  rcases key ms.length (Nat.le_refl _) hv.pos with h | h
  · exact h
  · omega

theorem inPart_bd {ms : List Met} (hv : Valid ms) {k : Nat} (hk : k < ms.length) {bar : Int} (hb : InPart ms k bar) : 0 ≤ bar ∧ bar ≤ 1048576 := by
  have := (hv.fine k hk).b0
  have := lastN_le hv hk
  have := hb.1
  have := hb.2
  omega
end Go.Proofs.Ytdphnlcppaaccaa
