/-
  Places and ticks as plain arithmetic: a tick's place by its part, and back; the order of places. Conditions: valid changes. No program in sight.
-/
import Derived.Test.YtdphnlcppaaccaaBrs
namespace Go.Proofs.Ytdphnlcppaaccaa
open Go.RowKit

theorem part_uniq {ms : List Met} (hv : Valid ms) {k j : Nat} (hk : k < ms.length) (hj : j < ms.length) {bar : Int} (h1 : InPart ms k bar) (h2 : InPart ms j bar) : k = j :=
  (ofI_of_part hv hk h1 ms.length hk (Nat.le_refl _)).symm.trans (ofI_of_part hv hj h2 ms.length hj (Nat.le_refl _))

theorem bg_nn {ms : List Met} (hv : Valid ms) {bar : Int} (h : bar ≤ 1048577) : 0 ≤ bg ms bar := (bgn_bd hv h ms.length (Nat.le_refl _)).1

theorem place_ok {ms : List Met} (hv : Valid ms) {tick : Int} (h : (rPlace ms tick).2.2.2 = 0) :
    ∃ k, k < ms.length ∧ InPart ms k (rPlace ms tick).1 ∧ 0 ≤ tick ∧ tick ≤ 16777216 ∧ tick = bg ms (rPlace ms tick).1 + (rPlace ms tick).2.1 * mu ms k + (rPlace ms tick).2.2.1 ∧
      0 ≤ (rPlace ms tick).2.1 ∧ (rPlace ms tick).2.1 < mt ms k ∧ 0 ≤ (rPlace ms tick).2.2.1 ∧ (rPlace ms tick).2.2.1 < mu ms k := by
  by_cases hr : tick < 0 ∨ 16777216 < tick
  · unfold rPlace at h
    rw [if_pos hr] at h
    simp at h
  have h0 : 0 ≤ tick := by omega
  have h1 : tick ≤ 16777216 := by omega
  obtain ⟨k, hk, hk1, hk2⟩ := last_part hv h0
  have hlg : 1 ≤ lg ms k := (long_bd (hv.fine k hk)).1
  have hu := (hv.fine k hk).u0
  have hend : tick < endN ms k := by
    by_cases hs : k + 1 < ms.length
    · have := hk2 hs
      have := endN_next hs
      omega
    · rcases Int.lt_or_le tick (endN ms k) with h' | h'
      · exact h'
      · exfalso
        have e := atB_part hv hk hk1 hk2 ms.length hk (Nat.le_refl _)
        have hl : lastN ms k = 1048576 := by unfold lastN; rw [if_neg hs]
        have hq : lastN ms k + 1 - mb ms k ≤ (tick - tickN ms k) / lg ms k := (Int.le_ediv_iff_mul_le (by omega)).2 (by unfold endN at h'; omega)
        unfold rPlace at h
        rw [if_neg hr, if_pos (by omega)] at h
        simp at h
  have e := rPlace_part hv hk h0 h1 hk1 hend
  have hin := bar_in hv hk hk1 hend
  have hb := bg_part hv hk (bar := mb ms k + (tick - tickN ms k) / lg ms k) hin.1 (by omega)
  rw [e]
  dsimp only
  have r0 := Int.emod_nonneg (tick - tickN ms k) (b := lg ms k) (by omega)
  have r1 := Int.emod_lt_of_pos (tick - tickN ms k) (b := lg ms k) (by omega)
  refine ⟨k, hk, hin, h0, h1, ?_, Int.ediv_nonneg r0 (by omega), Int.ediv_lt_of_lt_mul (by omega) (by unfold lg at r1; exact r1), Int.emod_nonneg _ (by omega), Int.emod_lt_of_pos _ (by omega)⟩
  rw [hb]
  have e1 : (tick - tickN ms k) % lg ms k % mu ms k = (tick - tickN ms k) % mu ms k := Int.emod_emod_of_dvd _ ⟨mt ms k, by unfold lg; rw [Int.mul_comm]⟩
  have e2 := Int.mul_ediv_add_emod ((tick - tickN ms k) % lg ms k) (mu ms k)
  have e3 := Int.mul_ediv_add_emod (tick - tickN ms k) (lg ms k)
  have e4 : (mb ms k + (tick - tickN ms k) / lg ms k - mb ms k) * (mt ms k * mu ms k) = lg ms k * ((tick - tickN ms k) / lg ms k) := by
    rw [show mb ms k + (tick - tickN ms k) / lg ms k - mb ms k = (tick - tickN ms k) / lg ms k by omega, Int.mul_comm]
    rfl
  rw [e4, Int.mul_comm ((tick - tickN ms k) % lg ms k / mu ms k)]
  omega

theorem beat_bd {a b u c : Int} (h0 : 0 ≤ a) (h1 : a < b) (h2 : 0 ≤ c) (h3 : c < u) : 0 ≤ a * u + c ∧ a * u + c < b * u := by
  have h4 := Int.mul_nonneg h0 (by omega : 0 ≤ u)
  have h5 := Int.mul_le_mul_of_nonneg_right (by omega : a + 1 ≤ b) (by omega : 0 ≤ u)
  rw [Int.add_mul, Int.one_mul] at h5
  omega

theorem place_of {ms : List Met} (hv : Valid ms) {k : Nat} (hk : k < ms.length) {b c d t : Int} (hb : InPart ms k b) (c0 : 0 ≤ c) (c1 : c < mt ms k) (d0 : 0 ≤ d) (d1 : d < mu ms k) (ht : t = bg ms b + c * mu ms k + d) (h1 : t ≤ 16777216) :
    rPlace ms t = (b, c, d, 0) := by
  have hbb := inPart_bd hv hk hb
  have hlast := lastN_le hv hk
  have hn := bg_nn hv (bar := b) (by omega)
  have hcd := beat_bd c0 c1 d0 d1
  have hg := bg_part hv hk (bar := b) hb.1 (by have := hb.2; omega)
  have hlg : 1 ≤ lg ms k := (long_bd (hv.fine k hk)).1
  have hu := (hv.fine k hk).u0
  have hx : t - tickN ms k = (b - mb ms k) * lg ms k + (c * mu ms k + d) := by unfold lg; omega
  have hb1 := hb.1
  have hb2 := hb.2
  have hcg : 0 ≤ c * mu ms k + d ∧ c * mu ms k + d < lg ms k := hcd
  have hq0 := Int.mul_nonneg (by omega : 0 ≤ b - mb ms k) (by omega : 0 ≤ lg ms k)
  have hend : t < endN ms k := by
    unfold endN
    have := Int.mul_le_mul_of_nonneg_right (by omega : b - mb ms k + 1 ≤ lastN ms k + 1 - mb ms k) (by omega : 0 ≤ lg ms k)
    rw [Int.add_mul, Int.one_mul] at this
    unfold lg at this hx ⊢
    omega
  have e := rPlace_part hv hk (by omega) h1 (by omega) hend
  rw [e, hx]
  have q1 : ((b - mb ms k) * lg ms k + (c * mu ms k + d)) / lg ms k = b - mb ms k := by
    rw [Int.add_comm, Int.add_mul_ediv_right _ _ (by omega), Int.ediv_eq_zero_of_lt hcg.1 hcg.2]
    omega
  have q2 : ((b - mb ms k) * lg ms k + (c * mu ms k + d)) % lg ms k = c * mu ms k + d := by
    rw [Int.add_comm, Int.add_mul_emod_self_right, Int.emod_eq_of_lt hcg.1 hcg.2]
  have q3 : (c * mu ms k + d) / mu ms k = c := by
    rw [Int.add_comm, Int.add_mul_ediv_right _ _ (by omega), Int.ediv_eq_zero_of_lt d0 d1]
    omega
  have q4 : ((b - mb ms k) * lg ms k + (c * mu ms k + d)) % mu ms k = d := by
    have : (b - mb ms k) * lg ms k + (c * mu ms k + d) = d + ((b - mb ms k) * mt ms k + c) * mu ms k := by
      unfold lg
      rw [Int.add_mul, Int.mul_assoc]
      omega
    rw [this, Int.add_mul_emod_self_right, Int.emod_eq_of_lt d0 d1]
  rw [q1, q2, q3, q4]
  rw [show mb ms k + (b - mb ms k) = b by omega]

theorem tick_part {ms : List Met} (hv : Valid ms) {k : Nat} (hk : k < ms.length) {bar : Int} (hb : InPart ms k bar) (beat off : Int) :
    rTick ms bar beat off = if beat < 0 ∨ mt ms k ≤ beat ∨ off < 0 ∨ mu ms k ≤ off then (0, 1) else if 16777216 < bg ms bar + beat * mu ms k + off then (0, 70) else (bg ms bar + beat * mu ms k + off, 0) := by
  have hbb := inPart_bd hv hk hb
  unfold rTick
  rw [if_neg (by omega), ofI_of_part hv hk hb ms.length hk (Nat.le_refl _)]
  rfl

/-- What Tick answers is an error and 0, or a tick whose place is what was asked. -/
theorem tick_ok {ms : List Met} (hv : Valid ms) (bar beat off : Int) :
    ((rTick ms bar beat off).2 ≠ 0 ∧ (rTick ms bar beat off).1 = 0) ∨
    ((rTick ms bar beat off).2 = 0 ∧ 0 ≤ (rTick ms bar beat off).1 ∧ (rTick ms bar beat off).1 ≤ 16777216 ∧ rPlace ms (rTick ms bar beat off).1 = (bar, beat, off, 0)) := by
  by_cases hr : bar < 0 ∨ 1048576 < bar
  · unfold rTick
    rw [if_pos hr]
    exact .inl ⟨by simp, rfl⟩
  · obtain ⟨k, hk, hb⟩ := part_of_bar hv (bar := bar) (by omega) (by omega)
    rw [tick_part hv hk hb]
    by_cases h1 : beat < 0 ∨ mt ms k ≤ beat ∨ off < 0 ∨ mu ms k ≤ off
    · rw [if_pos h1]
      exact .inl ⟨by simp, rfl⟩
    · rw [if_neg h1]
      by_cases h2 : 16777216 < bg ms bar + beat * mu ms k + off
      · rw [if_pos h2]
        exact .inl ⟨by simp, rfl⟩
      · rw [if_neg h2]
        have hcd := beat_bd (a := beat) (b := mt ms k) (u := mu ms k) (c := off) (by omega) (by omega) (by omega) (by omega)
        have hn := bg_nn hv (bar := bar) (by omega)
        refine .inr ⟨rfl, ?_, ?_, place_of hv hk hb (by omega) (by omega) (by omega) (by omega) rfl ?_⟩
        · show 0 ≤ bg ms bar + beat * mu ms k + off
          omega
        · show bg ms bar + beat * mu ms k + off ≤ 16777216
          omega
        · show bg ms bar + beat * mu ms k + off ≤ 16777216
          omega

theorem tick_of_place {ms : List Met} (hv : Valid ms) {tick : Int} (h : (rPlace ms tick).2.2.2 = 0) : rTick ms (rPlace ms tick).1 (rPlace ms tick).2.1 (rPlace ms tick).2.2.1 = (tick, 0) := by
  obtain ⟨k, hk, hb, h0, h1, e, c0, c1, d0, d1⟩ := place_ok hv h
  rw [tick_part hv hk hb, if_neg (by omega), if_neg (by omega), ← e]

/-- Two places, the order of their ticks, and what follows a place. -/
theorem place_lt {ms : List Met} (hv : Valid ms) {a b : Int} (ha : (rPlace ms a).2.2.2 = 0) (hb : (rPlace ms b).2.2.2 = 0) :
    ((rPlace ms a).1 < (rPlace ms b).1 → a < b ∧ (b = a + 1 → (rPlace ms b).1 = (rPlace ms a).1 + 1 ∧ (rPlace ms b).2.1 = 0 ∧ (rPlace ms b).2.2.1 = 0)) ∧
    ((rPlace ms a).1 = (rPlace ms b).1 → (rPlace ms a).2.1 < (rPlace ms b).2.1 → a < b ∧ (b = a + 1 → (rPlace ms b).2.1 = (rPlace ms a).2.1 + 1 ∧ (rPlace ms b).2.2.1 = 0)) ∧
    ((rPlace ms a).1 = (rPlace ms b).1 → (rPlace ms a).2.1 = (rPlace ms b).2.1 → b - a = (rPlace ms b).2.2.1 - (rPlace ms a).2.2.1) := by
  obtain ⟨k, hk, hka, a0, a1, ea, c0, c1, d0, d1⟩ := place_ok hv ha
  obtain ⟨j, hj, hjb, b0, b1, eb, v0, v1, w0, w1⟩ := place_ok hv hb
  generalize rPlace ms a = A at *
  generalize rPlace ms b = B at *
  have hab := beat_bd c0 c1 d0 d1
  have hbb := beat_bd v0 v1 w0 w1
  have hA := inPart_bd hv hk hka
  have hB := inPart_bd hv hj hjb
  refine ⟨fun h => ?_, fun h h' => ?_, fun h h' => ?_⟩
  · have hs := bg_step hv hk hka
    have hm : bg ms (A.1 + 1) + (B.1 - (A.1 + 1)) ≤ bg ms B.1 := by
      have := bg_mono hv (B.1 - (A.1 + 1)).toNat (a := A.1 + 1) (by omega) (by omega)
      rw [show ((B.1 - (A.1 + 1)).toNat : Int) = B.1 - (A.1 + 1) by omega, show A.1 + 1 + (B.1 - (A.1 + 1)) = B.1 by omega] at this
      exact this
    unfold lg at hs
    refine ⟨by omega, fun hn => ?_⟩
    have hz : B.2.1 * mu ms j + B.2.2.1 = 0 := by omega
    have hz1 : 0 ≤ B.2.1 * mu ms j := Int.mul_nonneg v0 (by omega)
    have hz2 : B.2.1 * mu ms j = 0 := by omega
    rcases Int.mul_eq_zero.1 hz2 with h3 | h3
    · exact ⟨by omega, h3, by omega⟩
    · omega
  · obtain rfl : k = j := part_uniq hv hk hj hka (h ▸ hjb)
    have h5 := Int.mul_le_mul_of_nonneg_right (by omega : A.2.1 + 1 ≤ B.2.1) (by omega : 0 ≤ mu ms k)
    rw [Int.add_mul, Int.one_mul] at h5
    rw [h] at ea
    refine ⟨by omega, fun hn => ?_⟩
    rcases Int.lt_or_le (A.2.1 + 1) B.2.1 with h6 | h6
    · have h7 := Int.mul_le_mul_of_nonneg_right (by omega : A.2.1 + 1 + 1 ≤ B.2.1) (by omega : 0 ≤ mu ms k)
      rw [Int.add_mul, Int.add_mul, Int.one_mul] at h7
      omega
    · have h8 : B.2.1 = A.2.1 + 1 := by omega
      rw [h8, Int.add_mul, Int.one_mul] at eb
      exact ⟨h8, by omega⟩
  · obtain rfl : k = j := part_uniq hv hk hj hka (h ▸ hjb)
    rw [h, h'] at ea
    omega
end Go.Proofs.Ytdphnlcppaaccaa
