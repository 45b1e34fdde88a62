/-
  The bars of a part as plain facts: their places, their neighbours, the part cut in two. Conditions: none but that Bars answered OK. No program in sight.
-/
import Derived.Test.YtdphnlcppaaccaaLaw2
namespace Go.Proofs.Ytdphnlcppaaccaa
open Go.RowKit

/-- What an OK answer of Bars says. -/
structure BarsOk (ms : List Met) (lo hi : Int) (x : List Int) : Prop where
  valid : Valid ms
  h0 : 0 ≤ lo
  h1 : lo ≤ hi
  h2 : hi ≤ 16777216
  up : x.Pairwise (· < ·)
  mem : ∀ t, t ∈ x ↔ IsBar ms lo hi t
  few : x.length ≤ 4096

theorem gbars_ok (ms : List Met) (lo hi : Int) : ((gBars ms lo hi).2 ≠ 0 ∧ (gBars ms lo hi).1 = []) ∨ ((gBars ms lo hi).2 = 0 ∧ BarsOk ms lo hi (gBars ms lo hi).1) := by
  unfold gBars
  by_cases hv : Valid ms
  · rw [if_pos hv]
    by_cases hr : lo < 0 ∨ hi < lo ∨ 16777216 < hi
    · unfold rBars
      rw [if_pos hr]
      exact .inl ⟨by simp, rfl⟩
    · obtain ⟨L, h1, h2, h3⟩ := rBars_spec hv (lo := lo) (hi := hi) (by omega) (by omega) (by omega)
      rw [h3]
      split
      · rename_i hl
        exact .inr ⟨rfl, hv, by omega, by omega, by omega, h1, h2, hl⟩
      · exact .inl ⟨by simp, rfl⟩
  · rw [if_neg hv]
    exact .inl ⟨by simp, rfl⟩

theorem place_bar {ms : List Met} (hv : Valid ms) {b : Int} (h0 : 0 ≤ b) (h1 : b ≤ 1048576) (h2 : bg ms b ≤ 16777216) : gPlace ms (bg ms b) = (b, 0, 0, 0) := by
  obtain ⟨k, hk, hin⟩ := part_of_bar hv h0 h1
  have hf := hv.fine k hk
  rw [gplace_r hv]
  exact place_of hv hk hin (Int.le_refl _) (by have := hf.t0; omega) (Int.le_refl _) (by have := hf.u0; omega) (by omega) h2

theorem BarsOk.bar {ms : List Met} {lo hi : Int} {x : List Int} (h : BarsOk ms lo hi x) {t : Int} (ht : t ∈ x) : ∃ b, t = bg ms b ∧ gPlace ms t = (b, 0, 0, 0) ∧ 0 ≤ b ∧ b ≤ 1048576 ∧ lo ≤ t ∧ t < hi := by
  obtain ⟨b, h0, h1, e, h2, h3⟩ := (h.mem t).1 ht
  refine ⟨b, e, ?_, h0, h1, h2, h3⟩
  rw [e]
  exact place_bar h.valid h0 h1 (by have := h.h2; omega)

theorem sorted_next {x : List Int} (h : x.Pairwise (· < ·)) {i : Nat} (hi : i + 1 < x.length) : gi x i < gi x (i + 1) ∧ ∀ y ∈ x, gi x i < y → gi x (i + 1) ≤ y := by
  have e : ∀ j (hj : j < x.length), gi x j = x[j] := fun j hj => by simp [gi, hj]
  have hp := List.pairwise_iff_getElem.1 h
  refine ⟨?_, fun y hy hlt => ?_⟩
  · rw [e i (by omega), e (i + 1) hi]
    exact hp _ _ _ _ (by omega)
  · obtain ⟨j, hj, rfl⟩ := List.getElem_of_mem hy
    rw [e i (by omega)] at hlt
    rw [e (i + 1) hi]
    rcases Nat.lt_or_ge j (i + 1) with h1 | h1
    · rcases Nat.lt_or_ge j i with h2 | h2
      · have := hp j i (by omega) (by omega) h2
        omega
      · obtain rfl : j = i := by omega
        omega
    · rcases Nat.eq_or_lt_of_le h1 with h2 | h2
      · subst h2; omega
      · have := hp (i + 1) j hi hj h2
        omega

theorem BarsOk.next {ms : List Met} {lo hi : Int} {x : List Int} (h : BarsOk ms lo hi x) {i : Nat} (hi' : i + 1 < x.length) : gi x i < gi x (i + 1) ∧ (gPlace ms (gi x (i + 1))).1 = (gPlace ms (gi x i)).1 + 1 := by
  have hs := sorted_next h.up hi'
  have m1 : gi x i ∈ x := by
    have : gi x i = x[i] := by simp [gi, (by omega : i < x.length)]
    rw [this]; exact List.getElem_mem _
  have m2 : gi x (i + 1) ∈ x := by
    have : gi x (i + 1) = x[i + 1] := by simp [gi, hi']
    rw [this]; exact List.getElem_mem _
  obtain ⟨a, ea, pa, a0, a1, a2, a3⟩ := h.bar m1
  obtain ⟨b, eb, pb, b0, b1, b2, b3⟩ := h.bar m2
  refine ⟨hs.1, ?_⟩
  rw [pa, pb]
  show b = a + 1
  have hab : a < b := (bg_lt_iff h.valid a0 (by omega) b0 (by omega)).1 (by rw [← ea, ← eb]; exact hs.1)
  rcases Int.lt_or_le (a + 1) b with hlt | hle
  · exfalso
    have g1 := bg_lt h.valid a0 (by omega : a < a + 1) (by omega)
    have g2 := bg_lt h.valid (by omega : 0 ≤ a + 1) hlt (by omega)
    have := hs.2 (bg ms (a + 1)) ((h.mem _).2 ⟨a + 1, by omega, by omega, rfl, by omega, by omega⟩) (by omega)
    omega
  · omega

theorem BarsOk.at {ms : List Met} {lo hi : Int} {x : List Int} (h : BarsOk ms lo hi x) {t : Int} (h1 : lo ≤ t) (h2 : t < hi) : t ∈ x ↔ (gPlace ms t).2.2.2 = 0 ∧ (gPlace ms t).2.1 = 0 ∧ (gPlace ms t).2.2.1 = 0 := by
  constructor
  · intro ht
    obtain ⟨b, _, e, _⟩ := h.bar ht
    rw [e]
    exact ⟨rfl, rfl, rfl⟩
  · rintro ⟨e1, e2, e3⟩
    rw [gplace_r h.valid] at e1 e2 e3
    obtain ⟨k, hk, hb, h0, h3, e, _⟩ := place_ok h.valid e1
    have hbb := inPart_bd h.valid hk hb
    rw [e2, e3] at e
    exact (h.mem t).2 ⟨_, hbb.1, hbb.2, by omega, h1, h2⟩

theorem BarsOk.cut {ms : List Met} {lo hi : Int} {x : List Int} (h : BarsOk ms lo hi x) {mid : Int} (h1 : lo ≤ mid) (h2 : mid ≤ hi) :
    (gBars ms lo mid).2 = 0 ∧ (gBars ms mid hi).2 = 0 ∧ (gBars ms lo mid).1 ++ (gBars ms mid hi).1 = x := by
  have hv := h.valid
  have h0 := h.h0
  have h3 := h.h2
  unfold gBars
  rw [if_pos hv, if_pos hv]
  obtain ⟨L, p1, m1, e1⟩ := rBars_spec hv (lo := lo) (hi := mid) (by omega) (by omega) (by omega)
  obtain ⟨M, p2, m2, e2⟩ := rBars_spec hv (lo := mid) (hi := hi) (by omega) (by omega) (by omega)
  have hp : (L ++ M).Pairwise (· < ·) := List.pairwise_append.2 ⟨p1, p2, fun a ha b hb => by
    obtain ⟨_, _, _, _, _, q1⟩ := (m1 a).1 ha
    obtain ⟨_, _, _, _, q2, _⟩ := (m2 b).1 hb
    omega⟩
  have hm : ∀ t, t ∈ L ++ M ↔ t ∈ x := fun t => by
    rw [List.mem_append, m1, m2, h.mem]
    constructor
    · rintro (⟨b, b0, b1, e, q1, q2⟩ | ⟨b, b0, b1, e, q1, q2⟩)
      · exact ⟨b, b0, b1, e, q1, by omega⟩
      · exact ⟨b, b0, b1, e, by omega, q2⟩
    · rintro ⟨b, b0, b1, e, q1, q2⟩
      rcases Int.lt_or_le t mid with h | h
      · exact .inl ⟨b, b0, b1, e, q1, h⟩
      · exact .inr ⟨b, b0, b1, e, h, q2⟩
  obtain ⟨hl, he⟩ := sorted_sub hp h.up fun t ht => (hm t).1 ht
  have hlen := h.few
  rw [List.length_append] at hl
  rw [e1, e2, if_pos (by omega), if_pos (by omega)]
  exact ⟨rfl, rfl, he fun t ht => (hm t).2 ht⟩
end Go.Proofs.Ytdphnlcppaaccaa
