/-
  A loop comes back: the last loop that the orders show, and what the samples behind show as long as nothing is ordered, as plain data.
-/
import Derived.Test.YtjkclplnflaplaaLaw2
namespace Go.Proofs.Ytjkclplnflaplaa
open Go.RowKit

/-- The last order about a loop that does not come behind a sample, among the first k. -/
def lopK (l : List Ord) (t : Int) : Nat → Ord
  | 0 => o0
  | k + 1 => if ((l.getD k o0).kind = 4 ∨ (l.getD k o0).kind = 5) ∧ (l.getD k o0).at_ ≤ t then l.getD k o0 else lopK l t k
/-- When the next order comes. -/
def nxtK (l : List Ord) (t : Int) : Nat → Int
  | 0 => 1099511627777
  | k + 1 => if t < oT l k then min (nxtK l t k) (oT l k) else nxtK l t k
def LopOf (s : St) (x : Ord) : Prop := s.lon = decide (x.kind = 4) ∧ (s.lon = true → s.la = x.a ∧ s.lb = x.b)
theorem LopOf.adv {s : St} {x : Ord} (h : LopOf s x) (n : Int) : LopOf (advS s n) x := by
  obtain ⟨p, e⟩ := advS_eq s n
  rw [e]
  exact h
theorem run_lop {l : List Ord} (hg : GoodTo l l.length) (t : Int) (k : Nat) (hk : k ≤ cutK l t) (hl : cutK l t ≤ l.length) : LopOf (runS l k) (lopK l t k) := by
  induction k with
  | zero => exact ⟨rfl, fun h => by cases h⟩
  | succ k ih =>
    have hR := hg.1 k (by omega)
    have h := (ih (by omega)).adv (oT l k - nowK l k)
    have hle : (l.getD k o0).at_ ≤ t := cut_le t (by omega)
    unfold runS lopK
    generalize advS (runS l k) (oT l k - nowK l k) = s at h
    generalize l.getD k o0 = x at *
    obtain ⟨xt, xk, xa, xb⟩ := x
    obtain ⟨_, _, hc⟩ := hR
    dsimp only at *
    rcases hc with ⟨rfl | rfl | rfl, _, _⟩ | ⟨rfl, _, _, _⟩ | ⟨rfl | rfl, _, _, _⟩ <;> first
      | (rw [if_pos ⟨.inl rfl, hle⟩]; exact ⟨rfl, fun _ => ⟨rfl, rfl⟩⟩)
      | (rw [if_pos ⟨.inr rfl, hle⟩]; exact ⟨rfl, fun h => by cases h⟩)
      | (rw [if_neg (fun h => absurd h.1 (by decide))]; exact h)
theorem lop_tail {l : List Ord} (hg : GoodTo l l.length) (t : Int) (k : Nat) (hk : cutK l t ≤ k) (hl : k ≤ l.length) : lopK l t k = lopK l t (cutK l t) := by
  induction k with
  | zero => obtain h : cutK l t = 0 := by omega
            rw [h]
  | succ k ih =>
    rcases Nat.lt_or_ge (cutK l t) (k + 1) with h | h
    · rw [← ih (by omega) (by omega)]
      show (if _ then _ else _) = _
      have := cut_gt hg (t := t) (i := k) (by omega) (by omega)
      unfold oT at this
      rw [if_neg (by omega)]
    · obtain h2 : cutK l t = k + 1 := by omega
      rw [h2]
theorem at_lop {l : List Ord} (hg : GoodTo l l.length) (t : Int) : LopOf (atS l t) (lopK l t l.length) := by
  have hl := cut_len l t
  rw [lop_tail hg t l.length hl (Nat.le_refl _)]
  exact (run_lop hg t (cutK l t) (Nat.le_refl _) hl).adv (t - nowK l (cutK l t))
theorem nxt_le (l : List Ord) (t : Int) (k : Nat) : nxtK l t k ≤ 1099511627777 ∧ ∀ i, i < k → t < oT l i → nxtK l t k ≤ oT l i := by
  induction k with
  | zero => exact ⟨Int.le_refl _, fun i hi => by omega⟩
  | succ k ih =>
    obtain ⟨h1, h2⟩ := ih
    unfold nxtK
    split
    · refine ⟨by omega, fun i hi ht => ?_⟩
      rcases Nat.lt_or_ge i k with h | h
      · have := h2 i h ht; omega
      · obtain rfl : i = k := by omega
        omega
    · refine ⟨h1, fun i hi ht => ?_⟩
      rcases Nat.lt_or_ge i k with h | h
      · exact h2 i h ht
      · obtain rfl : i = k := by omega
        omega
theorem nxt_gt (l : List Ord) {t : Int} (ht : t ≤ 1099511627776) (k : Nat) : t < nxtK l t k := by
  induction k with
  | zero => show t < 1099511627777; omega
  | succ k ih =>
    unfold nxtK
    split
    · omega
    · exact ih
theorem cut_same {l : List Ord} {t m : Int} (h0 : t ≤ m) (h1 : m < nxtK l t l.length) : cutK l m = cutK l t := by
  refine (cut_uniq (cut_len l t) (fun i hi => by have := cut_le t hi; omega) (fun h => ?_)).symm
  have := cut_spec t h
  have := (nxt_le l t l.length).2 _ h this
  omega
theorem now_cut {l : List Ord} {t : Int} (h0 : 0 ≤ t) : nowK l (cutK l t) ≤ t := by
  cases hc : cutK l t with
  | zero => exact h0
  | succ j => exact cut_le t (by omega)
theorem at_same {l : List Ord} (hg : GoodTo l l.length) {t m : Int} (h00 : 0 ≤ t) (h0 : t ≤ m) (h1 : cutK l m = cutK l t) : atS l m = advS (atS l t) (m - t) := by
  have hb := now_bd hg (cut_len l t)
  have hok := (run_ok hg (cutK l t) (cut_len l t)).ok (by omega)
  have hn := now_cut (l := l) h00
  unfold atS
  rw [h1, advS_add hok (by omega) (by omega)]
  congr 1
  omega
/-- Where a loop's samples lie behind so many. -/
theorem adv_still {s : St} (hr : s.roll = false) (n : Int) : (advS s n).pos = s.pos ∧ (advS s n).roll = s.roll := by rw [advS_still hr]; exact ⟨rfl, rfl⟩
theorem adv_roll (s : St) (n : Int) : (advS s n).roll = s.roll := by
  obtain ⟨p, e⟩ := advS_eq s n
  rw [e]
theorem adv_on {s : St} (hr : s.roll = true) {n : Int} (h : s.lon = true → s.pos < s.lb → s.pos + n < s.lb) : (advS s n).pos = s.pos + n := by
  unfold advS
  split
  · rename_i h2
    rcases h2 with h2 | h2
    · rw [hr] at h2; cases h2
    · omega
  · rw [if_neg]
    rintro ⟨h2, h3⟩
    unfold loopingB at h2
    simp only [Bool.and_eq_true, decide_eq_true_eq] at h2
    have := h h2.1.2 h2.2
    omega
theorem adv_back {s : St} (hr : s.roll = true) (hl : s.lon = true) (ha : s.la ≤ s.pos) (hb : s.pos < s.lb) {k : Int} (hk : 0 ≤ k) : (advS s (k * (s.lb - s.la))).pos = s.pos := by
  unfold advS
  by_cases h0 : k = 0
  · rw [if_pos (.inr (by rw [h0, Int.zero_mul]))]
  have hD : 0 < s.lb - s.la := by omega
  have h1 : s.lb - s.la ≤ k * (s.lb - s.la) := by
    have := Int.mul_le_mul_of_nonneg_right (show 1 ≤ k by omega) (Int.le_of_lt hD)
    omega
  rw [if_neg (fun h => by rcases h with h | h; rw [hr] at h; cases h; omega), if_pos ⟨by unfold loopingB; simp [hr, hl, hb], by omega⟩]
  have e : (s.lb - s.la) * (k - 1) = k * (s.lb - s.la) - (s.lb - s.la) := by rw [Int.mul_sub, Int.mul_one, Int.mul_comm]
  show s.la + (s.pos + k * (s.lb - s.la) - s.lb) % (s.lb - s.la) = s.pos
  rw [show s.pos + k * (s.lb - s.la) - s.lb = (s.pos - s.la) + (s.lb - s.la) * (k - 1) by rw [e]; omega, Int.add_mul_emod_self_left, Int.emod_eq_of_lt (by omega) (by omega)]
  omega
theorem good_of_check {l : List Ord} (h : gCheck l = 0) : GoodTo l l.length := by
  unfold gCheck at h
  split at h
  · simp at h
  · split at h
    · assumption
    · simp at h
theorem len_of_check {l : List Ord} (h : gCheck l = 0) : l.length ≤ 256 := by
  unfold gCheck at h
  split at h
  · simp at h
  · omega
end Go.Proofs.Ytjkclplnflaplaa
