/-
  The pieces into which the first engine samples fall, as plain data; samples that pass one after the other. Conditions: orders that are fine.
-/
import Derived.Test.YtjkclplnflaplaaStd
namespace Go.Proofs.Ytjkclplnflaplaa
open Go.RowKit

structure Sp where
  e : Int
  len : Int
  song : Int
  roll : Bool
  rcd : Bool
def spc (p : Sp) : Array Value := #[.int .i64 p.e, .int .i64 p.len, .int .i64 p.song, .bool p.roll, .bool p.rcd]
def spv (p : Sp) : Value := .agg (spc p)

/-- Up to where nothing is ordered, with j orders carried out. -/
def nx (l : List Ord) (n : Int) (j : Nat) : Int := if j < l.length then min n (oT l j) else n
def piece (l : List Ord) (n m : Int) : Sp := ⟨m, stdS (atS l m) (nx l n (cutK l m) - m), (atS l m).pos, (atS l m).roll, recB (atS l m)⟩
def pcS (l : List Ord) (n : Int) : Nat → Int → List Sp
  | 0, _ => []
  | f + 1, m => if m < n then piece l n m :: pcS l n f (m + (piece l n m).len) else []
/-- All pieces. -/
def pcsL (l : List Ord) (n : Int) : List Sp := pcS l n n.toNat 0

theorem advS_zero (s : St) : advS s 0 = s := by unfold advS; rw [if_pos (.inr rfl)]
theorem advS_still {s : St} (h : s.roll = false) (n : Int) : advS s n = s := by unfold advS; rw [if_pos (.inl h)]
theorem mod_step {x b D : Int} (hD : 0 < D) : (x % D + b) % D = (x + b) % D := by rw [Int.emod_add_emod]
theorem advS_add {s : St} (hs : OkS s) {a b : Int} (ha : 0 ≤ a) (hb : 0 ≤ b) : advS (advS s a) b = advS s (a + b) := by
  by_cases hr : s.roll = false
  · rw [advS_still hr, advS_still hr, advS_still hr]
  by_cases ha0 : a = 0
  · rw [ha0, advS_zero, Int.zero_add]
  by_cases hb0 : b = 0
  · rw [hb0, advS_zero, Int.add_zero]
  obtain ⟨p0, p1, hl⟩ := hs
  obtain ⟨pos, roll, lon, la, lb, pon, pa, pb⟩ := s
  obtain rfl : roll = true := by simpa using hr
  dsimp only at *
  have hab : ¬ a + b = 0 := by omega
  have U : ∀ (p n : Int), ¬ n = 0 → advS ⟨p, true, lon, la, lb, pon, pa, pb⟩ n = if (lon = true ∧ p < lb) ∧ lb ≤ p + n then ⟨la + (p + n - lb) % (lb - la), true, lon, la, lb, pon, pa, pb⟩ else ⟨p + n, true, lon, la, lb, pon, pa, pb⟩ := fun p n hn => by
    unfold advS
    rw [if_neg (by simpa using hn)]
    have e : (loopingB ⟨p, true, lon, la, lb, pon, pa, pb⟩ = true) ↔ (lon = true ∧ p < lb) := by unfold loopingB; simp
    by_cases h : (lon = true ∧ p < lb) ∧ lb ≤ p + n
    · rw [if_pos h, if_pos ⟨e.2 h.1, h.2⟩]
    · rw [if_neg h, if_neg (fun h' => h ⟨e.1 h'.1, h'.2⟩)]
  rw [U pos a ha0, U pos (a + b) hab]
  by_cases h1 : (lon = true ∧ pos < lb) ∧ lb ≤ pos + a
  · have hD := hl h1.1.1
    have m0 := Int.emod_nonneg (pos + a - lb) (b := lb - la) (by omega)
    have m1 := Int.emod_lt_of_pos (pos + a - lb) (b := lb - la) (by omega)
    rw [if_pos h1, if_pos ⟨h1.1, by omega⟩, U _ b hb0]
    have key := mod_step (x := pos + a - lb) (b := b) (D := lb - la) (by omega)
    rw [show pos + a - lb + b = pos + (a + b) - lb by omega] at key
    by_cases h2 : (lon = true ∧ la + (pos + a - lb) % (lb - la) < lb) ∧ lb ≤ la + (pos + a - lb) % (lb - la) + b
    · rw [if_pos h2]
      congr 2
      rw [← key]
      rw [show (pos + a - lb) % (lb - la) + b = (la + (pos + a - lb) % (lb - la) + b - lb) + (lb - la) by omega, Int.add_emod_right]
    · rw [if_neg h2]
      congr 1
      have hlt : (pos + a - lb) % (lb - la) + b < lb - la := by
        rcases Int.lt_or_le ((pos + a - lb) % (lb - la) + b) (lb - la) with h | h
        · exact h
        · exact absurd ⟨⟨h1.1.1, by omega⟩, by omega⟩ h2
      rw [← key, Int.emod_eq_of_lt (by omega) hlt]
      omega
  · rw [if_neg h1, U _ b hb0]
    by_cases h2 : (lon = true ∧ pos + a < lb) ∧ lb ≤ pos + a + b
    · rw [if_pos h2, if_pos ⟨⟨h2.1.1, by omega⟩, by omega⟩, show pos + a + b - lb = pos + (a + b) - lb by omega]
    · rw [if_neg h2]
      have h3 : ¬ ((lon = true ∧ pos < lb) ∧ lb ≤ pos + (a + b)) := fun h => by
        by_cases h4 : pos + a < lb
        · exact h2 ⟨⟨h.1.1, h4⟩, by omega⟩
        · exact h1 ⟨h.1, by omega⟩
      rw [if_neg h3, show pos + a + b = pos + (a + b) by omega]

theorem std_bd {s : St} (hs : OkS s) (hq : Okq s) {d : Int} (hd : 1 ≤ d) : 1 ≤ stdS s d ∧ stdS s d ≤ d := by
  have hL : loopingB s = true → s.pos < s.lb := fun h => by
    unfold loopingB at h
    simp at h
    exact h.2
  have hR : recB s = true → s.pos < s.pb := fun h => by
    unfold recB at h
    simp at h
    exact h.2
  have hP : (s.pon && decide (s.pos < s.pa)) = true → s.pos < s.pa := fun h => by
    simp at h
    exact h.2
  unfold stdS
  split
  · omega
  · by_cases a : loopingB s = true <;> by_cases b : (s.pon && decide (s.pos < s.pa)) = true <;> by_cases c : recB s = true <;> simp only [a, b, c, if_true, if_false, Bool.false_eq_true]
    all_goals (try have := hL a) <;> (try have := hR c) <;> (try have := hP b) <;> omega
end Go.Proofs.Ytjkclplnflaplaa
