/-
  Numbers as digits to the base 2^32: one step of a product, and the logarithm by the greatest digit, in plain Lean. Conditions: as each statement says.
-/
import Derived.Test.YtoeigfkllamplaaPlain
namespace Go.Proofs.Ytoeigfkllamplaa
open Go.RowKit

/-- The number whose first n digits a function gives. -/
def vU (f : Nat → Int) : Nat → Int
  | 0 => 0
  | n + 1 => vU f n + f n * 4294967296 ^ n
def upd (f : Nat → Int) (j : Nat) (d : Int) : Nat → Int := fun m => if m = j then d else f m
def Digits (f : Nat → Int) (n : Nat) : Prop := ∀ j, j < n → 0 ≤ f j ∧ f j < 4294967296

theorem vU_ext {f g : Nat → Int} {n : Nat} (h : ∀ j, j < n → f j = g j) : vU f n = vU g n := by
  induction n with
  | zero => rfl
  | succ n ih =>
    unfold vU
    rw [ih (fun j hj => h j (by omega)), h n (by omega)]
theorem vU_upd (f : Nat → Int) (j : Nat) (d : Int) (n : Nat) : vU (upd f j d) n = if j < n then vU f n + (d - f j) * 4294967296 ^ j else vU f n := by
  induction n with
  | zero => simp [vU]
  | succ n ih =>
    unfold vU
    rw [ih]
    by_cases h1 : j < n
    · rw [if_pos h1, if_pos (by omega)]
      have : upd f j d n = f n := by unfold upd; rw [if_neg (by omega)]
      rw [this]
      omega
    · rw [if_neg h1]
      by_cases h2 : j = n
      · subst h2
        rw [if_pos (by omega)]
        have : upd f j d j = d := by unfold upd; rw [if_pos rfl]
        rw [this, Int.sub_mul]
        omega
      · rw [if_neg (by omega)]
        have : upd f j d n = f n := by unfold upd; rw [if_neg (by omega)]
        rw [this]
theorem vU_zero {f : Nat → Int} {n m : Nat} (hn : n ≤ m) (h : ∀ j, n ≤ j → j < m → f j = 0) : vU f m = vU f n := by
  induction m with
  | zero => rw [show n = 0 by omega]
  | succ m ih =>
    by_cases e : n = m + 1
    · rw [e]
    · unfold vU
      rw [ih (by omega) (fun j h1 h2 => h j h1 (by omega)), h m (by omega) (by omega)]
      simp only [Int.zero_mul, Int.add_zero]
      cases n <;> rfl
theorem pow_pos (n : Nat) : 0 < (4294967296 : Int) ^ n := Int.pow_pos (by omega)
theorem vU_bd {f : Nat → Int} {n : Nat} (h : Digits f n) : 0 ≤ vU f n ∧ vU f n < 4294967296 ^ n := by
  induction n with
  | zero => simp [vU]
  | succ n ih =>
    have ih := ih (fun j hj => h j (by omega))
    have hn := h n (by omega)
    have hp := pow_pos n
    have h1 := Int.mul_nonneg hn.1 (by omega : 0 ≤ (4294967296 : Int) ^ n)
    have h2 : f n * 4294967296 ^ n ≤ 4294967295 * 4294967296 ^ n := Int.mul_le_mul_of_nonneg_right (by omega) (by omega)
    have e : (4294967296 : Int) ^ (n + 1) = 4294967295 * 4294967296 ^ n + 4294967296 ^ n := by
      rw [Int.pow_succ, Int.mul_comm]
      omega
    unfold vU
    rw [e]
    omega

/-- One step of the inner loop. -/
theorem sq_step {x y a b c V : Int} (k : Nat) (hx : 0 ≤ x ∧ x < 4294967296) (ha : 0 ≤ a ∧ a < 4294967296) (hb : 0 ≤ b ∧ b < 4294967296) (hc : 0 ≤ c ∧ c < 4294967296) (hy : y = a * b + x + c) :
    0 ≤ a * b ∧ a * b ≤ 18446744065119617025 ∧ 0 ≤ y ∧ y < 18446744073709551616 ∧ 0 ≤ y % 4294967296 ∧ y % 4294967296 < 4294967296 ∧ 0 ≤ y / 4294967296 ∧ y / 4294967296 < 4294967296 ∧
      V + (y % 4294967296 - x) * 4294967296 ^ k + y / 4294967296 * 4294967296 ^ (k + 1) = V + c * 4294967296 ^ k + a * b * 4294967296 ^ k := by
  have h1 := Int.mul_nonneg ha.1 hb.1
  have h2 : a * b ≤ 4294967295 * 4294967295 := Int.mul_le_mul (by omega) (by omega) hb.1 (by omega)
  refine ⟨h1, by omega, by omega, by omega, by omega, by omega, by omega, by omega, ?_⟩
  have e := Int.mul_ediv_add_emod y 4294967296
  have e2 : y / 4294967296 * 4294967296 ^ (k + 1) = (4294967296 * (y / 4294967296)) * 4294967296 ^ k := by
    rw [Int.pow_succ, Int.mul_comm ((4294967296 : Int) ^ k), ← Int.mul_assoc, Int.mul_comm (y / 4294967296)]
  rw [e2, show 4294967296 * (y / 4294967296) = a * b + x + c - y % 4294967296 by omega]
  generalize (4294967296 : Int) ^ k = p
  generalize y % 4294967296 = r
  rw [Int.add_assoc, ← Int.add_mul, show r - x + (a * b + x + c - r) = c + a * b by omega, Int.add_mul, Int.add_assoc]

/-- The logarithm that the greatest digit tells. -/
theorem log_top {f : Nat → Int} {n i e : Nat} (hd : Digits f n) (hi : i < n) (hz : ∀ j, i < j → j < n → f j = 0) (h1 : (2 : Int) ^ e ≤ f i) (h2 : f i < (2 : Int) ^ (e + 1)) :
    (2 : Int) ^ (32 * i + e) ≤ vU f n ∧ vU f n < (2 : Int) ^ (32 * i + e + 1) := by
  rw [vU_zero (n := i + 1) (m := n) (by omega) (fun j a b => hz j (by omega) b)]
  have hb := vU_bd (f := f) (n := i) (fun j hj => hd j (by omega))
  have hp := pow_pos i
  have e32 : (2 : Int) ^ (32 * i) = 4294967296 ^ i := by rw [Int.pow_mul]; rfl
  have a1 : (2 : Int) ^ e * 4294967296 ^ i ≤ f i * 4294967296 ^ i := Int.mul_le_mul_of_nonneg_right h1 (by omega)
  have a2 : (f i + 1) * 4294967296 ^ i ≤ (2 : Int) ^ (e + 1) * 4294967296 ^ i := Int.mul_le_mul_of_nonneg_right (by omega) (by omega)
  rw [Int.add_mul, Int.one_mul] at a2
  rw [Nat.add_assoc, Int.pow_add, Int.pow_add, e32, Int.mul_comm (4294967296 ^ i), Int.mul_comm (4294967296 ^ i)]
  unfold vU
  omega

theorem log_uniq {V : Int} {r s : Nat} (a : (2 : Int) ^ r ≤ V) (b : V < (2 : Int) ^ (r + 1)) (c : (2 : Int) ^ s ≤ V) (d : V < (2 : Int) ^ (s + 1)) : r = s := by
  have mono : ∀ m n : Nat, m ≤ n → (2 : Int) ^ m ≤ (2 : Int) ^ n := fun m n h => by
    obtain ⟨k, rfl⟩ := Nat.exists_eq_add_of_le h
    rw [Int.pow_add]
    have h1 : 0 < (2 : Int) ^ m := Int.pow_pos (by omega)
    have h2 : 0 < (2 : Int) ^ k := Int.pow_pos (by omega)
    have := Int.mul_le_mul_of_nonneg_left (by omega : (1 : Int) ≤ 2 ^ k) (by omega : (0 : Int) ≤ 2 ^ m)
    omega
  rcases Nat.lt_trichotomy r s with h | h | h
  · have := mono (r + 1) s h; omega
  · exact h
  · have := mono (s + 1) r h; omega
end Go.Proofs.Ytoeigfkllamplaa
