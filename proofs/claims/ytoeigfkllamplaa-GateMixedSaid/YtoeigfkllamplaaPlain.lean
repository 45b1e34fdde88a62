/-
  Energies as plain lists: what passes a gate, means, the answers of Gated and Loudness. No program in sight.
-/
import Derived.Test.YtoeigfkllamplaaBase
namespace Go.Proofs.Ytoeigfkllamplaa
open Go.RowKit

/-- The energies that are at least m. -/
def thr (l : List Int) (m : Int) : List Int := l.filter fun x => decide (m ≤ x)
/-- An energy that is allowed. -/
def okE (x : Int) : Prop := 0 ≤ x ∧ x ≤ 4611686018427387904
def AllE (l : List Int) : Prop := ∀ x ∈ l, okE x
def meanE (l : List Int) : Int := l.sum / (l.length : Int)
def tenth (m : Int) : Int := (m + 9) / 10
open Classical in
/-- What Gated answers. -/
noncomputable def gGated (l : List Int) (floor : Int) : List Int × Int :=
  if 65536 < l.length then ([], 2) else if ¬ (AllE l ∧ okE floor) then ([], 1) else if thr l floor = [] then ([], 0) else (thr (thr l floor) (tenth (meanE (thr l floor))), 0)
/-- What Loudness answers: the loudness, whether there is one, the error. -/
noncomputable def gLoud (l : List Int) (floor : Int) : Int × Bool × Int :=
  if (gGated l floor).2 ≠ 0 ∨ (gGated l floor).1 = [] then (0, false, (gGated l floor).2) else (meanE (gGated l floor).1, true, 0)

theorem thr_all {l : List Int} (h : AllE l) (m : Int) : AllE (thr l m) := fun x hx => h x (List.mem_filter.1 hx).1
theorem thr_len (l : List Int) (m : Int) : (thr l m).length ≤ l.length := List.length_filter_le _ _
theorem thr_snoc (l : List Int) (x m : Int) : thr (l ++ [x]) m = if m ≤ x then thr l m ++ [x] else thr l m := by
  unfold thr
  rw [List.filter_append]
  by_cases h : m ≤ x <;> simp [h]
theorem gi_mem {l : List Int} {k : Nat} (hk : k < l.length) : gi l k ∈ l := by
  have : gi l k = l[k] := by simp [gi, hk]
  rw [this]
  exact List.getElem_mem hk
theorem take_snoc {l : List Int} {k : Nat} (hk : k < l.length) : l.take (k + 1) = l.take k ++ [gi l k] := by
  have : gi l k = l[k] := by simp [gi, hk]
  rw [this]
  exact List.take_succ_eq_append_getElem hk
theorem sum_bd {l : List Int} (h : AllE l) : 0 ≤ l.sum ∧ l.sum ≤ (l.length : Int) * 4611686018427387904 := by
  induction l with
  | nil => simp
  | cons x l ih =>
    have hx := h x (by simp)
    have ih := ih fun y hy => h y (by simp [hy])
    simp only [List.sum_cons, List.length_cons]
    unfold okE at hx
    omega
theorem mean_bd {l : List Int} (h : AllE l) (h0 : 0 < l.length) : okE (meanE l) := by
  have hs := sum_bd h
  unfold okE meanE
  refine ⟨Int.ediv_nonneg hs.1 (by omega), Int.ediv_le_of_le_mul (by omega) (by rw [Int.mul_comm]; exact hs.2)⟩

/-- The two sums of a mean, over the first k energies. -/
structure Sums (l : List Int) (k : Nat) (a b : Int) : Prop where
  eq : (l.length : Int) * a + b = (l.take k).sum
  a0 : 0 ≤ a
  a1 : a ≤ 4611686018427387904
  b0 : 0 ≤ b
  b1 : b ≤ (k : Int) * 65536
theorem Sums.zero (l : List Int) : Sums l 0 0 0 := ⟨by simp, by omega, by omega, by omega, by omega⟩
theorem Sums.step {l : List Int} {k : Nat} {a b : Int} (h : Sums l k a b) (hl : AllE l) (hn : l.length ≤ 65536) (hk : k < l.length) :
    Sums l (k + 1) (a + gi l k / (l.length : Int)) (b + gi l k % (l.length : Int)) := by
  have hx := hl _ (gi_mem hk)
  have hq := Int.ediv_nonneg hx.1 (by omega : 0 ≤ (l.length : Int))
  have hr := Int.emod_nonneg (gi l k) (by omega : (l.length : Int) ≠ 0)
  have hr1 := Int.emod_lt_of_pos (gi l k) (by omega : 0 < (l.length : Int))
  have he := Int.mul_ediv_add_emod (gi l k) (l.length : Int)
  have h1 := h.eq
  have h2 := h.b1
  have h3 := h.a0
  have h4 := h.b0
  have hsum : (l.take (k + 1)).sum = (l.take k).sum + gi l k := by rw [take_snoc hk]; simp
  have heq : (l.length : Int) * (a + gi l k / (l.length : Int)) + (b + gi l k % (l.length : Int)) = (l.take (k + 1)).sum := by
    rw [hsum, Int.mul_add]
    omega
  have hsb := (sum_bd (l := l.take (k + 1)) fun x hx => hl x (List.mem_of_mem_take hx)).2
  have hlen : (l.take (k + 1)).length ≤ l.length := by simp; omega
  refine ⟨heq, by omega, ?_, by omega, by omega⟩
  have hle : (l.length : Int) * (a + gi l k / (l.length : Int)) ≤ (l.length : Int) * 4611686018427387904 := by
    have : ((l.take (k + 1)).length : Int) * 4611686018427387904 ≤ (l.length : Int) * 4611686018427387904 := by omega
    omega
  exact Int.le_of_mul_le_mul_left hle (by omega)
theorem Sums.mean {l : List Int} {a b : Int} (h : Sums l l.length a b) (h0 : 0 < l.length) : a + b / (l.length : Int) = meanE l := by
  have := h.eq
  rw [List.take_length] at this
  unfold meanE
  rw [← this, Int.add_comm ((l.length : Int) * a) b, Int.add_mul_ediv_left _ _ (by omega)]
  omega
theorem tenth_eq {m : Int} (h : 0 ≤ m) : m / 10 + min 1 (m % 10) = tenth m := by unfold tenth; omega
end Go.Proofs.Ytoeigfkllamplaa
