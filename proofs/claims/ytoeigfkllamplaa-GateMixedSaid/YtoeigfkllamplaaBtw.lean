/-
  Loudness as plain facts: what passes is not empty, the mean lies between the ends, order and repetition and what is quiet do not matter. No program in sight. Conditions: as each statement says.
-/
import Derived.Test.YtoeigfkllamplaaLaw1
namespace Go.Proofs.Ytoeigfkllamplaa
open Go.RowKit

/-- A mean lies between a lower and an upper bound. -/
theorem mean_between {l : List Int} {a b : Int} (h0 : 0 < l.length) (h : ∀ x ∈ l, a ≤ x ∧ x ≤ b) : a ≤ meanE l ∧ meanE l ≤ b := by
  have key : ∀ l : List Int, (∀ x ∈ l, a ≤ x ∧ x ≤ b) → (l.length : Int) * a ≤ l.sum ∧ l.sum ≤ (l.length : Int) * b := by
    intro l
    induction l with
    | nil => simp
    | cons x l ih =>
      intro h
      have hx := h x (by simp)
      have ih := ih fun y hy => h y (by simp [hy])
      simp only [List.sum_cons, List.length_cons, Int.natCast_succ, Int.add_mul, Int.one_mul]
      omega
  have hk := key l h
  unfold meanE
  refine ⟨(Int.le_ediv_iff_mul_le (by omega)).2 (by rw [Int.mul_comm]; exact hk.1), Int.ediv_le_of_le_mul (by omega) (by rw [Int.mul_comm]; exact hk.2)⟩

theorem thr_nil {l : List Int} {m : Int} : thr l m = [] ↔ ∀ x ∈ l, x < m := by
  unfold thr
  rw [List.filter_eq_nil_iff]
  constructor
  · intro h x hx
    have := h x hx
    simp at this
    exact this
  · intro h x hx
    have := h x hx
    simp
    exact this

theorem tenth_le {m : Int} (h : 0 ≤ m) : tenth m ≤ m := by unfold tenth; omega
theorem tenth_nn {m : Int} (h : 0 ≤ m) : 0 ≤ tenth m := by unfold tenth; omega

/-- Something passes the second gate. -/
theorem thr_ne {l : List Int} (h : AllE l) (h0 : l ≠ []) : thr l (tenth (meanE l)) ≠ [] := fun hn => by
  have hl : 0 < l.length := List.length_pos_iff.2 h0
  have h1 := thr_nil.1 hn
  have hm := mean_bd h hl
  have h2 := (mean_between (a := 0) (b := tenth (meanE l) - 1) hl fun x hx => ⟨(h x hx).1, by have := h1 x hx; omega⟩).2
  have := tenth_le hm.1
  omega

theorem gG_ok {l : List Int} {f : Int} (h : (gGated l f).2 = 0) : l.length ≤ 65536 ∧ AllE l ∧ okE f ∧ gGated l f = if thr l f = [] then ([], 0) else (thr (thr l f) (tenth (meanE (thr l f))), 0) := by
  by_cases h1 : 65536 < l.length
  · exfalso
    unfold gGated at h
    rw [if_pos h1] at h
    simp at h
  by_cases h2 : AllE l ∧ okE f
  · exact ⟨by omega, h2.1, h2.2, gGated_of (by omega) h2.1 h2.2⟩
  · exfalso
    unfold gGated at h
    rw [if_neg h1, if_pos h2] at h
    simp at h
theorem gG_err {l : List Int} {f : Int} (h : (gGated l f).2 ≠ 0) : (gGated l f).1 = [] ∧ gLoud l f = (0, false, (gGated l f).2) := by
  refine ⟨?_, by unfold gLoud; rw [if_pos (.inl h)]⟩
  unfold gGated at h ⊢
  split
  · rfl
  · split
    · rfl
    · split
      · rfl
      · rename_i h1 h2 h3
        rw [if_neg h1, if_neg h2, if_neg h3] at h
        exact absurd rfl h

/-- The loudness by what is not below the floor. -/
theorem gL_of {l : List Int} {f : Int} (h1 : l.length ≤ 65536) (h2 : AllE l) (h3 : okE f) :
    gLoud l f = if thr l f = [] then (0, false, 0) else (meanE (thr (thr l f) (tenth (meanE (thr l f)))), true, 0) := by
  have e := gGated_of h1 h2 h3
  unfold gLoud
  rw [e]
  by_cases hn : thr l f = []
  · rw [if_pos hn, if_pos hn]
    simp
  · rw [if_neg hn, if_neg hn]
    rw [if_neg (fun h => h.elim (fun h => h rfl) (thr_ne (thr_all h2 f) hn))]

theorem thr_append (a b : List Int) (m : Int) : thr (a ++ b) m = thr a m ++ thr b m := List.filter_append ..
theorem thr_perm {a b : List Int} (h : a.Perm b) (m : Int) : (thr a m).Perm (thr b m) := h.filter _
theorem sum_perm {a b : List Int} (h : a.Perm b) : a.sum = b.sum := by
  induction h with
  | nil => rfl
  | cons x _ ih => simp [ih]
  | swap x y l => simp only [List.sum_cons]; omega
  | trans _ _ ih1 ih2 => exact ih1.trans ih2
theorem mean_perm {a b : List Int} (h : a.Perm b) : meanE a = meanE b := by
  unfold meanE
  rw [sum_perm h, h.length_eq]
theorem mean_twice (a : List Int) : meanE (a ++ a) = meanE a := by
  unfold meanE
  rw [List.sum_append, List.length_append]
  rw [show a.sum + a.sum = 2 * a.sum by omega, show ((a.length + a.length : Nat) : Int) = 2 * (a.length : Int) by omega]
  exact Int.mul_ediv_mul_of_pos _ _ (by omega)

/-- Neither order, nor what is below the floor, nor a second time matters. -/
theorem loud_mixed {l q l' : List Int} {f : Int} (hl : l.length ≤ 200) (hq : q.length ≤ 200) (h2 : AllE l) (h3 : okE f) (hp : l'.Perm (l ++ l ++ q)) (hq2 : ∀ x ∈ q, 0 ≤ x ∧ x < f) : gLoud l' f = gLoud l f := by
  have hn : l'.length ≤ 65536 := by rw [hp.length_eq]; simp; omega
  have hall : AllE l' := fun x hx => by
    have := hp.mem_iff.1 hx
    simp only [List.mem_append] at this
    rcases this with (h | h) | h
    · exact h2 x h
    · exact h2 x h
    · have := hq2 x h
      have := h3.2
      exact ⟨by omega, by omega⟩
  rw [gL_of hn hall h3, gL_of (by omega) h2 h3]
  have e : (thr l' f).Perm (thr l f ++ thr l f) := by
    have := thr_perm hp f
    rw [thr_append, thr_append, thr_nil.2 fun x hx => (hq2 x hx).2, List.append_nil] at this
    exact this
  by_cases hz : thr l f = []
  · rw [hz] at e
    have : thr l' f = [] := List.Perm.eq_nil (by simpa using e)
    rw [if_pos hz, if_pos this]
  · have hz' : thr l' f ≠ [] := fun h => by
      rw [h] at e
      have := e.symm.eq_nil
      simp at this
      exact hz this
    rw [if_neg hz, if_neg hz']
    have em : meanE (thr l' f) = meanE (thr l f) := by rw [mean_perm e, mean_twice]
    rw [em]
    have e2 := thr_perm e (tenth (meanE (thr l f)))
    rw [thr_append] at e2
    rw [mean_perm e2, mean_twice]
end Go.Proofs.Ytoeigfkllamplaa
