/-
  A further change appended by hand, as lists and as memory: rows of three-number structs. Conditions: as each statement says.
-/
import Derived.Test.YtdphnlcppaaccaaAg
import Derived.Test.YtdphnlcppaaccaaApp
namespace Go.Proofs.Ytdphnlcppaaccaa
open Go.RowKit

def vals (m : Met) : List Value := [.int .i64 m.bar, .int .i64 m.beats, .int .i64 m.unit]
def flat : List Met → List Value
  | [] => []
  | m :: ms => vals m ++ flat ms
theorem flat_len (ns : List Met) : (flat ns).length = ns.length * 3 := by
  induction ns with
  | nil => rfl
  | cons m ms ih => simp only [flat, vals, List.length_append, List.length_cons, List.length_nil, ih]; omega
theorem flat_append (a b : List Met) : flat (a ++ b) = flat a ++ flat b := by
  induction a with
  | nil => rfl
  | cons m ms ih => simp only [List.cons_append, flat, ih, List.append_assoc]
theorem flat_get (ns : List Met) (i : Nat) (hi : i < ns.length) : (flat ns)[i * 3]? = some (.int .i64 (mb ns i)) ∧ (flat ns)[i * 3 + 1]? = some (.int .i64 (mt ns i)) ∧ (flat ns)[i * 3 + 2]? = some (.int .i64 (mu ns i)) := by
  induction ns generalizing i with
  | nil => simp at hi
  | cons m ms ih =>
    cases i with
    | zero => exact ⟨rfl, rfl, rfl⟩
    | succ i =>
      have := ih i (by simpa using hi)
      simp only [flat, vals, mb, mt, mu, List.getD_cons_succ] at this ⊢
      rw [show (i + 1) * 3 = i * 3 + 3 by omega, show i * 3 + 3 + 1 = (i * 3 + 1) + 3 by omega, show i * 3 + 3 + 2 = (i * 3 + 2) + 3 by omega]
      simpa using this

theorem own_cell3 {w : World} {base : Nat} {A : Option Addr} {n c : Nat} {ns : List Met} (h : w.ownsRow base 38 3 (.slice A n c) n (flat ns)) (h0 : 0 < ns.length) :
    n = ns.length ∧ ∃ g, A = some ⟨g, 0, none⟩ ∧ base ≤ g ∧ g < w.heap.size ∧ ∀ i, i < ns.length → w.cell? ⟨g, i * 3, none⟩ = some (.int .i64 (mb ns i)) ∧ w.cell? ⟨g, i * 3 + 1, none⟩ = some (.int .i64 (mt ns i)) ∧ w.cell? ⟨g, i * 3 + 2, none⟩ = some (.int .i64 (mu ns i)) := by
  have hl : n = ns.length := by
    have := h.1
    rw [flat_len] at this
    omega
  refine ⟨hl, ?_⟩
  rcases h.2 with ⟨_, hn⟩ | ⟨g, cap, cur, hv, hb, hh, _⟩
  · omega
  · have hA : A = some ⟨g, 0, none⟩ := by injection hv
    subst hA
    refine ⟨g, rfl, hb, (Array.getElem?_eq_some_iff.1 hh).1, fun i hi => ?_⟩
    obtain ⟨f0, f1, f2⟩ := flat_get ns i hi
    have c0 := h.cells (g := g) rfl _ _ f0
    have c1 := h.cells (g := g) rfl _ _ f1
    have c2 := h.cells (g := g) rfl _ _ f2
    simp only [Addr.add_lit, Nat.zero_add] at c0 c1 c2
    exact ⟨c0, c1, c2⟩
theorem own_SlAt {w : World} {base : Nat} {A : Option Addr} {n c : Nat} {ns : List Met} (h : w.ownsRow base 38 3 (.slice A n c) n (flat ns)) : n = ns.length ∧ SlAt w A ns := by
  have hl : n = ns.length := by
    have := h.1
    rw [flat_len] at this
    omega
  refine ⟨hl, fun h0 => ?_⟩
  obtain ⟨_, g, hA, _, hlt, hc⟩ := own_cell3 h h0
  refine ⟨g, 0, hA, hlt, fun i hi => ?_, fun i hi => ?_, fun i hi => ?_⟩
  · rw [Nat.zero_add]; exact (hc i hi).1
  · rw [Nat.zero_add]; exact (hc i hi).2.1
  · rw [Nat.zero_add]; exact (hc i hi).2.2

/-- The list after k rounds. -/
def growK (ms : List Met) (j : Nat) (m : Met) (k : Nat) : List Met := if k ≤ j + 1 then ms.take k else ms.take (j + 1) ++ m :: (ms.drop (j + 1)).take (k - (j + 1))
section
variable {ms : List Met} {j k : Nat} {m : Met}
theorem growK_lo (hk : k ≤ j + 1) : growK ms j m k = ms.take k := by unfold growK; rw [if_pos hk]
theorem growK_zero : growK ms j m 0 = [] := by rw [growK_lo (by omega)]; rfl
theorem growK_step (hk : k < ms.length) (hkj : k ≠ j + 1) : growK ms j m (k + 1) = growK ms j m k ++ [ms.getD k m0] := by
  have e : ms.getD k m0 = ms[k] := by simp [hk]
  rw [e]
  by_cases h : k ≤ j
  · rw [growK_lo (by omega), growK_lo (by omega), List.take_succ_eq_append_getElem hk]
  · unfold growK
    rw [if_neg (by omega), if_neg (by omega)]
    have hh : k - (j + 1) < (ms.drop (j + 1)).length := by rw [List.length_drop]; omega
    rw [List.append_assoc, List.cons_append, show k + 1 - (j + 1) = (k - (j + 1)) + 1 by omega, List.take_succ_eq_append_getElem hh, List.getElem_drop]
    simp only [show j + 1 + (k - (j + 1)) = k by omega]
theorem growK_at (hk : j + 1 < ms.length) : growK ms j m (j + 1 + 1) = growK ms j m (j + 1) ++ [m] ++ [ms.getD (j + 1) m0] := by
  have e : ms.getD (j + 1) m0 = ms[j + 1] := by simp [hk]
  rw [e, growK_lo (Nat.le_refl _)]
  unfold growK
  have hh : 0 < (ms.drop (j + 1)).length := by rw [List.length_drop]; omega
  rw [if_neg (by omega), List.append_assoc, show j + 1 + 1 - (j + 1) = 0 + 1 by omega, List.take_succ_eq_append_getElem hh, List.getElem_drop]
  simp
theorem growK_len (hk : k ≤ ms.length) : (growK ms j m k).length = if k ≤ j + 1 then k else k + 1 := by
  unfold growK
  by_cases h : k ≤ j + 1
  · rw [if_pos h, if_pos h, List.length_take]
    omega
  · rw [if_neg h, if_neg h]
    simp only [List.length_append, List.length_take, List.length_cons, List.length_drop]
    omega
theorem growK_last (hk : k + 1 ≤ ms.length) : mb (growK ms j m (k + 1)) ((growK ms j m (k + 1)).length - 1) = mb ms k := by
  by_cases hkj : k = j + 1
  · subst hkj
    rw [growK_at (by omega)]
    unfold mb
    rw [List.length_append, List.length_singleton, Nat.add_sub_cancel, List.getD_eq_getElem?_getD, List.getElem?_append_right (Nat.le_refl _), Nat.sub_self]
    rfl
  · rw [growK_step (by omega) hkj]
    unfold mb
    rw [List.length_append, List.length_singleton, Nat.add_sub_cancel, List.getD_eq_getElem?_getD, List.getElem?_append_right (Nat.le_refl _), Nat.sub_self]
    rfl
theorem growK_end (hj : j < ms.length) : (j + 1 < ms.length → growK ms j m ms.length = ins ms j m) ∧ (¬ j + 1 < ms.length → growK ms j m ms.length ++ [m] = ins ms j m) := by
  constructor
  · intro h
    unfold growK ins
    have e : (ms.drop (j + 1)).take (ms.length - (j + 1)) = ms.drop (j + 1) := List.take_of_length_le (by rw [List.length_drop]; exact Nat.le_refl _)
    rw [if_neg (by omega), e]
  · intro h
    have hl : ms.length = j + 1 := by omega
    rw [growK_lo (by omega)]
    unfold ins
    rw [List.drop_eq_nil_of_le (by omega), hl]
end
theorem cell_new3 {W : World} {g : Nat} {a b c : Int} (hg : W.heap.size = g) : ∀ j u, (vals ⟨a, b, c⟩)[j]? = some u → (W.alloc (.cells #[.int .i64 a, .int .i64 b, .int .i64 c] 38)).cell? ((⟨g, 0, none⟩ : Addr).add j) = some u := fun j u h => by
  subst hg
  rcases j with _ | _ | _ | j
  · simp [vals] at h; subst h; simp [Addr.add]
  · simp [vals] at h; subst h; simp [Addr.add]
  · simp [vals] at h; subst h; simp [Addr.add]
  · simp [vals] at h
theorem vals_one (m : Met) : ∀ u ∈ vals m, u.oneCell' = true := fun u hu => by
  simp only [vals, List.mem_cons, List.not_mem_nil, or_false] at hu
  rcases hu with rfl | rfl | rfl <;> rfl
theorem info38 : (Try.prog.info? 38).map (fun i => (i.zero, i.size, i.bytes)) = some (some (.agg #[.int .i64 0, .int .i64 0, .int .i64 0]), 3, 24) := by kernel_rfl
end Go.Proofs.Ytdphnlcppaaccaa
