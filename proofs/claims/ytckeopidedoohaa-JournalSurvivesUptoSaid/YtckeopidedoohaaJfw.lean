/-
  Whether a disk has few sectors, records few bytes. Conditions: they lie as plain data, the records are not many and not long.
-/
import Derived.Test.YtckeopidedoohaaJse
namespace Go.Proofs.Ytckeopidedoohaa
open Go.RowKit
variable {n₀ : Nat}
attribute [local go_sem] Oper.semAt_some

/-- How many bytes records have together, and one more for each. -/
def sumB : List Bs → Nat
  | [] => 0
  | b :: l => 1 + b.length + sumB l
theorem sumB_snoc (l : List Bs) (b : Bs) : sumB (l ++ [b]) = sumB l + (1 + b.length) := by
  induction l with
  | nil => simp [sumB]
  | cons x l ih => simp only [List.cons_append, sumB, ih]; omega
theorem sumB_le {l : List Bs} (h : ∀ b ∈ l, b.length ≤ 1048576) : sumB l ≤ l.length * 1048577 := by
  induction l with
  | nil => exact Nat.le_refl _
  | cons b l ih =>
    have h1 := ih (fun x hx => h x (List.mem_cons_of_mem _ hx))
    have h2 := h b List.mem_cons_self
    simp only [sumB, List.length_cons]
    omega
def fewB (ns np : Nat) (rs : List Bs) : Bool := decide (ns ≤ 40) && (decide (np ≤ 40) && decide (sumB rs ≤ 4000))
theorem sumB_len (l : List Bs) : l.length ≤ sumB l := by
  induction l with
  | nil => exact Nat.le_refl _
  | cons b l ih => simp only [sumB, List.length_cons]; omega
theorem sumB_mem {l : List Bs} {b : Bs} (h : b ∈ l) : b.length ≤ sumB l := by
  induction l with
  | nil => cases h
  | cons x l ih =>
    simp only [sumB]
    rcases List.mem_cons.1 h with rfl | h
    · omega
    · have := ih h; omega
theorem fewB_sm {ns np : Nat} {rs : List Bs} (h : fewB ns np rs = true) : ns ≤ 40 ∧ np ≤ 40 ∧ sumB rs ≤ 4000 ∧ Sm rs := by
  unfold fewB at h
  simp only [Bool.and_eq_true, decide_eq_true_eq] at h
  obtain ⟨h1, h2, h3⟩ := h
  exact ⟨h1, h2, h3, by have := sumB_len rs; omega, fun b hb => by have := sumB_mem hb; omega⟩

set_option maxRecDepth 20000 in
set_option maxHeartbeats 4000000 in
theorem few5_t (SA PA RA : Option Addr) (sc pc rc ns np : Nat) (lf : Int) (st : Bool) (rs : List Bs) (w : World) (h1 : ns ≤ 1048576) (h2 : np ≤ 1048576) (h3 : rs.length ≤ 1048576) (h4 : ∀ b ∈ rs, b.length ≤ 1048576) (h : RowsAt n₀ w RA rs) :
    Calls Try.prog 43 #[.agg #[.slice SA ns sc, .slice PA np pc, .int .i64 lf, .bool st], .slice RA rs.length rc] w fun e w' => e = .returned (.bool (fewB ns np rs)) ∧ Below w.heap.size w w' := by
  have HL := Lib.hid h4
  have H0 := Lib.hid h
  have hsb : sumB rs ≤ 1048576 * 1048577 := Nat.le_trans (sumB_le h4) (Nat.mul_le_mul_right _ h3)
  clear h4 h
  go_enter Try.func43, Try.ntmps43
  go_wp2_with (fail)
  obtain ⟨W1, hW1⟩ : ∃ W, W = w.alloc (.cells #[.slice SA ns sc, .slice PA np pc, .int .i64 lf, .bool st] 25) := ⟨_, rfl⟩
  rw [← hW1]
  have hw : Below w.heap.size w W1 := by rw [hW1]; exact (Below.refl _ _).alloc (Nat.le_refl _) _
  have x2 : Blk W1 w.heap.size 25 #[.slice SA ns sc, .slice PA np pc, .int .i64 lf, .bool st] := by rw [hW1]; exact Blk.new w 25 _
  have HX2 := Lib.hid x2
  clear hW1 x2
  go_loopw [5, 10] (fun v5 v10 wr => ∃ i : Nat, i ≤ rs.length ∧ v10 = .int .i64 i ∧ v5 = .int .i64 (sumB (rs.take i) : Nat) ∧ wr = W1) (fun _ v10 _ => rs.length - (intOf v10).toNat)
  case atStart => exact ⟨0, by omega, rfl, rfl, rfl⟩
  case round =>
    obtain ⟨i, hi, rfl, rfl, hwr⟩ := hrel
    have hwr := hwr.symm
    subst hwr
    by_cases hlt : i < rs.length
    case pos =>
      obtain ⟨b, o, rfl, hb, hc⟩ := (H0.out.below hw).get (by omega)
      obtain ⟨A', c', z0, -, -⟩ := hc i hlt
      have hst := take_snocR rs i hlt
      have hbl := HL.out _ (mem_getD hlt)
      have hu : sumB (rs.take i) ≤ 1048576 * 1048577 := by
        refine Nat.le_trans (sumB_le (fun b hb => HL.out b (List.mem_of_mem_take hb))) ?_
        rw [List.length_take]
        exact Nat.mul_le_mul_right _ (by omega)
      obtain ⟨x, hx⟩ : ∃ x, x = rs.getD i [] := ⟨_, rfl⟩
      rw [← hx] at z0 hst hbl
      have hst2 : sumB (rs.take (i + 1)) = sumB (rs.take i) + (1 + x.length) := by rw [hst, sumB_snoc]
      obtain ⟨u, hu2⟩ : ∃ u, u = sumB (rs.take i) := ⟨_, rfl⟩
      rw [← hu2] at hst2 hu
      rw [← hu2]
      obtain ⟨xn, hxn⟩ : ∃ n, n = x.length := ⟨_, rfl⟩
      rw [← hxn] at z0 hbl hst2
      have HST := Lib.hid hst2
      clear hc hst hx hu2 hxn hst2
      go_wp2_with (fail)
      go_roundw
      case rel => exact ⟨i + 1, by omega, by go_num, by rw [HST.out]; go_num, by trivial⟩
      case measure => simp [intOf]; omega
    case neg =>
      obtain rfl : i = rs.length := by omega
      rw [List.take_length]
      obtain ⟨u, hu⟩ : ∃ u, u = sumB rs := ⟨_, rfl⟩
      rw [← hu] at hsb ⊢
      have c0 := HX2.out.cell 0
      have c1 := HX2.out.cell 1
      simp only [List.getElem?_toArray, List.getElem?_cons_zero, List.getElem?_cons_succ] at c0 c1
      by_cases k1 : ns ≤ 40
      case neg =>
        have E := Lib.hid (show fewB ns np rs = false by unfold fewB; rw [decide_eq_false k1]; rfl)
        have d1 : decide ((ns : Int) ≤ 40) = false := decide_eq_false (by omega)
        clear k1
        go_wp2
        go_ret
        exact ⟨by rw [E.out]; rfl, hw⟩
      have d1 : decide ((ns : Int) ≤ 40) = true := decide_eq_true (by omega)
      by_cases k2 : np ≤ 40
      case neg =>
        have E := Lib.hid (show fewB ns np rs = false by unfold fewB; rw [decide_eq_true k1, decide_eq_false k2]; rfl)
        have d2 : decide ((np : Int) ≤ 40) = false := decide_eq_false (by omega)
        clear k1 k2
        go_wp2
        go_ret
        exact ⟨by rw [E.out]; rfl, hw⟩
      have d2 : decide ((np : Int) ≤ 40) = true := decide_eq_true (by omega)
      by_cases k3 : u ≤ 4000
      case neg =>
        have E := Lib.hid (show fewB ns np rs = false by unfold fewB; rw [decide_eq_true k1, decide_eq_true k2, ← hu, decide_eq_false k3]; rfl)
        have d3 : decide ((u : Int) ≤ 4000) = false := decide_eq_false (by omega)
        clear k1 k2 k3 hu
        go_wp2
        go_ret
        exact ⟨by rw [E.out]; rfl, hw⟩
      have E := Lib.hid (show fewB ns np rs = true by unfold fewB; rw [decide_eq_true k1, decide_eq_true k2, ← hu, decide_eq_true k3]; rfl)
      have d3 : decide ((u : Int) ≤ 4000) = true := decide_eq_true (by omega)
      clear k1 k2 k3 hu
      go_wp2
      go_ret
      exact ⟨by rw [E.out]; rfl, hw⟩
end Go.Proofs.Ytckeopidedoohaa
