/-
  The gate's closures: what is odd, what passes the first gate and the second, and the sums of a mean. Conditions: energies that are allowed, for the sums.
-/
import Derived.Test.YtoeigfkllamplaaRefs
import Derived.Test.YtoeigfkllamplaaIter
import Derived.BigRegion
namespace Go.Proofs.Ytoeigfkllamplaa
open Go.RowKit
attribute [local go_sem] Oper.semAt_some

/-- An energy that is not allowed. -/
def isOdd (x : Int) : Bool := !decide (0 ≤ x ∧ x ≤ 4611686018427387904)
theorem odd_t (x : Int) (w : World) : Calls Try.prog 14 #[.int .i64 x] w fun e w' => e = .returned (.bool (isOdd x)) ∧ w' = w := by
  by_cases h1 : x < 0
  · have d1 : decide (x < 0) = true := decide_eq_true h1
    have E := Lib.hid (show (isOdd x) = true by unfold isOdd; simp; omega)
    go_enter Try.func14, Try.ntmps14
    go_wp2
    go_ret
    exact ⟨by rw [E.out]; rfl, rfl⟩
  · have d1 : decide (x < 0) = false := decide_eq_false h1
    by_cases h2 : 4611686018427387904 < x
    · have d2 : decide (4611686018427387904 < x) = true := decide_eq_true h2
      have E := Lib.hid (show (isOdd x) = true by unfold isOdd; simp; omega)
      go_enter Try.func14, Try.ntmps14
      go_wp2
      go_ret
      exact ⟨by rw [E.out]; rfl, rfl⟩
    · have d2 : decide (4611686018427387904 < x) = false := decide_eq_false h2
      have E := Lib.hid (show (isOdd x) = false by unfold isOdd; simp; omega)
      go_enter Try.func14, Try.ntmps14
      go_wp2
      go_ret
      exact ⟨by rw [E.out]; rfl, rfl⟩

theorem first_t (x m : Int) (B : Nat) (w : World) (hB : Blk w B 3 #[.int .i64 m]) : Calls Try.prog 17 #[.int .i64 x, .pointer (some ⟨B, 0, none⟩)] w fun e w' => e = .returned (.bool (decide (m ≤ x))) ∧ w' = w := by
  have c0 := hB.cell0
  go_enter Try.func17, Try.ntmps17
  go_wp2
  go_ret
  exact ⟨rfl, rfl⟩

theorem second_t (x m : Int) (B : Nat) (w : World) (hm : okE m) (hB : Blk w B 3 #[.int .i64 m]) : Calls Try.prog 19 #[.int .i64 x, .pointer (some ⟨B, 0, none⟩)] w fun e w' => e = .returned (.bool (decide (tenth m ≤ x))) ∧ w' = w := by
  have c0 := hB.cell0
  have h0 := hm.1
  have h1 := hm.2
  have E := Lib.hid (tenth_eq h0)
  have e1 : m.tdiv 10 = m / 10 := Int.tdiv_eq_ediv_of_nonneg h0
  have e2 : m.tmod 10 = m % 10 := Int.tmod_eq_emod_of_nonneg h0
  have i1 : IntKind.i64.wrap (m / 10) = m / 10 := IntWalk.i64_in _ (by omega)
  have i2 : IntKind.i64.wrap (m / 10 + 1) = m / 10 + 1 := IntWalk.i64_in _ (by omega)
  by_cases hz : m % 10 < 1
  · have i3 : IntKind.i64.wrap (m / 10 + m % 10) = m / 10 + m % 10 := IntWalk.i64_in _ (by omega)
    have hT := Lib.hid (show tenth m = m / 10 + m % 10 by have := E.out; omega)
    clear E
    go_enter Try.func19, Try.ntmps19
    go_wp2
    go_ret
    exact ⟨by rw [hT.out]; rfl, rfl⟩
  · have hT := Lib.hid (show tenth m = m / 10 + 1 by have := E.out; omega)
    clear E
    go_enter Try.func19, Try.ntmps19
    go_wp2
    go_ret
    exact ⟨by rw [hT.out]; rfl, rfl⟩

set_option maxHeartbeats 1000000 in
theorem sums_t (A : Option Addr) (n c : Nat) (x p q : Int) (P L R : Nat) (w : World) (hn : 0 < n) (hn2 : n ≤ 65536) (hx : okE x) (hp : 0 ≤ p) (hp2 : p + x / (n : Int) ≤ 4611686018427387904) (hq : 0 ≤ q) (hq2 : q ≤ 4294967296)
    (hP : Blk w P 3 #[.int .i64 p]) (hL : Blk w L 22 #[.slice A n c]) (hR : Blk w R 3 #[.int .i64 q]) (hPR : P ≠ R) :
    Calls Try.prog 28 #[.int .i64 x, .pointer (some ⟨P, 0, none⟩), .pointer (some ⟨L, 0, none⟩), .pointer (some ⟨R, 0, none⟩)] w fun e w' =>
      (∃ v, e = .returned v) ∧ Blk w' P 3 #[.int .i64 (p + x / (n : Int))] ∧ Blk w' R 3 #[.int .i64 (q + x % (n : Int))] ∧ Keep (fun r => r = P ∨ r = R) w w' := by
  have hz : ¬ (n : Int) = 0 := by omega
  have e1 : x.tdiv (n : Int) = x / (n : Int) := Int.tdiv_eq_ediv_of_nonneg hx.1
  have e2 : x.tmod (n : Int) = x % (n : Int) := Int.tmod_eq_emod_of_nonneg hx.1
  have q0 := Int.ediv_nonneg hx.1 (by omega : 0 ≤ (n : Int))
  have q1 := Int.ediv_le_self (n : Int) hx.1
  have q2 := hx.2
  have r0 := Int.emod_nonneg x (by omega : (n : Int) ≠ 0)
  have r1 := Int.emod_lt_of_pos x (by omega : 0 < (n : Int))
  have i1 : IntKind.i64.wrap (x / (n : Int)) = x / (n : Int) := IntWalk.i64_in _ (by omega)
  have i2 : IntKind.i64.wrap (p + x / (n : Int)) = p + x / (n : Int) := IntWalk.i64_in _ (by omega)
  have i3 : IntKind.i64.wrap (q + x % (n : Int)) = q + x % (n : Int) := IntWalk.i64_in _ (by omega)
  have hPL : P ≠ L := hP.ne hL (by decide)
  have hRL : R ≠ L := hR.ne hL (by decide)
  have c0 := hP.cell0
  have c1 := hL.cell0
  have c2 := hR.cell0
  have f0 := hP.frozen 0
  have f2 := hR.frozen 0
  have hLP : L ≠ P := fun h => hPL h.symm
  have hLR : L ≠ R := fun h => hRL h.symm
  have hRP : R ≠ P := fun h => hPR h.symm
  go_enter Try.func28, Try.ntmps28
  go_wp2_with fail
  go_region
  go_wp2_with fail
  go_region
  go_wp2
  refine bodyPost_end (results_none rfl _ _ _) rfl ?_
  refine ⟨⟨_, rfl⟩, ?_, ?_, ?_⟩
  · exact (hP.set0 _).other (by simpa using hPR) _
  · exact (hR.other (by simpa using hRP) _).set0 _
  · exact ((((Keep.refl (fun r => r = P ∨ r = R) w).setCell (p := ⟨P, 0, none⟩) (fun _ => Or.inl rfl) _).setCell (p := ⟨R, 0, none⟩) (fun _ => Or.inr rfl) _).drew).drew
end Go.Proofs.Ytoeigfkllamplaa
