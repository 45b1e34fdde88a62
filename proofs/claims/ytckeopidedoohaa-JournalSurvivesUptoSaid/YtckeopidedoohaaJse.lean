/-
  Whether two journals are equal. Conditions: they lie as plain data.
-/
import Derived.Test.YtckeopidedoohaaJsa
namespace Go.Proofs.Ytckeopidedoohaa
open Go.RowKit
variable {n₀ : Nat}
attribute [local go_sem] Oper.semAt_some

def sameJ (a b : Jn) : Bool := decide (a.many = b.many) && (decide (a.sync = b.sync) && decide (a.recs = b.recs))
theorem sameJ_self (a : Jn) : sameJ a a = true := by unfold sameJ; simp

set_option maxRecDepth 20000 in
set_option maxHeartbeats 4000000 in
theorem jsame_t (RA RB : Option Addr) (ra rb : Nat) (a b : Jn) (w : World) (hl1 : a.recs.length ≤ 140737488355328) (hl2 : b.recs.length ≤ 140737488355328) (h1 : RowsAt n₀ w RA a.recs) (h2 : RowsAt n₀ w RB b.recs) :
    Calls Try.prog 46 #[.agg #[.slice RA a.recs.length ra, .int .i64 a.many, .int .i64 a.sync], .agg #[.slice RB b.recs.length rb, .int .i64 b.many, .int .i64 b.sync]] w fun e w' => e = .returned (.bool (sameJ a b)) ∧ Below w.heap.size w w' := by
  have hbb0 : Below w.heap.size w ((w.alloc (.cells #[.slice RA a.recs.length ra, .int .i64 a.many, .int .i64 a.sync] 55)).alloc (.cells #[.slice RB b.recs.length rb, .int .i64 b.many, .int .i64 b.sync] 55)) := ((Below.refl _ _).alloc (Nat.le_refl _) _).alloc (by simp) _
  by_cases k1 : a.many = b.many
  case neg =>
    have E := Lib.hid (show sameJ a b = false by unfold sameJ; rw [decide_eq_false k1]; rfl)
    have d1 : (a.many == b.many) = false := beq_eq_false_iff_ne.2 k1
    clear k1
    go_enter Try.func46, Try.ntmps46
    go_wp2
    go_ret
    exact ⟨by rw [E.out]; rfl, hbb0⟩
  have d1 : (a.many == b.many) = true := beq_iff_eq.2 k1
  by_cases k2 : a.sync = b.sync
  case neg =>
    have E := Lib.hid (show sameJ a b = false by unfold sameJ; rw [decide_eq_true k1, decide_eq_false k2]; rfl)
    have d2 : (a.sync == b.sync) = false := beq_eq_false_iff_ne.2 k2
    clear k1 k2
    go_enter Try.func46, Try.ntmps46
    go_wp2
    go_ret
    exact ⟨by rw [E.out]; rfl, hbb0⟩
  have d2 : (a.sync == b.sync) = true := beq_iff_eq.2 k2
  have E := Lib.hid (show sameJ a b = decide (a.recs = b.recs) by unfold sameJ; rw [decide_eq_true k1, decide_eq_true k2]; rfl)
  clear k1 k2
  obtain ⟨y, hy⟩ : ∃ y, y = decide (a.recs = b.recs) := ⟨_, rfl⟩
  have HY := Lib.hid hy
  clear hy
  have K := sameR_t RA RB ra rb a.recs b.recs _ hl1 hl2 (h1.below hbb0) (h2.below hbb0)
  rw [← HY.out] at K
  go_enter Try.func46, Try.ntmps46
  go_wp2_with (fail)
  go_at_call 55
  refine K.mono ?_
  rintro e w2 ⟨rfl, hw2⟩
  clear K
  go_wp2
  go_ret
  exact ⟨by rw [E.out, ← HY.out]; (first | rfl | (cases y <;> rfl)), hbb0.trans (hw2.mono hbb0.size)⟩
end Go.Proofs.Ytckeopidedoohaa
