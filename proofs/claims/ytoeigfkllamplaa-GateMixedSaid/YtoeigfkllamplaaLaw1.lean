/-
  The law GateSpec walked: it answers true.
-/
import Derived.Test.YtoeigfkllamplaaSane
namespace Go.Proofs.Ytoeigfkllamplaa
open Go.RowKit
attribute [local go_sem] Oper.semAt_some

def Yes (w : World) (e : Ending) (w' : World) : Prop := e = .returned (.bool true) ∧ Below w.heap.size w w'

theorem gG_len (l : List Int) (f : Int) : (gGated l f).1.length ≤ l.length := by
  unfold gGated
  split
  · simp
  · split
    · simp
    · split
      · simp
      · exact Nat.le_trans (thr_len _ _) (thr_len _ _)

set_option maxHeartbeats 1000000 in
theorem gateSpec_t (A : Option Addr) (c : Nat) (l : List Int) (floor : Int) (w : World) (h : IntsAt .i64 w A l) :
    Calls Try.prog 3 #[.slice A l.length c, .int .i64 floor] w (Yes w) := by
  by_cases hl : 300 < l.length
  · have d : decide (300 < (l.length : Int)) = true := decide_eq_true (by omega)
    go_enter Try.func3, Try.ntmps3
    go_wp2_with (go_at_call 6; refine (sane_t _).mono ?_; rintro e w1 ⟨rfl, hw1⟩)
    go_ret
    exact ⟨rfl, hw1⟩
  have d : decide (300 < (l.length : Int)) = false := decide_eq_false (by omega)
  have hn : l.length ≤ 1000000 := by omega
  have K7 := fun W (h : IntsAt .i64 W A l) => gated_t A c l floor W hn h
  have K8 := fun W (h : IntsAt .i64 W A l) => rgated_t A c l floor W hn h
  have K9 := fun W (h : IntsAt .i64 W A l) => loud_t A c l floor W hn h
  have K10 := fun W (h : IntsAt .i64 W A l) => rloud_t A c l floor W hn h
  have hlen := gG_len l floor
  obtain ⟨P, hP⟩ : ∃ P, P = gGated l floor := ⟨_, rfl⟩
  obtain ⟨Q, hQ⟩ : ∃ P, P = gLoud l floor := ⟨_, rfl⟩
  rw [← hP] at K7 K8 hlen
  rw [← hQ] at K9 K10
  clear hP hQ
  obtain ⟨x, er⟩ := P
  obtain ⟨m, ok, g⟩ := Q
  unfold IntsErr at K7 K8
  unfold Loud at K9 K10
  dsimp only at K7 K8 K9 K10 hlen
  go_enter Try.func3, Try.ntmps3
  go_wp2_with (first
    | (go_at_call 6; refine (sane_t _).mono ?_; rintro e w1 ⟨rfl, hw1⟩; have h1 := h.below hw1)
    | (go_at_call 7; refine (K7 _ h1).mono ?_; rintro e w2 ⟨A2, c2, rfl, hI2, hw2⟩; have b2 := hw1.trans (hw2.mono hw1.size); have h2 := h1.below hw2)
    | (go_at_call 8; refine (K8 _ h2).mono ?_; rintro e w3 ⟨A3, c3, rfl, hI3, hw3⟩; have b3 := b2.trans (hw3.mono b2.size); have h3 := h2.below hw3; have hI2 := hI2.below hw3)
    | (go_at_call 9; refine (K9 _ h3).mono ?_; rintro e w4 ⟨rfl, hw4⟩; have b4 := b3.trans (hw4.mono b3.size); have h4 := h3.below hw4; have hI2 := hI2.below hw4; have hI3 := hI3.below hw4)
    | (go_at_call 10; refine (K10 _ h4).mono ?_; rintro e w5 ⟨rfl, hw5⟩; have b5 := b4.trans (hw5.mono b4.size); have hI2 := hI2.below hw5; have hI3 := hI3.below hw5)
    | (go_at_call 11; refine (same_t _ _ _ _ _ _ x x _ rfl rfl hI2 hI3 (by omega) (by omega)).mono ?_; rintro e w6 ⟨rfl, hw6⟩; have b6 := b5.trans (hw6.mono b5.size)))
  go_ret
  exact ⟨rfl, b6⟩
end Go.Proofs.Ytoeigfkllamplaa
