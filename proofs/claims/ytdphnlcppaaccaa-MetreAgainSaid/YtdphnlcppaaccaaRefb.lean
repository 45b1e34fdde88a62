/-
  The reference's Check refuses changes that are not valid, and no changes. Conditions: none but a bound on their number.
-/
import Derived.Test.YtdphnlcppaaccaaRefs
namespace Go.Proofs.Ytdphnlcppaaccaa
open Go.RowKit

theorem rcheck_nil (A : Option Addr) (c : Nat) (w : World) :
    Calls Try.prog 14 #[.slice A 0 c] w fun e w' => e = .returned (.int .i64 100) ∧ Below w.heap.size w w' := by
  go_enter Try.func14, Try.ntmps14
  go_wp2
  go_ret
  exact ⟨rfl, Below.refl _ _⟩

set_option maxHeartbeats 4000000 in
theorem rcheck_no (b o c : Nat) (ms : List Met) (w : World) (hv : ¬ Valid ms) (hp : 0 < ms.length) (hm : MetAt w b o ms) (hn : ms.length ≤ 1000000000) :
    Calls Try.prog 14 #[.slice (some ⟨b, o, none⟩) ms.length c] w fun e w' => e = .returned (.int .i64 100) ∧ Below w.heap.size w w' := by
  have hb := hm.lt
  have g0 := hm.c0 0 hp
  simp only [Nat.zero_mul, Nat.add_zero] at g0
  have n0 : ((ms.length : Int) == 0) = false := beq_eq_false_iff_ne.2 (by omega)
  by_cases hl : 64 < ms.length
  · have hl' : decide (64 < (ms.length : Int)) = true := decide_eq_true (by omega)
    go_enter Try.func14, Try.ntmps14
    go_wp2
    go_ret
    exact ⟨rfl, Below.refl _ _⟩
  by_cases hz : mb ms 0 = 0
  case neg =>
    have hz' : (mb ms 0 == 0) = false := beq_eq_false_iff_ne.2 hz
    have hl' : decide (64 < (ms.length : Int)) = false := decide_eq_false (by omega)
    go_enter Try.func14, Try.ntmps14
    go_wp2
    go_ret
    exact ⟨rfl, Below.refl _ _⟩
  have HZ := Lib.hid hz
  rw [hz] at g0
  clear hz
  have HV := Lib.hid hv
  clear hv
  go_enter Try.func14, Try.ntmps14
  go_wp2
  go_loopw [3] (fun i wr => ∃ k : Nat, k ≤ ms.length ∧ i = .int .i64 k ∧ Below w.heap.size w wr ∧ Hid ((∀ i, i < k → Fine ms i) ∧ ∀ i, i + 1 < k → mb ms i < mb ms (i + 1))) (fun i _ => ms.length - (intOf i).toNat)
  case atStart => exact ⟨0, by omega, rfl, Below.refl _ _, ⟨fun i hi => by omega, fun i hi => by omega⟩⟩
  case round =>
    obtain ⟨k, hk, rfl, hw, hI⟩ := hrel
    have hm' := hm.below hw
    have hb' := hm'.lt
    by_cases hlt : k < ms.length
    · have g1 := hm'.c0 k hlt
      have g2 := hm'.c1 k hlt
      have g3 := hm'.c2 k hlt
      by_cases c0 : mb ms k < 0
      · have d0 : decide (mb ms k < 0) = true := decide_eq_true c0
        go_wp2
        go_quiet (fail)
        go_wp2
        go_ret
        exact ⟨rfl, below_drewN (hw.alloc hw.size _) _⟩
      have d0 : decide (mb ms k < 0) = false := decide_eq_false c0
      by_cases c1 : 1048576 < mb ms k
      · have d1 : decide (1048576 < mb ms k) = true := decide_eq_true c1
        go_wp2
        go_quiet (fail)
        go_wp2
        go_ret
        exact ⟨rfl, below_drewN (hw.alloc hw.size _) _⟩
      have d1 : decide (1048576 < mb ms k) = false := decide_eq_false c1
      by_cases c2 : mt ms k < 1
      · have d2 : decide (mt ms k < 1) = true := decide_eq_true c2
        go_wp2
        go_quiet (fail)
        go_wp2
        go_ret
        exact ⟨rfl, below_drewN (hw.alloc hw.size _) _⟩
      have d2 : decide (mt ms k < 1) = false := decide_eq_false c2
      by_cases c3 : 32 < mt ms k
      · have d3 : decide (32 < mt ms k) = true := decide_eq_true c3
        go_wp2
        go_quiet (fail)
        go_wp2
        go_ret
        exact ⟨rfl, below_drewN (hw.alloc hw.size _) _⟩
      have d3 : decide (32 < mt ms k) = false := decide_eq_false c3
      by_cases c4 : mu ms k < 1
      · have d4 : decide (mu ms k < 1) = true := decide_eq_true c4
        go_wp2
        go_quiet (fail)
        go_wp2
        go_ret
        exact ⟨rfl, below_drewN (hw.alloc hw.size _) _⟩
      have d4 : decide (mu ms k < 1) = false := decide_eq_false c4
      by_cases c5 : 65536 < mu ms k
      · have d5 : decide (65536 < mu ms k) = true := decide_eq_true c5
        go_wp2
        go_quiet (fail)
        go_wp2
        go_ret
        exact ⟨rfl, below_drewN (hw.alloc hw.size _) _⟩
      have d5 : decide (65536 < mu ms k) = false := decide_eq_false c5
      have hf : Hid (Fine ms k) := ⟨by omega, by omega, by omega, by omega, by omega, by omega⟩
      rcases Nat.eq_zero_or_pos k with rfl | hk0
      · simp only [Nat.zero_mul, Nat.add_zero] at g1 g2 g3
        go_wp2
        go_quiet (fail)
        go_wp2
        go_roundw
        case rel => exact ⟨1, by omega, by go_num, below_drewN (hw.alloc hw.size _) _, ⟨fun i hi => (show i = 0 by omega) ▸ hf.out, fun i hi => by omega⟩⟩
        case measure => simp [intOf]; omega
      · obtain ⟨j, rfl⟩ : ∃ j, k = j + 1 := ⟨k - 1, by omega⟩
        have g4 := hm'.c0 j (by omega)
        have i3 : (j : Int) < (ms.length : Int) := by omega
        have i4 : IntKind.i64.wrap (j : Int) = (j : Int) := IntWalk.i64_in _ (by omega)
        by_cases c7 : mb ms (j + 1) ≤ mb ms j
        · have d7 : decide (mb ms (j + 1) ≤ mb ms j) = true := decide_eq_true c7
          go_wp2
          go_quiet (fail)
          go_wp2
          go_ret
          exact ⟨rfl, below_drewN (hw.alloc hw.size _) _⟩
        · have d7 : decide (mb ms (j + 1) ≤ mb ms j) = false := decide_eq_false c7
          go_wp2
          go_quiet (fail)
          go_wp2
          go_roundw
          case rel =>
            refine ⟨j + 1 + 1, by omega, by go_num, below_drewN (hw.alloc hw.size _) _, ?_⟩
            refine ⟨fun i hi => ?_, fun i hi => ?_⟩
            · rcases Nat.lt_or_ge i (j + 1) with h | h
              · exact hI.out.1 i h
              · obtain rfl : i = j + 1 := by omega
                exact hf.out
            · rcases Nat.lt_or_ge (i + 1) (j + 1) with h | h
              · exact hI.out.2 i h
              · obtain rfl : i = j := by omega
                omega
          case measure => simp [intOf]; omega
    · obtain rfl : k = ms.length := by omega
      exact (HV.out ⟨by omega, by omega, HZ.out, hI.out.1, hI.out.2⟩).elim
end Go.Proofs.Ytdphnlcppaaccaa
