/-
  How many samples pass until something changes; whether a span goes on with another. Conditions: numbers in their bounds.
-/
import Derived.Test.YtjkclplnflaplaaRun
namespace Go.Proofs.Ytjkclplnflaplaa
open Go.RowKit

/-- How many samples, at most n, pass until the loop begins again, or the recording begins or ends. -/
def stdS (s : St) (n : Int) : Int :=
  if s.roll = false then n else
  if recB s = true then min (if (s.pon && decide (s.pos < s.pa)) = true then min (if loopingB s = true then min n (s.lb - s.pos) else n) (s.pa - s.pos) else (if loopingB s = true then min n (s.lb - s.pos) else n)) (s.pb - s.pos)
  else if (s.pon && decide (s.pos < s.pa)) = true then min (if loopingB s = true then min n (s.lb - s.pos) else n) (s.pa - s.pos) else (if loopingB s = true then min n (s.lb - s.pos) else n)
/-- A state's punch is one. -/
def Okq (s : St) : Prop := s.pon = true → 0 ≤ s.pa ∧ s.pa < s.pb ∧ s.pb ≤ 1099511627776
theorem Okq.adv {s : St} (h : Okq s) (n : Int) : Okq (advS s n) := by
  unfold advS
  split
  · exact h
  · split
    · exact h
    · exact h
theorem Okq.ord {s : St} (h : Okq s) {x : Ord} (hx : Right x) : Okq (ordS s x) := by
  unfold Right at hx
  unfold ordS
  split
  · exact h
  split
  · exact h
  split
  · exact h
  split
  · exact h
  split
  · exact h
  split
  · exact fun _ => by dsimp only; omega
  · exact h
theorem run_okq {l : List Ord} (hg : GoodTo l l.length) (k : Nat) (hk : k ≤ l.length) : Okq (runS l k) := by
  induction k with
  | zero => exact fun h => by simp [runS, s0] at h
  | succ k ih => exact ((ih (by omega)).adv _).ord (hg.1 k (by omega))

set_option maxHeartbeats 4000000 in
theorem steady_t (s : St) (n : Int) (w : World) (hs : OkS s) (hq : Okq s) (h0 : 0 ≤ n) (h1 : n ≤ 4398046511104) :
    Calls Try.prog 39 #[stv s, .int .i64 n] w fun e w' => e = .returned (.int .i64 (stdS s n)) ∧ Below w.heap.size w w' := by
  have KL := fun W => looping_t s W
  have KR := fun W => recorded_t s W
  obtain ⟨p0, p1, hl⟩ := hs
  unfold Okq at hq
  unfold stv stc at KL KR ⊢
  obtain ⟨pos, roll, lon, la, lb, pon, pa, pb⟩ := s
  dsimp only at *
  have hal : Below w.heap.size w (w.alloc (.cells #[.int .i64 pos, .bool roll, .bool lon, .int .i64 la, .int .i64 lb, .bool pon, .int .i64 pa, .int .i64 pb] 46)) := (Below.refl _ w).alloc (Nat.le_refl _) _
  cases roll
  case false =>
    have E := Lib.hid (show stdS ⟨pos, false, lon, la, lb, pon, pa, pb⟩ n = n from rfl)
    go_enter Try.func39, Try.ntmps39
    go_wp2
    go_ret
    exact ⟨by rw [E.out]; rfl, hal⟩
  obtain ⟨L, hL⟩ : ∃ L, L = loopingB ⟨pos, true, lon, la, lb, pon, pa, pb⟩ := ⟨_, rfl⟩
  obtain ⟨R, hR⟩ : ∃ R, R = recB ⟨pos, true, lon, la, lb, pon, pa, pb⟩ := ⟨_, rfl⟩
  rw [← hL] at KL
  rw [← hR] at KR
  have l1 : L = true → pos < lb ∧ lb ≤ 1099511627776 := fun h => by
    rw [h] at hL
    have h2 : lon = true ∧ pos < lb := by
      have := hL.symm
      unfold loopingB at this
      simpa using this
    exact ⟨h2.2, (hl h2.1).2.2⟩
  have r1 : R = true → pos < pb ∧ pb ≤ 1099511627776 := fun h => by
    rw [h] at hR
    have h2 : pon = true ∧ pa ≤ pos ∧ pos < pb := by
      have := hR.symm
      unfold recB at this
      simp at this
      exact ⟨this.1.1, this.1.2, this.2⟩
    exact ⟨h2.2.2, (hq h2.1).2.2⟩
  have HL := Lib.hid hL
  have HR := Lib.hid hR
  have HQ := Lib.hid hq
  clear hL hR hl hq
  cases L
  case false =>
    cases pon
    case false =>
      cases R
      case false =>
        have E := Lib.hid (show stdS ⟨pos, true, lon, la, lb, false, pa, pb⟩ n = n by unfold stdS; rw [← HL.out, ← HR.out]; simp)
        have B0 : Blk (w.alloc (.cells #[.int .i64 pos, .bool true, .bool lon, .int .i64 la, .int .i64 lb, .bool false, .int .i64 pa, .int .i64 pb] 46)) w.heap.size 46 #[.int .i64 pos, .bool true, .bool lon, .int .i64 la, .int .i64 lb, .bool false, .int .i64 pa, .int .i64 pb] := Blk.new w 46 _
        go_enter Try.func39, Try.ntmps39
        go_wp2_with (first
          | (go_at_call 35; refine (KL _).mono ?_; rintro e w1 ⟨rfl, hw1⟩; have B1 := B0.below hw1 (by simp); have w1c0 : w1.cell? ⟨w.heap.size, 0, none⟩ = some (.int .i64 pos) := B1.cell 0; have w1c1 : w1.cell? ⟨w.heap.size, 1, none⟩ = some (.bool true) := B1.cell 1; have w1c2 : w1.cell? ⟨w.heap.size, 2, none⟩ = some (.bool lon) := B1.cell 2; have w1c3 : w1.cell? ⟨w.heap.size, 3, none⟩ = some (.int .i64 la) := B1.cell 3; have w1c4 : w1.cell? ⟨w.heap.size, 4, none⟩ = some (.int .i64 lb) := B1.cell 4; have w1c5 : w1.cell? ⟨w.heap.size, 5, none⟩ = some (.bool false) := B1.cell 5; have w1c6 : w1.cell? ⟨w.heap.size, 6, none⟩ = some (.int .i64 pa) := B1.cell 6; have w1c7 : w1.cell? ⟨w.heap.size, 7, none⟩ = some (.int .i64 pb) := B1.cell 7)
          | (go_at_call 23; refine (KR _).mono ?_; rintro e w2 ⟨rfl, hw2⟩; have B2 := B1.below hw2 (by have := B1.lt; omega); have w2c0 : w2.cell? ⟨w.heap.size, 0, none⟩ = some (.int .i64 pos) := B2.cell 0; have w2c1 : w2.cell? ⟨w.heap.size, 1, none⟩ = some (.bool true) := B2.cell 1; have w2c2 : w2.cell? ⟨w.heap.size, 2, none⟩ = some (.bool lon) := B2.cell 2; have w2c3 : w2.cell? ⟨w.heap.size, 3, none⟩ = some (.int .i64 la) := B2.cell 3; have w2c4 : w2.cell? ⟨w.heap.size, 4, none⟩ = some (.int .i64 lb) := B2.cell 4; have w2c5 : w2.cell? ⟨w.heap.size, 5, none⟩ = some (.bool false) := B2.cell 5; have w2c6 : w2.cell? ⟨w.heap.size, 6, none⟩ = some (.int .i64 pa) := B2.cell 6; have w2c7 : w2.cell? ⟨w.heap.size, 7, none⟩ = some (.int .i64 pb) := B2.cell 7))
        all_goals
          go_ret
          refine ⟨?_, (hal.trans (hw1.mono hal.size)).trans (hw2.mono (hal.trans (hw1.mono hal.size)).size)⟩
          rw [E.out]
          exact congrArg (fun v => Ending.returned (Value.int IntKind.i64 v)) (by omega)
      have r2 := r1 rfl
      have E := Lib.hid (show stdS ⟨pos, true, lon, la, lb, false, pa, pb⟩ n = min n (pb - pos) by unfold stdS; rw [← HL.out, ← HR.out]; simp)
      have B0 : Blk (w.alloc (.cells #[.int .i64 pos, .bool true, .bool lon, .int .i64 la, .int .i64 lb, .bool false, .int .i64 pa, .int .i64 pb] 46)) w.heap.size 46 #[.int .i64 pos, .bool true, .bool lon, .int .i64 la, .int .i64 lb, .bool false, .int .i64 pa, .int .i64 pb] := Blk.new w 46 _
      go_enter Try.func39, Try.ntmps39
      go_wp2_with (first
        | (go_at_call 35; refine (KL _).mono ?_; rintro e w1 ⟨rfl, hw1⟩; have B1 := B0.below hw1 (by simp); have w1c0 : w1.cell? ⟨w.heap.size, 0, none⟩ = some (.int .i64 pos) := B1.cell 0; have w1c1 : w1.cell? ⟨w.heap.size, 1, none⟩ = some (.bool true) := B1.cell 1; have w1c2 : w1.cell? ⟨w.heap.size, 2, none⟩ = some (.bool lon) := B1.cell 2; have w1c3 : w1.cell? ⟨w.heap.size, 3, none⟩ = some (.int .i64 la) := B1.cell 3; have w1c4 : w1.cell? ⟨w.heap.size, 4, none⟩ = some (.int .i64 lb) := B1.cell 4; have w1c5 : w1.cell? ⟨w.heap.size, 5, none⟩ = some (.bool false) := B1.cell 5; have w1c6 : w1.cell? ⟨w.heap.size, 6, none⟩ = some (.int .i64 pa) := B1.cell 6; have w1c7 : w1.cell? ⟨w.heap.size, 7, none⟩ = some (.int .i64 pb) := B1.cell 7)
        | (go_at_call 23; refine (KR _).mono ?_; rintro e w2 ⟨rfl, hw2⟩; have B2 := B1.below hw2 (by have := B1.lt; omega); have w2c0 : w2.cell? ⟨w.heap.size, 0, none⟩ = some (.int .i64 pos) := B2.cell 0; have w2c1 : w2.cell? ⟨w.heap.size, 1, none⟩ = some (.bool true) := B2.cell 1; have w2c2 : w2.cell? ⟨w.heap.size, 2, none⟩ = some (.bool lon) := B2.cell 2; have w2c3 : w2.cell? ⟨w.heap.size, 3, none⟩ = some (.int .i64 la) := B2.cell 3; have w2c4 : w2.cell? ⟨w.heap.size, 4, none⟩ = some (.int .i64 lb) := B2.cell 4; have w2c5 : w2.cell? ⟨w.heap.size, 5, none⟩ = some (.bool false) := B2.cell 5; have w2c6 : w2.cell? ⟨w.heap.size, 6, none⟩ = some (.int .i64 pa) := B2.cell 6; have w2c7 : w2.cell? ⟨w.heap.size, 7, none⟩ = some (.int .i64 pb) := B2.cell 7))
      all_goals
        go_ret
        refine ⟨?_, (hal.trans (hw1.mono hal.size)).trans (hw2.mono (hal.trans (hw1.mono hal.size)).size)⟩
        rw [E.out]
        exact congrArg (fun v => Ending.returned (Value.int IntKind.i64 v)) (by omega)
    have hpq := HQ.out rfl
    by_cases h5 : pos < pa
    case pos =>
      have d5 : decide (pos < pa) = true := decide_eq_true h5
      cases R
      case false =>
        have E := Lib.hid (show stdS ⟨pos, true, lon, la, lb, true, pa, pb⟩ n = min n (pa - pos) by unfold stdS; rw [← HL.out, ← HR.out]; simp [d5])
        have B0 : Blk (w.alloc (.cells #[.int .i64 pos, .bool true, .bool lon, .int .i64 la, .int .i64 lb, .bool true, .int .i64 pa, .int .i64 pb] 46)) w.heap.size 46 #[.int .i64 pos, .bool true, .bool lon, .int .i64 la, .int .i64 lb, .bool true, .int .i64 pa, .int .i64 pb] := Blk.new w 46 _
        go_enter Try.func39, Try.ntmps39
        go_wp2_with (first
          | (go_at_call 35; refine (KL _).mono ?_; rintro e w1 ⟨rfl, hw1⟩; have B1 := B0.below hw1 (by simp); have w1c0 : w1.cell? ⟨w.heap.size, 0, none⟩ = some (.int .i64 pos) := B1.cell 0; have w1c1 : w1.cell? ⟨w.heap.size, 1, none⟩ = some (.bool true) := B1.cell 1; have w1c2 : w1.cell? ⟨w.heap.size, 2, none⟩ = some (.bool lon) := B1.cell 2; have w1c3 : w1.cell? ⟨w.heap.size, 3, none⟩ = some (.int .i64 la) := B1.cell 3; have w1c4 : w1.cell? ⟨w.heap.size, 4, none⟩ = some (.int .i64 lb) := B1.cell 4; have w1c5 : w1.cell? ⟨w.heap.size, 5, none⟩ = some (.bool true) := B1.cell 5; have w1c6 : w1.cell? ⟨w.heap.size, 6, none⟩ = some (.int .i64 pa) := B1.cell 6; have w1c7 : w1.cell? ⟨w.heap.size, 7, none⟩ = some (.int .i64 pb) := B1.cell 7)
          | (go_at_call 23; refine (KR _).mono ?_; rintro e w2 ⟨rfl, hw2⟩; have B2 := B1.below hw2 (by have := B1.lt; omega); have w2c0 : w2.cell? ⟨w.heap.size, 0, none⟩ = some (.int .i64 pos) := B2.cell 0; have w2c1 : w2.cell? ⟨w.heap.size, 1, none⟩ = some (.bool true) := B2.cell 1; have w2c2 : w2.cell? ⟨w.heap.size, 2, none⟩ = some (.bool lon) := B2.cell 2; have w2c3 : w2.cell? ⟨w.heap.size, 3, none⟩ = some (.int .i64 la) := B2.cell 3; have w2c4 : w2.cell? ⟨w.heap.size, 4, none⟩ = some (.int .i64 lb) := B2.cell 4; have w2c5 : w2.cell? ⟨w.heap.size, 5, none⟩ = some (.bool true) := B2.cell 5; have w2c6 : w2.cell? ⟨w.heap.size, 6, none⟩ = some (.int .i64 pa) := B2.cell 6; have w2c7 : w2.cell? ⟨w.heap.size, 7, none⟩ = some (.int .i64 pb) := B2.cell 7))
        all_goals
          go_ret
          refine ⟨?_, (hal.trans (hw1.mono hal.size)).trans (hw2.mono (hal.trans (hw1.mono hal.size)).size)⟩
          rw [E.out]
          exact congrArg (fun v => Ending.returned (Value.int IntKind.i64 v)) (by omega)
      have r2 := r1 rfl
      have E := Lib.hid (show stdS ⟨pos, true, lon, la, lb, true, pa, pb⟩ n = min (min n (pa - pos)) (pb - pos) by unfold stdS; rw [← HL.out, ← HR.out]; simp [d5])
      have B0 : Blk (w.alloc (.cells #[.int .i64 pos, .bool true, .bool lon, .int .i64 la, .int .i64 lb, .bool true, .int .i64 pa, .int .i64 pb] 46)) w.heap.size 46 #[.int .i64 pos, .bool true, .bool lon, .int .i64 la, .int .i64 lb, .bool true, .int .i64 pa, .int .i64 pb] := Blk.new w 46 _
      go_enter Try.func39, Try.ntmps39
      go_wp2_with (first
        | (go_at_call 35; refine (KL _).mono ?_; rintro e w1 ⟨rfl, hw1⟩; have B1 := B0.below hw1 (by simp); have w1c0 : w1.cell? ⟨w.heap.size, 0, none⟩ = some (.int .i64 pos) := B1.cell 0; have w1c1 : w1.cell? ⟨w.heap.size, 1, none⟩ = some (.bool true) := B1.cell 1; have w1c2 : w1.cell? ⟨w.heap.size, 2, none⟩ = some (.bool lon) := B1.cell 2; have w1c3 : w1.cell? ⟨w.heap.size, 3, none⟩ = some (.int .i64 la) := B1.cell 3; have w1c4 : w1.cell? ⟨w.heap.size, 4, none⟩ = some (.int .i64 lb) := B1.cell 4; have w1c5 : w1.cell? ⟨w.heap.size, 5, none⟩ = some (.bool true) := B1.cell 5; have w1c6 : w1.cell? ⟨w.heap.size, 6, none⟩ = some (.int .i64 pa) := B1.cell 6; have w1c7 : w1.cell? ⟨w.heap.size, 7, none⟩ = some (.int .i64 pb) := B1.cell 7)
        | (go_at_call 23; refine (KR _).mono ?_; rintro e w2 ⟨rfl, hw2⟩; have B2 := B1.below hw2 (by have := B1.lt; omega); have w2c0 : w2.cell? ⟨w.heap.size, 0, none⟩ = some (.int .i64 pos) := B2.cell 0; have w2c1 : w2.cell? ⟨w.heap.size, 1, none⟩ = some (.bool true) := B2.cell 1; have w2c2 : w2.cell? ⟨w.heap.size, 2, none⟩ = some (.bool lon) := B2.cell 2; have w2c3 : w2.cell? ⟨w.heap.size, 3, none⟩ = some (.int .i64 la) := B2.cell 3; have w2c4 : w2.cell? ⟨w.heap.size, 4, none⟩ = some (.int .i64 lb) := B2.cell 4; have w2c5 : w2.cell? ⟨w.heap.size, 5, none⟩ = some (.bool true) := B2.cell 5; have w2c6 : w2.cell? ⟨w.heap.size, 6, none⟩ = some (.int .i64 pa) := B2.cell 6; have w2c7 : w2.cell? ⟨w.heap.size, 7, none⟩ = some (.int .i64 pb) := B2.cell 7))
      all_goals
        go_ret
        refine ⟨?_, (hal.trans (hw1.mono hal.size)).trans (hw2.mono (hal.trans (hw1.mono hal.size)).size)⟩
        rw [E.out]
        exact congrArg (fun v => Ending.returned (Value.int IntKind.i64 v)) (by omega)
    have d5 : decide (pos < pa) = false := decide_eq_false h5
    cases R
    case false =>
      have E := Lib.hid (show stdS ⟨pos, true, lon, la, lb, true, pa, pb⟩ n = n by unfold stdS; rw [← HL.out, ← HR.out]; simp [d5])
      have B0 : Blk (w.alloc (.cells #[.int .i64 pos, .bool true, .bool lon, .int .i64 la, .int .i64 lb, .bool true, .int .i64 pa, .int .i64 pb] 46)) w.heap.size 46 #[.int .i64 pos, .bool true, .bool lon, .int .i64 la, .int .i64 lb, .bool true, .int .i64 pa, .int .i64 pb] := Blk.new w 46 _
      go_enter Try.func39, Try.ntmps39
      go_wp2_with (first
        | (go_at_call 35; refine (KL _).mono ?_; rintro e w1 ⟨rfl, hw1⟩; have B1 := B0.below hw1 (by simp); have w1c0 : w1.cell? ⟨w.heap.size, 0, none⟩ = some (.int .i64 pos) := B1.cell 0; have w1c1 : w1.cell? ⟨w.heap.size, 1, none⟩ = some (.bool true) := B1.cell 1; have w1c2 : w1.cell? ⟨w.heap.size, 2, none⟩ = some (.bool lon) := B1.cell 2; have w1c3 : w1.cell? ⟨w.heap.size, 3, none⟩ = some (.int .i64 la) := B1.cell 3; have w1c4 : w1.cell? ⟨w.heap.size, 4, none⟩ = some (.int .i64 lb) := B1.cell 4; have w1c5 : w1.cell? ⟨w.heap.size, 5, none⟩ = some (.bool true) := B1.cell 5; have w1c6 : w1.cell? ⟨w.heap.size, 6, none⟩ = some (.int .i64 pa) := B1.cell 6; have w1c7 : w1.cell? ⟨w.heap.size, 7, none⟩ = some (.int .i64 pb) := B1.cell 7)
        | (go_at_call 23; refine (KR _).mono ?_; rintro e w2 ⟨rfl, hw2⟩; have B2 := B1.below hw2 (by have := B1.lt; omega); have w2c0 : w2.cell? ⟨w.heap.size, 0, none⟩ = some (.int .i64 pos) := B2.cell 0; have w2c1 : w2.cell? ⟨w.heap.size, 1, none⟩ = some (.bool true) := B2.cell 1; have w2c2 : w2.cell? ⟨w.heap.size, 2, none⟩ = some (.bool lon) := B2.cell 2; have w2c3 : w2.cell? ⟨w.heap.size, 3, none⟩ = some (.int .i64 la) := B2.cell 3; have w2c4 : w2.cell? ⟨w.heap.size, 4, none⟩ = some (.int .i64 lb) := B2.cell 4; have w2c5 : w2.cell? ⟨w.heap.size, 5, none⟩ = some (.bool true) := B2.cell 5; have w2c6 : w2.cell? ⟨w.heap.size, 6, none⟩ = some (.int .i64 pa) := B2.cell 6; have w2c7 : w2.cell? ⟨w.heap.size, 7, none⟩ = some (.int .i64 pb) := B2.cell 7))
      all_goals
        go_ret
        refine ⟨?_, (hal.trans (hw1.mono hal.size)).trans (hw2.mono (hal.trans (hw1.mono hal.size)).size)⟩
        rw [E.out]
        exact congrArg (fun v => Ending.returned (Value.int IntKind.i64 v)) (by omega)
    have r2 := r1 rfl
    have E := Lib.hid (show stdS ⟨pos, true, lon, la, lb, true, pa, pb⟩ n = min n (pb - pos) by unfold stdS; rw [← HL.out, ← HR.out]; simp [d5])
    have B0 : Blk (w.alloc (.cells #[.int .i64 pos, .bool true, .bool lon, .int .i64 la, .int .i64 lb, .bool true, .int .i64 pa, .int .i64 pb] 46)) w.heap.size 46 #[.int .i64 pos, .bool true, .bool lon, .int .i64 la, .int .i64 lb, .bool true, .int .i64 pa, .int .i64 pb] := Blk.new w 46 _
    go_enter Try.func39, Try.ntmps39
    go_wp2_with (first
      | (go_at_call 35; refine (KL _).mono ?_; rintro e w1 ⟨rfl, hw1⟩; have B1 := B0.below hw1 (by simp); have w1c0 : w1.cell? ⟨w.heap.size, 0, none⟩ = some (.int .i64 pos) := B1.cell 0; have w1c1 : w1.cell? ⟨w.heap.size, 1, none⟩ = some (.bool true) := B1.cell 1; have w1c2 : w1.cell? ⟨w.heap.size, 2, none⟩ = some (.bool lon) := B1.cell 2; have w1c3 : w1.cell? ⟨w.heap.size, 3, none⟩ = some (.int .i64 la) := B1.cell 3; have w1c4 : w1.cell? ⟨w.heap.size, 4, none⟩ = some (.int .i64 lb) := B1.cell 4; have w1c5 : w1.cell? ⟨w.heap.size, 5, none⟩ = some (.bool true) := B1.cell 5; have w1c6 : w1.cell? ⟨w.heap.size, 6, none⟩ = some (.int .i64 pa) := B1.cell 6; have w1c7 : w1.cell? ⟨w.heap.size, 7, none⟩ = some (.int .i64 pb) := B1.cell 7)
      | (go_at_call 23; refine (KR _).mono ?_; rintro e w2 ⟨rfl, hw2⟩; have B2 := B1.below hw2 (by have := B1.lt; omega); have w2c0 : w2.cell? ⟨w.heap.size, 0, none⟩ = some (.int .i64 pos) := B2.cell 0; have w2c1 : w2.cell? ⟨w.heap.size, 1, none⟩ = some (.bool true) := B2.cell 1; have w2c2 : w2.cell? ⟨w.heap.size, 2, none⟩ = some (.bool lon) := B2.cell 2; have w2c3 : w2.cell? ⟨w.heap.size, 3, none⟩ = some (.int .i64 la) := B2.cell 3; have w2c4 : w2.cell? ⟨w.heap.size, 4, none⟩ = some (.int .i64 lb) := B2.cell 4; have w2c5 : w2.cell? ⟨w.heap.size, 5, none⟩ = some (.bool true) := B2.cell 5; have w2c6 : w2.cell? ⟨w.heap.size, 6, none⟩ = some (.int .i64 pa) := B2.cell 6; have w2c7 : w2.cell? ⟨w.heap.size, 7, none⟩ = some (.int .i64 pb) := B2.cell 7))
    all_goals
      go_ret
      refine ⟨?_, (hal.trans (hw1.mono hal.size)).trans (hw2.mono (hal.trans (hw1.mono hal.size)).size)⟩
      rw [E.out]
      exact congrArg (fun v => Ending.returned (Value.int IntKind.i64 v)) (by omega)
  have l2 := l1 rfl
  cases pon
  case false =>
    cases R
    case false =>
      have E := Lib.hid (show stdS ⟨pos, true, lon, la, lb, false, pa, pb⟩ n = min n (lb - pos) by unfold stdS; rw [← HL.out, ← HR.out]; simp)
      have B0 : Blk (w.alloc (.cells #[.int .i64 pos, .bool true, .bool lon, .int .i64 la, .int .i64 lb, .bool false, .int .i64 pa, .int .i64 pb] 46)) w.heap.size 46 #[.int .i64 pos, .bool true, .bool lon, .int .i64 la, .int .i64 lb, .bool false, .int .i64 pa, .int .i64 pb] := Blk.new w 46 _
      go_enter Try.func39, Try.ntmps39
      go_wp2_with (first
        | (go_at_call 35; refine (KL _).mono ?_; rintro e w1 ⟨rfl, hw1⟩; have B1 := B0.below hw1 (by simp); have w1c0 : w1.cell? ⟨w.heap.size, 0, none⟩ = some (.int .i64 pos) := B1.cell 0; have w1c1 : w1.cell? ⟨w.heap.size, 1, none⟩ = some (.bool true) := B1.cell 1; have w1c2 : w1.cell? ⟨w.heap.size, 2, none⟩ = some (.bool lon) := B1.cell 2; have w1c3 : w1.cell? ⟨w.heap.size, 3, none⟩ = some (.int .i64 la) := B1.cell 3; have w1c4 : w1.cell? ⟨w.heap.size, 4, none⟩ = some (.int .i64 lb) := B1.cell 4; have w1c5 : w1.cell? ⟨w.heap.size, 5, none⟩ = some (.bool false) := B1.cell 5; have w1c6 : w1.cell? ⟨w.heap.size, 6, none⟩ = some (.int .i64 pa) := B1.cell 6; have w1c7 : w1.cell? ⟨w.heap.size, 7, none⟩ = some (.int .i64 pb) := B1.cell 7)
        | (go_at_call 23; refine (KR _).mono ?_; rintro e w2 ⟨rfl, hw2⟩; have B2 := B1.below hw2 (by have := B1.lt; omega); have w2c0 : w2.cell? ⟨w.heap.size, 0, none⟩ = some (.int .i64 pos) := B2.cell 0; have w2c1 : w2.cell? ⟨w.heap.size, 1, none⟩ = some (.bool true) := B2.cell 1; have w2c2 : w2.cell? ⟨w.heap.size, 2, none⟩ = some (.bool lon) := B2.cell 2; have w2c3 : w2.cell? ⟨w.heap.size, 3, none⟩ = some (.int .i64 la) := B2.cell 3; have w2c4 : w2.cell? ⟨w.heap.size, 4, none⟩ = some (.int .i64 lb) := B2.cell 4; have w2c5 : w2.cell? ⟨w.heap.size, 5, none⟩ = some (.bool false) := B2.cell 5; have w2c6 : w2.cell? ⟨w.heap.size, 6, none⟩ = some (.int .i64 pa) := B2.cell 6; have w2c7 : w2.cell? ⟨w.heap.size, 7, none⟩ = some (.int .i64 pb) := B2.cell 7))
      all_goals
        go_ret
        refine ⟨?_, (hal.trans (hw1.mono hal.size)).trans (hw2.mono (hal.trans (hw1.mono hal.size)).size)⟩
        rw [E.out]
        exact congrArg (fun v => Ending.returned (Value.int IntKind.i64 v)) (by omega)
    have r2 := r1 rfl
    have E := Lib.hid (show stdS ⟨pos, true, lon, la, lb, false, pa, pb⟩ n = min (min n (lb - pos)) (pb - pos) by unfold stdS; rw [← HL.out, ← HR.out]; simp)
    have B0 : Blk (w.alloc (.cells #[.int .i64 pos, .bool true, .bool lon, .int .i64 la, .int .i64 lb, .bool false, .int .i64 pa, .int .i64 pb] 46)) w.heap.size 46 #[.int .i64 pos, .bool true, .bool lon, .int .i64 la, .int .i64 lb, .bool false, .int .i64 pa, .int .i64 pb] := Blk.new w 46 _
    go_enter Try.func39, Try.ntmps39
    go_wp2_with (first
      | (go_at_call 35; refine (KL _).mono ?_; rintro e w1 ⟨rfl, hw1⟩; have B1 := B0.below hw1 (by simp); have w1c0 : w1.cell? ⟨w.heap.size, 0, none⟩ = some (.int .i64 pos) := B1.cell 0; have w1c1 : w1.cell? ⟨w.heap.size, 1, none⟩ = some (.bool true) := B1.cell 1; have w1c2 : w1.cell? ⟨w.heap.size, 2, none⟩ = some (.bool lon) := B1.cell 2; have w1c3 : w1.cell? ⟨w.heap.size, 3, none⟩ = some (.int .i64 la) := B1.cell 3; have w1c4 : w1.cell? ⟨w.heap.size, 4, none⟩ = some (.int .i64 lb) := B1.cell 4; have w1c5 : w1.cell? ⟨w.heap.size, 5, none⟩ = some (.bool false) := B1.cell 5; have w1c6 : w1.cell? ⟨w.heap.size, 6, none⟩ = some (.int .i64 pa) := B1.cell 6; have w1c7 : w1.cell? ⟨w.heap.size, 7, none⟩ = some (.int .i64 pb) := B1.cell 7)
      | (go_at_call 23; refine (KR _).mono ?_; rintro e w2 ⟨rfl, hw2⟩; have B2 := B1.below hw2 (by have := B1.lt; omega); have w2c0 : w2.cell? ⟨w.heap.size, 0, none⟩ = some (.int .i64 pos) := B2.cell 0; have w2c1 : w2.cell? ⟨w.heap.size, 1, none⟩ = some (.bool true) := B2.cell 1; have w2c2 : w2.cell? ⟨w.heap.size, 2, none⟩ = some (.bool lon) := B2.cell 2; have w2c3 : w2.cell? ⟨w.heap.size, 3, none⟩ = some (.int .i64 la) := B2.cell 3; have w2c4 : w2.cell? ⟨w.heap.size, 4, none⟩ = some (.int .i64 lb) := B2.cell 4; have w2c5 : w2.cell? ⟨w.heap.size, 5, none⟩ = some (.bool false) := B2.cell 5; have w2c6 : w2.cell? ⟨w.heap.size, 6, none⟩ = some (.int .i64 pa) := B2.cell 6; have w2c7 : w2.cell? ⟨w.heap.size, 7, none⟩ = some (.int .i64 pb) := B2.cell 7))
    all_goals
      go_ret
      refine ⟨?_, (hal.trans (hw1.mono hal.size)).trans (hw2.mono (hal.trans (hw1.mono hal.size)).size)⟩
      rw [E.out]
      exact congrArg (fun v => Ending.returned (Value.int IntKind.i64 v)) (by omega)
  have hpq := HQ.out rfl
  by_cases h5 : pos < pa
  case pos =>
    have d5 : decide (pos < pa) = true := decide_eq_true h5
    cases R
    case false =>
      have E := Lib.hid (show stdS ⟨pos, true, lon, la, lb, true, pa, pb⟩ n = min (min n (lb - pos)) (pa - pos) by unfold stdS; rw [← HL.out, ← HR.out]; simp [d5])
      have B0 : Blk (w.alloc (.cells #[.int .i64 pos, .bool true, .bool lon, .int .i64 la, .int .i64 lb, .bool true, .int .i64 pa, .int .i64 pb] 46)) w.heap.size 46 #[.int .i64 pos, .bool true, .bool lon, .int .i64 la, .int .i64 lb, .bool true, .int .i64 pa, .int .i64 pb] := Blk.new w 46 _
      go_enter Try.func39, Try.ntmps39
      go_wp2_with (first
        | (go_at_call 35; refine (KL _).mono ?_; rintro e w1 ⟨rfl, hw1⟩; have B1 := B0.below hw1 (by simp); have w1c0 : w1.cell? ⟨w.heap.size, 0, none⟩ = some (.int .i64 pos) := B1.cell 0; have w1c1 : w1.cell? ⟨w.heap.size, 1, none⟩ = some (.bool true) := B1.cell 1; have w1c2 : w1.cell? ⟨w.heap.size, 2, none⟩ = some (.bool lon) := B1.cell 2; have w1c3 : w1.cell? ⟨w.heap.size, 3, none⟩ = some (.int .i64 la) := B1.cell 3; have w1c4 : w1.cell? ⟨w.heap.size, 4, none⟩ = some (.int .i64 lb) := B1.cell 4; have w1c5 : w1.cell? ⟨w.heap.size, 5, none⟩ = some (.bool true) := B1.cell 5; have w1c6 : w1.cell? ⟨w.heap.size, 6, none⟩ = some (.int .i64 pa) := B1.cell 6; have w1c7 : w1.cell? ⟨w.heap.size, 7, none⟩ = some (.int .i64 pb) := B1.cell 7)
        | (go_at_call 23; refine (KR _).mono ?_; rintro e w2 ⟨rfl, hw2⟩; have B2 := B1.below hw2 (by have := B1.lt; omega); have w2c0 : w2.cell? ⟨w.heap.size, 0, none⟩ = some (.int .i64 pos) := B2.cell 0; have w2c1 : w2.cell? ⟨w.heap.size, 1, none⟩ = some (.bool true) := B2.cell 1; have w2c2 : w2.cell? ⟨w.heap.size, 2, none⟩ = some (.bool lon) := B2.cell 2; have w2c3 : w2.cell? ⟨w.heap.size, 3, none⟩ = some (.int .i64 la) := B2.cell 3; have w2c4 : w2.cell? ⟨w.heap.size, 4, none⟩ = some (.int .i64 lb) := B2.cell 4; have w2c5 : w2.cell? ⟨w.heap.size, 5, none⟩ = some (.bool true) := B2.cell 5; have w2c6 : w2.cell? ⟨w.heap.size, 6, none⟩ = some (.int .i64 pa) := B2.cell 6; have w2c7 : w2.cell? ⟨w.heap.size, 7, none⟩ = some (.int .i64 pb) := B2.cell 7))
      all_goals
        go_ret
        refine ⟨?_, (hal.trans (hw1.mono hal.size)).trans (hw2.mono (hal.trans (hw1.mono hal.size)).size)⟩
        rw [E.out]
        exact congrArg (fun v => Ending.returned (Value.int IntKind.i64 v)) (by omega)
    have r2 := r1 rfl
    have E := Lib.hid (show stdS ⟨pos, true, lon, la, lb, true, pa, pb⟩ n = min (min (min n (lb - pos)) (pa - pos)) (pb - pos) by unfold stdS; rw [← HL.out, ← HR.out]; simp [d5])
    have B0 : Blk (w.alloc (.cells #[.int .i64 pos, .bool true, .bool lon, .int .i64 la, .int .i64 lb, .bool true, .int .i64 pa, .int .i64 pb] 46)) w.heap.size 46 #[.int .i64 pos, .bool true, .bool lon, .int .i64 la, .int .i64 lb, .bool true, .int .i64 pa, .int .i64 pb] := Blk.new w 46 _
    go_enter Try.func39, Try.ntmps39
    go_wp2_with (first
      | (go_at_call 35; refine (KL _).mono ?_; rintro e w1 ⟨rfl, hw1⟩; have B1 := B0.below hw1 (by simp); have w1c0 : w1.cell? ⟨w.heap.size, 0, none⟩ = some (.int .i64 pos) := B1.cell 0; have w1c1 : w1.cell? ⟨w.heap.size, 1, none⟩ = some (.bool true) := B1.cell 1; have w1c2 : w1.cell? ⟨w.heap.size, 2, none⟩ = some (.bool lon) := B1.cell 2; have w1c3 : w1.cell? ⟨w.heap.size, 3, none⟩ = some (.int .i64 la) := B1.cell 3; have w1c4 : w1.cell? ⟨w.heap.size, 4, none⟩ = some (.int .i64 lb) := B1.cell 4; have w1c5 : w1.cell? ⟨w.heap.size, 5, none⟩ = some (.bool true) := B1.cell 5; have w1c6 : w1.cell? ⟨w.heap.size, 6, none⟩ = some (.int .i64 pa) := B1.cell 6; have w1c7 : w1.cell? ⟨w.heap.size, 7, none⟩ = some (.int .i64 pb) := B1.cell 7)
      | (go_at_call 23; refine (KR _).mono ?_; rintro e w2 ⟨rfl, hw2⟩; have B2 := B1.below hw2 (by have := B1.lt; omega); have w2c0 : w2.cell? ⟨w.heap.size, 0, none⟩ = some (.int .i64 pos) := B2.cell 0; have w2c1 : w2.cell? ⟨w.heap.size, 1, none⟩ = some (.bool true) := B2.cell 1; have w2c2 : w2.cell? ⟨w.heap.size, 2, none⟩ = some (.bool lon) := B2.cell 2; have w2c3 : w2.cell? ⟨w.heap.size, 3, none⟩ = some (.int .i64 la) := B2.cell 3; have w2c4 : w2.cell? ⟨w.heap.size, 4, none⟩ = some (.int .i64 lb) := B2.cell 4; have w2c5 : w2.cell? ⟨w.heap.size, 5, none⟩ = some (.bool true) := B2.cell 5; have w2c6 : w2.cell? ⟨w.heap.size, 6, none⟩ = some (.int .i64 pa) := B2.cell 6; have w2c7 : w2.cell? ⟨w.heap.size, 7, none⟩ = some (.int .i64 pb) := B2.cell 7))
    all_goals
      go_ret
      refine ⟨?_, (hal.trans (hw1.mono hal.size)).trans (hw2.mono (hal.trans (hw1.mono hal.size)).size)⟩
      rw [E.out]
      exact congrArg (fun v => Ending.returned (Value.int IntKind.i64 v)) (by omega)
  have d5 : decide (pos < pa) = false := decide_eq_false h5
  cases R
  case false =>
    have E := Lib.hid (show stdS ⟨pos, true, lon, la, lb, true, pa, pb⟩ n = min n (lb - pos) by unfold stdS; rw [← HL.out, ← HR.out]; simp [d5])
    have B0 : Blk (w.alloc (.cells #[.int .i64 pos, .bool true, .bool lon, .int .i64 la, .int .i64 lb, .bool true, .int .i64 pa, .int .i64 pb] 46)) w.heap.size 46 #[.int .i64 pos, .bool true, .bool lon, .int .i64 la, .int .i64 lb, .bool true, .int .i64 pa, .int .i64 pb] := Blk.new w 46 _
    go_enter Try.func39, Try.ntmps39
    go_wp2_with (first
      | (go_at_call 35; refine (KL _).mono ?_; rintro e w1 ⟨rfl, hw1⟩; have B1 := B0.below hw1 (by simp); have w1c0 : w1.cell? ⟨w.heap.size, 0, none⟩ = some (.int .i64 pos) := B1.cell 0; have w1c1 : w1.cell? ⟨w.heap.size, 1, none⟩ = some (.bool true) := B1.cell 1; have w1c2 : w1.cell? ⟨w.heap.size, 2, none⟩ = some (.bool lon) := B1.cell 2; have w1c3 : w1.cell? ⟨w.heap.size, 3, none⟩ = some (.int .i64 la) := B1.cell 3; have w1c4 : w1.cell? ⟨w.heap.size, 4, none⟩ = some (.int .i64 lb) := B1.cell 4; have w1c5 : w1.cell? ⟨w.heap.size, 5, none⟩ = some (.bool true) := B1.cell 5; have w1c6 : w1.cell? ⟨w.heap.size, 6, none⟩ = some (.int .i64 pa) := B1.cell 6; have w1c7 : w1.cell? ⟨w.heap.size, 7, none⟩ = some (.int .i64 pb) := B1.cell 7)
      | (go_at_call 23; refine (KR _).mono ?_; rintro e w2 ⟨rfl, hw2⟩; have B2 := B1.below hw2 (by have := B1.lt; omega); have w2c0 : w2.cell? ⟨w.heap.size, 0, none⟩ = some (.int .i64 pos) := B2.cell 0; have w2c1 : w2.cell? ⟨w.heap.size, 1, none⟩ = some (.bool true) := B2.cell 1; have w2c2 : w2.cell? ⟨w.heap.size, 2, none⟩ = some (.bool lon) := B2.cell 2; have w2c3 : w2.cell? ⟨w.heap.size, 3, none⟩ = some (.int .i64 la) := B2.cell 3; have w2c4 : w2.cell? ⟨w.heap.size, 4, none⟩ = some (.int .i64 lb) := B2.cell 4; have w2c5 : w2.cell? ⟨w.heap.size, 5, none⟩ = some (.bool true) := B2.cell 5; have w2c6 : w2.cell? ⟨w.heap.size, 6, none⟩ = some (.int .i64 pa) := B2.cell 6; have w2c7 : w2.cell? ⟨w.heap.size, 7, none⟩ = some (.int .i64 pb) := B2.cell 7))
    all_goals
      go_ret
      refine ⟨?_, (hal.trans (hw1.mono hal.size)).trans (hw2.mono (hal.trans (hw1.mono hal.size)).size)⟩
      rw [E.out]
      exact congrArg (fun v => Ending.returned (Value.int IntKind.i64 v)) (by omega)
  have r2 := r1 rfl
  have E := Lib.hid (show stdS ⟨pos, true, lon, la, lb, true, pa, pb⟩ n = min (min n (lb - pos)) (pb - pos) by unfold stdS; rw [← HL.out, ← HR.out]; simp [d5])
  have B0 : Blk (w.alloc (.cells #[.int .i64 pos, .bool true, .bool lon, .int .i64 la, .int .i64 lb, .bool true, .int .i64 pa, .int .i64 pb] 46)) w.heap.size 46 #[.int .i64 pos, .bool true, .bool lon, .int .i64 la, .int .i64 lb, .bool true, .int .i64 pa, .int .i64 pb] := Blk.new w 46 _
  go_enter Try.func39, Try.ntmps39
  go_wp2_with (first
    | (go_at_call 35; refine (KL _).mono ?_; rintro e w1 ⟨rfl, hw1⟩; have B1 := B0.below hw1 (by simp); have w1c0 : w1.cell? ⟨w.heap.size, 0, none⟩ = some (.int .i64 pos) := B1.cell 0; have w1c1 : w1.cell? ⟨w.heap.size, 1, none⟩ = some (.bool true) := B1.cell 1; have w1c2 : w1.cell? ⟨w.heap.size, 2, none⟩ = some (.bool lon) := B1.cell 2; have w1c3 : w1.cell? ⟨w.heap.size, 3, none⟩ = some (.int .i64 la) := B1.cell 3; have w1c4 : w1.cell? ⟨w.heap.size, 4, none⟩ = some (.int .i64 lb) := B1.cell 4; have w1c5 : w1.cell? ⟨w.heap.size, 5, none⟩ = some (.bool true) := B1.cell 5; have w1c6 : w1.cell? ⟨w.heap.size, 6, none⟩ = some (.int .i64 pa) := B1.cell 6; have w1c7 : w1.cell? ⟨w.heap.size, 7, none⟩ = some (.int .i64 pb) := B1.cell 7)
    | (go_at_call 23; refine (KR _).mono ?_; rintro e w2 ⟨rfl, hw2⟩; have B2 := B1.below hw2 (by have := B1.lt; omega); have w2c0 : w2.cell? ⟨w.heap.size, 0, none⟩ = some (.int .i64 pos) := B2.cell 0; have w2c1 : w2.cell? ⟨w.heap.size, 1, none⟩ = some (.bool true) := B2.cell 1; have w2c2 : w2.cell? ⟨w.heap.size, 2, none⟩ = some (.bool lon) := B2.cell 2; have w2c3 : w2.cell? ⟨w.heap.size, 3, none⟩ = some (.int .i64 la) := B2.cell 3; have w2c4 : w2.cell? ⟨w.heap.size, 4, none⟩ = some (.int .i64 lb) := B2.cell 4; have w2c5 : w2.cell? ⟨w.heap.size, 5, none⟩ = some (.bool true) := B2.cell 5; have w2c6 : w2.cell? ⟨w.heap.size, 6, none⟩ = some (.int .i64 pa) := B2.cell 6; have w2c7 : w2.cell? ⟨w.heap.size, 7, none⟩ = some (.int .i64 pb) := B2.cell 7))
  all_goals
    go_ret
    refine ⟨?_, (hal.trans (hw1.mono hal.size)).trans (hw2.mono (hal.trans (hw1.mono hal.size)).size)⟩
    rw [E.out]
    exact congrArg (fun v => Ending.returned (Value.int IntKind.i64 v)) (by omega)
end Go.Proofs.Ytjkclplnflaplaa
