/-
  The state of a transport: in memory and as plain data; what orders do to it. Conditions: as each statement says.
-/
import Derived.Test.YtjkclplnflaplaaChk
import Derived.Test.YtjkclplnflaplaaIter
import Derived.BigRegion
namespace Go.Proofs.Ytjkclplnflaplaa
open Go.RowKit

structure St where
  pos : Int
  roll : Bool
  lon : Bool
  la : Int
  lb : Int
  pon : Bool
  pa : Int
  pb : Int
def s0 : St := ⟨0, false, false, 0, 0, false, 0, 0⟩
/-- The cells of a state. -/
def stc (s : St) : Array Value := #[.int .i64 s.pos, .bool s.roll, .bool s.lon, .int .i64 s.la, .int .i64 s.lb, .bool s.pon, .int .i64 s.pa, .int .i64 s.pb]
/-- What an order does. -/
def ordS (s : St) (x : Ord) : St :=
  if x.kind = 1 then { s with roll := true } else if x.kind = 2 then { s with roll := false } else if x.kind = 3 then { s with pos := x.a }
  else if x.kind = 4 then { s with lon := true, la := x.a, lb := x.b } else if x.kind = 5 then { s with lon := false, la := 0, lb := 0 }
  else if x.kind = 6 then { s with pon := true, pa := x.a, pb := x.b } else s
def loopingB (s : St) : Bool := s.roll && s.lon && decide (s.pos < s.lb)
def recB (s : St) : Bool := s.roll && s.pon && decide (s.pa ≤ s.pos) && decide (s.pos < s.pb)
def advS (s : St) (n : Int) : St :=
  if s.roll = false ∨ n = 0 then s else if loopingB s = true ∧ s.lb ≤ s.pos + n then { s with pos := s.la + (s.pos + n - s.lb) % (s.lb - s.la) } else { s with pos := s.pos + n }

theorem stc_cells {w : World} {B : Nat} {s : St} (h : Blk w B 46 (stc s)) : w.cell? ⟨B, 0, none⟩ = some (.int .i64 s.pos) ∧ w.cell? ⟨B, 1, none⟩ = some (.bool s.roll) ∧ w.cell? ⟨B, 2, none⟩ = some (.bool s.lon) ∧ w.cell? ⟨B, 3, none⟩ = some (.int .i64 s.la) ∧ w.cell? ⟨B, 4, none⟩ = some (.int .i64 s.lb) ∧ w.cell? ⟨B, 5, none⟩ = some (.bool s.pon) ∧ w.cell? ⟨B, 6, none⟩ = some (.int .i64 s.pa) ∧ w.cell? ⟨B, 7, none⟩ = some (.int .i64 s.pb) ∧ ∀ i, w.frozen? ⟨B, i, none⟩ = false :=
  ⟨h.cell 0, h.cell 1, h.cell 2, h.cell 3, h.cell 4, h.cell 5, h.cell 6, h.cell 7, fun i => h.frozen i⟩

theorem act1_t (B : Nat) (s : St) (t k a b : Int) (w : World) (h : Blk w B 46 (stc s)) : Calls Try.prog 29 #[.pointer (some ⟨B, 0, none⟩), .agg #[.int .i64 t, .int .i64 k, .int .i64 a, .int .i64 b]] w fun e w' => ∃ v, e = .returned v ∧ Blk w' B 46 (stc { s with roll := true }) ∧ Keep (fun r => r = B) w w' := by
  obtain ⟨c0, c1, c2, c3, c4, c5, c6, c7, hf⟩ := stc_cells h
  have hlt := h.lt
  have f1 := hf 1
  go_enter Try.func29, Try.ntmps29
  go_wp2
  refine bodyPost_end (results_none rfl _ _ _) rfl ?_
  exact ⟨_, rfl, (h.set 1 (.bool true)).alloc _, ((Keep.refl (fun r => r = B) w).setCell (p := ⟨B, 1, none⟩) (fun _ => rfl) _).alloc _⟩
theorem act2_t (B : Nat) (s : St) (t k a b : Int) (w : World) (h : Blk w B 46 (stc s)) : Calls Try.prog 30 #[.pointer (some ⟨B, 0, none⟩), .agg #[.int .i64 t, .int .i64 k, .int .i64 a, .int .i64 b]] w fun e w' => ∃ v, e = .returned v ∧ Blk w' B 46 (stc { s with roll := false }) ∧ Keep (fun r => r = B) w w' := by
  obtain ⟨c0, c1, c2, c3, c4, c5, c6, c7, hf⟩ := stc_cells h
  have hlt := h.lt
  have f1 := hf 1
  go_enter Try.func30, Try.ntmps30
  go_wp2
  refine bodyPost_end (results_none rfl _ _ _) rfl ?_
  exact ⟨_, rfl, (h.set 1 (.bool false)).alloc _, ((Keep.refl (fun r => r = B) w).setCell (p := ⟨B, 1, none⟩) (fun _ => rfl) _).alloc _⟩
theorem act3_t (B : Nat) (s : St) (t k a b : Int) (w : World) (h : Blk w B 46 (stc s)) : Calls Try.prog 31 #[.pointer (some ⟨B, 0, none⟩), .agg #[.int .i64 t, .int .i64 k, .int .i64 a, .int .i64 b]] w fun e w' => ∃ v, e = .returned v ∧ Blk w' B 46 (stc { s with pos := a }) ∧ Keep (fun r => r = B) w w' := by
  obtain ⟨c0, c1, c2, c3, c4, c5, c6, c7, hf⟩ := stc_cells h
  have hlt := h.lt
  have f0 := hf 0
  go_enter Try.func31, Try.ntmps31
  go_wp2
  refine bodyPost_end (results_none rfl _ _ _) rfl ?_
  exact ⟨_, rfl, (h.set 0 (.int .i64 a)).alloc _, ((Keep.refl (fun r => r = B) w).setCell (p := ⟨B, 0, none⟩) (fun _ => rfl) _).alloc _⟩
theorem act4_t (B : Nat) (s : St) (t k a b : Int) (w : World) (h : Blk w B 46 (stc s)) : Calls Try.prog 32 #[.pointer (some ⟨B, 0, none⟩), .agg #[.int .i64 t, .int .i64 k, .int .i64 a, .int .i64 b]] w fun e w' => ∃ v, e = .returned v ∧ Blk w' B 46 (stc { s with lon := true, la := a, lb := b }) ∧ Keep (fun r => r = B) w w' := by
  obtain ⟨c0, c1, c2, c3, c4, c5, c6, c7, hf⟩ := stc_cells h
  have hlt := h.lt
  have f2 := hf 2
  have f3 := hf 3
  have f4 := hf 4
  go_enter Try.func32, Try.ntmps32
  go_wp2
  refine bodyPost_end (results_none rfl _ _ _) rfl ?_
  exact ⟨_, rfl, (((h.set 2 (.bool true)).set 3 (.int .i64 a)).set 4 (.int .i64 b)).alloc _, ((((Keep.refl (fun r => r = B) w).setCell (p := ⟨B, 2, none⟩) (fun _ => rfl) _).setCell (p := ⟨B, 3, none⟩) (fun _ => rfl) _).setCell (p := ⟨B, 4, none⟩) (fun _ => rfl) _).alloc _⟩
theorem act5_t (B : Nat) (s : St) (t k a b : Int) (w : World) (h : Blk w B 46 (stc s)) : Calls Try.prog 33 #[.pointer (some ⟨B, 0, none⟩), .agg #[.int .i64 t, .int .i64 k, .int .i64 a, .int .i64 b]] w fun e w' => ∃ v, e = .returned v ∧ Blk w' B 46 (stc { s with lon := false, la := 0, lb := 0 }) ∧ Keep (fun r => r = B) w w' := by
  obtain ⟨c0, c1, c2, c3, c4, c5, c6, c7, hf⟩ := stc_cells h
  have hlt := h.lt
  have f2 := hf 2
  have f3 := hf 3
  have f4 := hf 4
  go_enter Try.func33, Try.ntmps33
  go_wp2
  refine bodyPost_end (results_none rfl _ _ _) rfl ?_
  exact ⟨_, rfl, (((h.set 2 (.bool false)).set 3 (.int .i64 0)).set 4 (.int .i64 0)).alloc _, ((((Keep.refl (fun r => r = B) w).setCell (p := ⟨B, 2, none⟩) (fun _ => rfl) _).setCell (p := ⟨B, 3, none⟩) (fun _ => rfl) _).setCell (p := ⟨B, 4, none⟩) (fun _ => rfl) _).alloc _⟩
theorem act6_t (B : Nat) (s : St) (t k a b : Int) (w : World) (h : Blk w B 46 (stc s)) : Calls Try.prog 34 #[.pointer (some ⟨B, 0, none⟩), .agg #[.int .i64 t, .int .i64 k, .int .i64 a, .int .i64 b]] w fun e w' => ∃ v, e = .returned v ∧ Blk w' B 46 (stc { s with pon := true, pa := a, pb := b }) ∧ Keep (fun r => r = B) w w' := by
  obtain ⟨c0, c1, c2, c3, c4, c5, c6, c7, hf⟩ := stc_cells h
  have hlt := h.lt
  have f5 := hf 5
  have f6 := hf 6
  have f7 := hf 7
  go_enter Try.func34, Try.ntmps34
  go_wp2
  refine bodyPost_end (results_none rfl _ _ _) rfl ?_
  exact ⟨_, rfl, (((h.set 5 (.bool true)).set 6 (.int .i64 a)).set 7 (.int .i64 b)).alloc _, ((((Keep.refl (fun r => r = B) w).setCell (p := ⟨B, 5, none⟩) (fun _ => rfl) _).setCell (p := ⟨B, 6, none⟩) (fun _ => rfl) _).setCell (p := ⟨B, 7, none⟩) (fun _ => rfl) _).alloc _⟩

/-- The value of a state. -/
def stv (s : St) : Value := .agg (stc s)

set_option maxHeartbeats 2000000 in
theorem recorded_t (s : St) (w : World) : Calls Try.prog 23 #[stv s] w fun e w' => e = .returned (.bool (recB s)) ∧ Below w.heap.size w w' := by
  unfold stv stc
  obtain ⟨pos, roll, lon, la, lb, pon, pa, pb⟩ := s
  dsimp only
  cases roll
  case false =>
    have E := Lib.hid (show recB ⟨pos, false, lon, la, lb, pon, pa, pb⟩ = false by rfl)
    go_enter Try.func23, Try.ntmps23
    go_wp2
    go_ret
    exact ⟨by rw [E.out]; rfl, (Below.refl _ w).alloc (Nat.le_refl _) _⟩
  cases pon
  case false =>
    have E := Lib.hid (show recB ⟨pos, true, lon, la, lb, false, pa, pb⟩ = false by rfl)
    go_enter Try.func23, Try.ntmps23
    go_wp2
    go_ret
    exact ⟨by rw [E.out]; rfl, (Below.refl _ w).alloc (Nat.le_refl _) _⟩
  by_cases h0 : pa ≤ pos
  case neg =>
    have d0 : decide (pa ≤ pos) = false := decide_eq_false h0
    have E := Lib.hid (show recB ⟨pos, true, lon, la, lb, true, pa, pb⟩ = false by unfold recB; simp; omega)
    go_enter Try.func23, Try.ntmps23
    go_wp2
    go_ret
    exact ⟨by rw [E.out]; rfl, (Below.refl _ w).alloc (Nat.le_refl _) _⟩
  have d0 : decide (pa ≤ pos) = true := decide_eq_true h0
  by_cases h1 : pos < pb
  case neg =>
    have d1 : decide (pos < pb) = false := decide_eq_false h1
    have E := Lib.hid (show recB ⟨pos, true, lon, la, lb, true, pa, pb⟩ = false by unfold recB; simp; omega)
    go_enter Try.func23, Try.ntmps23
    go_wp2
    go_ret
    exact ⟨by rw [E.out]; rfl, (Below.refl _ w).alloc (Nat.le_refl _) _⟩
  have d1 : decide (pos < pb) = true := decide_eq_true h1
  have E := Lib.hid (show recB ⟨pos, true, lon, la, lb, true, pa, pb⟩ = true by unfold recB; simp; omega)
  go_enter Try.func23, Try.ntmps23
  go_wp2
  go_ret
  exact ⟨by rw [E.out]; rfl, (Below.refl _ w).alloc (Nat.le_refl _) _⟩

set_option maxHeartbeats 2000000 in
theorem looping_t (s : St) (w : World) : Calls Try.prog 35 #[stv s] w fun e w' => e = .returned (.bool (loopingB s)) ∧ Below w.heap.size w w' := by
  unfold stv stc
  obtain ⟨pos, roll, lon, la, lb, pon, pa, pb⟩ := s
  dsimp only
  cases roll
  case false =>
    have E := Lib.hid (show loopingB ⟨pos, false, lon, la, lb, pon, pa, pb⟩ = false by rfl)
    go_enter Try.func35, Try.ntmps35
    go_wp2
    go_ret
    exact ⟨by rw [E.out]; rfl, (Below.refl _ w).alloc (Nat.le_refl _) _⟩
  cases lon
  case false =>
    have E := Lib.hid (show loopingB ⟨pos, true, false, la, lb, pon, pa, pb⟩ = false by rfl)
    go_enter Try.func35, Try.ntmps35
    go_wp2
    go_ret
    exact ⟨by rw [E.out]; rfl, (Below.refl _ w).alloc (Nat.le_refl _) _⟩
  by_cases h0 : pos < lb
  case neg =>
    have d0 : decide (pos < lb) = false := decide_eq_false h0
    have E := Lib.hid (show loopingB ⟨pos, true, true, la, lb, pon, pa, pb⟩ = false by unfold loopingB; simp; omega)
    go_enter Try.func35, Try.ntmps35
    go_wp2
    go_ret
    exact ⟨by rw [E.out]; rfl, (Below.refl _ w).alloc (Nat.le_refl _) _⟩
  have d0 : decide (pos < lb) = true := decide_eq_true h0
  have E := Lib.hid (show loopingB ⟨pos, true, true, la, lb, pon, pa, pb⟩ = true by unfold loopingB; simp; omega)
  go_enter Try.func35, Try.ntmps35
  go_wp2
  go_ret
  exact ⟨by rw [E.out]; rfl, (Below.refl _ w).alloc (Nat.le_refl _) _⟩
end Go.Proofs.Ytjkclplnflaplaa
