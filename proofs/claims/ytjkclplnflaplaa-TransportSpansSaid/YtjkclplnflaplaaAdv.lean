/-
  The transport's advance: so many samples pass. Conditions: positions in their bounds, a loop that is one.
-/
import Derived.Test.YtjkclplnflaplaaState
import Derived.Deep.RegionHeld3
namespace Go.Proofs.Ytjkclplnflaplaa
open Go.RowKit

/-- A state whose numbers are in their bounds. -/
structure OkS (s : St) : Prop where
  p0 : 0 ≤ s.pos
  p1 : s.pos ≤ 4398046511104
  l : s.lon = true → 0 ≤ s.la ∧ s.la < s.lb ∧ s.lb ≤ 1099511627776

set_option maxHeartbeats 4000000 in
theorem advance_t (B : Nat) (s : St) (n : Int) (w : World) (hs : OkS s) (h0 : 0 ≤ n) (h1 : n ≤ 4398046511104) (h : Blk w B 46 (stc s)) :
    Calls Try.prog 22 #[.pointer (some ⟨B, 0, none⟩), .int .i64 n] w fun e w' => ∃ v, e = .returned v ∧ Blk w' B 46 (stc (advS s n)) ∧ Keep (fun r => r = B) w w' := by
  obtain ⟨p0, p1, hl⟩ := hs
  obtain ⟨pos, roll, lon, la, lb, pon, pa, pb⟩ := s
  obtain ⟨c0, c1, c2, c3, c4, c5, c6, c7, hf⟩ := stc_cells h
  have hlt := h.lt
  dsimp only at *
  cases roll
  case false =>
    have E := Lib.hid (show advS ⟨pos, false, lon, la, lb, pon, pa, pb⟩ n = ⟨pos, false, lon, la, lb, pon, pa, pb⟩ from rfl)
    go_enter Try.func22, Try.ntmps22
    go_wp2
    refine bodyPost_end (results_none rfl _ _ _) rfl ?_
    exact ⟨_, rfl, by rw [E.out]; exact h, Keep.refl _ _⟩
  by_cases hz : n = 0
  · have E := Lib.hid (show advS ⟨pos, true, lon, la, lb, pon, pa, pb⟩ n = ⟨pos, true, lon, la, lb, pon, pa, pb⟩ by unfold advS; rw [if_pos (.inr hz)])
    have d : (n == 0) = true := beq_iff_eq.2 hz
    clear hz
    go_enter Try.func22, Try.ntmps22
    go_wp2
    refine bodyPost_end (results_none rfl _ _ _) rfl ?_
    exact ⟨_, rfl, by rw [E.out]; exact h, Keep.refl _ _⟩
  have d : (n == 0) = false := beq_eq_false_iff_ne.2 hz
  have HZ := Lib.hid hz
  clear hz
  have KR := fun W => looping_t ⟨pos, true, lon, la, lb, pon, pa, pb⟩ W
  unfold stv stc at KR
  dsimp only at KR
  by_cases hL : loopingB ⟨pos, true, lon, la, lb, pon, pa, pb⟩ = true
  case neg =>
    have hL2 : loopingB ⟨pos, true, lon, la, lb, pon, pa, pb⟩ = false := by simpa using hL
    rw [hL2] at KR
    have E := Lib.hid (show advS ⟨pos, true, lon, la, lb, pon, pa, pb⟩ n = ⟨pos + n, true, lon, la, lb, pon, pa, pb⟩ by unfold advS; rw [if_neg (by simpa using HZ.out), if_neg (fun hh => hL hh.1)])
    clear hL hL2
    go_enter Try.func22, Try.ntmps22
    go_wp2_with fail
    refine wp_region_held_drew (S := (fun W => W.cell? ⟨B, 0, none⟩ = some (.int .i64 pos) ∧ W.cell? ⟨B, 1, none⟩ = some (.bool true) ∧ W.cell? ⟨B, 2, none⟩ = some (.bool lon) ∧ W.cell? ⟨B, 3, none⟩ = some (.int .i64 la) ∧ W.cell? ⟨B, 4, none⟩ = some (.int .i64 lb) ∧ W.cell? ⟨B, 5, none⟩ = some (.bool pon) ∧ W.cell? ⟨B, 6, none⟩ = some (.int .i64 pa) ∧ W.cell? ⟨B, 7, none⟩ = some (.int .i64 pb))) (by kernel_rfl) ?_ (fun hHeld => ?_)
    · go_keep
    try dsimp only at hHeld
    refine wpAnyH_take (i := 0) (oi := { dst := some 23, op := Op.move (Operand.tmp 0), type := 51, pos := "transport.go:35", after := #[], guard := none }) (v := ?_) rfl (by kernel_rfl) (by kernel_rfl) (by kernel_rfl) (fun _ _ _ h => h) (Or.inl ⟨by rfl, ?_⟩) (by assumption) ?_
    rotate_left
    · intro wS hSw; go_split_ands; go_simp; first | done | with_reducible rfl
    simp only [Act.put, List.setIfInBounds_toArray, List.set_cons_zero, List.set_cons_succ]
    refine wpAnyH_take (i := 1) (oi := { dst := some 24, op := Op.nilCheck (Operand.tmp 23), type := 0, pos := "transport.go:35", after := #[{ on := 0, ground := Ground.data }], guard := none }) (v := ?_) rfl (by kernel_rfl) (by kernel_rfl) (by kernel_rfl) (fun _ _ _ h => h) (Or.inl ⟨by rfl, ?_⟩) (by assumption) ?_
    rotate_left
    · intro wS hSw; go_split_ands; go_simp; first | done | with_reducible rfl
    simp only [Act.put, List.setIfInBounds_toArray, List.set_cons_zero, List.set_cons_succ]
    refine wpAnyH_take (i := 2) (oi := { dst := some 25, op := Op.load 46 (Operand.tmp 24), type := 46, pos := "transport.go:35", after := #[{ on := 1, ground := Ground.data }], guard := none }) (v := ?_) rfl (by kernel_rfl) (by kernel_rfl) (by kernel_rfl) (fun _ _ _ h => h) (Or.inl ⟨by rfl, ?_⟩) (by assumption) ?_
    rotate_left
    · intro wS hSw; go_split_ands; go_simp; first | done | with_reducible rfl
    simp only [Act.put, List.setIfInBounds_toArray, List.set_cons_zero, List.set_cons_succ]
    refine wpAnyH_ready (rs := [3]) (by kernel_rfl) (by simp) ?_
    refine AllReadyH.cons (o := { dst := some 26, op := Op.call { callee := Callee.value (Operand.func 35), args := #[Operand.tmp 25], argTypes := #[51] }, type := 4, pos := "transport.go:35", after := #[{ on := 2, ground := Ground.data }], guard := none }) rfl (fun K hK => ?_) AllReadyH.nil
    go_simp
    go_at_call 35; refine (KR _).mono ?_; rintro e w2 ⟨rfl, hb2⟩
    refine hK.out _ _ ?_ (fun hHeld => ?_)
    · exact ⟨(hb2.cell (p := ⟨B, 0, none⟩) (by simp <;> omega)).trans (by go_keep), (hb2.cell (p := ⟨B, 1, none⟩) (by simp <;> omega)).trans (by go_keep), (hb2.cell (p := ⟨B, 2, none⟩) (by simp <;> omega)).trans (by go_keep), (hb2.cell (p := ⟨B, 3, none⟩) (by simp <;> omega)).trans (by go_keep), (hb2.cell (p := ⟨B, 4, none⟩) (by simp <;> omega)).trans (by go_keep), (hb2.cell (p := ⟨B, 5, none⟩) (by simp <;> omega)).trans (by go_keep), (hb2.cell (p := ⟨B, 6, none⟩) (by simp <;> omega)).trans (by go_keep), (hb2.cell (p := ⟨B, 7, none⟩) (by simp <;> omega)).trans (by go_keep)⟩
    clear hK K
    try simp only [Act.put, List.setIfInBounds_toArray, List.set_cons_zero, List.set_cons_succ]
    refine wpAnyH_take (i := 4) (oi := { dst := some 27, op := Op.move (Operand.tmp 26), type := 4, pos := "transport.go:35", after := #[{ on := 3, ground := Ground.data }, { on := 3, ground := Ground.chain }], guard := none }) (v := ?_) rfl (by kernel_rfl) (by kernel_rfl) (by kernel_rfl) (fun _ _ _ h => h) (Or.inl ⟨by rfl, ?_⟩) (by assumption) ?_
    rotate_left
    · intro wS hSw; go_split_ands; go_simp; first | done | with_reducible rfl
    simp only [Act.put, List.setIfInBounds_toArray, List.set_cons_zero, List.set_cons_succ]
    refine wpAnyH_take (i := 5) (oi := { dst := some 28, op := Op.move (Operand.tmp 0), type := 51, pos := "transport.go:35", after := #[{ on := 4, ground := Ground.guard }], guard := some (4, true) }) (v := undef) rfl (by kernel_rfl) (by kernel_rfl) (by kernel_rfl) (fun _ _ _ h => h) (Or.inr ⟨by rfl, rfl⟩) (by assumption) ?_
    simp only [Act.put, List.setIfInBounds_toArray, List.set_cons_zero, List.set_cons_succ]
    refine wpAnyH_take (i := 6) (oi := { dst := some 29, op := Op.nilCheck (Operand.tmp 28), type := 0, pos := "transport.go:35", after := #[{ on := 5, ground := Ground.data }, { on := 4, ground := Ground.guard }], guard := some (4, true) }) (v := undef) rfl (by kernel_rfl) (by kernel_rfl) (by kernel_rfl) (fun _ _ _ h => h) (Or.inr ⟨by rfl, rfl⟩) (by assumption) ?_
    simp only [Act.put, List.setIfInBounds_toArray, List.set_cons_zero, List.set_cons_succ]
    refine wpAnyH_take (i := 7) (oi := { dst := some 30, op := Op.fieldAddr 46 (Operand.tmp 29) 0, type := 0, pos := "transport.go:35", after := #[{ on := 6, ground := Ground.data }, { on := 4, ground := Ground.guard }], guard := some (4, true) }) (v := undef) rfl (by kernel_rfl) (by kernel_rfl) (by kernel_rfl) (fun _ _ _ h => h) (Or.inr ⟨by rfl, rfl⟩) (by assumption) ?_
    simp only [Act.put, List.setIfInBounds_toArray, List.set_cons_zero, List.set_cons_succ]
    refine wpAnyH_take (i := 8) (oi := { dst := some 31, op := Op.load 3 (Operand.tmp 30), type := 3, pos := "transport.go:35", after := #[{ on := 7, ground := Ground.data }, { on := 4, ground := Ground.guard }], guard := some (4, true) }) (v := undef) rfl (by kernel_rfl) (by kernel_rfl) (by kernel_rfl) (fun _ _ _ h => h) (Or.inr ⟨by rfl, rfl⟩) (by assumption) ?_
    simp only [Act.put, List.setIfInBounds_toArray, List.set_cons_zero, List.set_cons_succ]
    refine wpAnyH_take (i := 9) (oi := { dst := some 32, op := Op.move (Operand.tmp 1), type := 3, pos := "transport.go:35", after := #[{ on := 4, ground := Ground.guard }], guard := some (4, true) }) (v := undef) rfl (by kernel_rfl) (by kernel_rfl) (by kernel_rfl) (fun _ _ _ h => h) (Or.inr ⟨by rfl, rfl⟩) (by assumption) ?_
    simp only [Act.put, List.setIfInBounds_toArray, List.set_cons_zero, List.set_cons_succ]
    refine wpAnyH_take (i := 10) (oi := { dst := some 33, op := Op.binOp BinOp.add 3 (Operand.tmp 31) (Operand.tmp 32) 3, type := 3, pos := "transport.go:35", after := #[{ on := 8, ground := Ground.data }, { on := 9, ground := Ground.data }, { on := 4, ground := Ground.guard }], guard := some (4, true) }) (v := undef) rfl (by kernel_rfl) (by kernel_rfl) (by kernel_rfl) (fun _ _ _ h => h) (Or.inr ⟨by rfl, rfl⟩) (by assumption) ?_
    simp only [Act.put, List.setIfInBounds_toArray, List.set_cons_zero, List.set_cons_succ]
    refine wpAnyH_take (i := 11) (oi := { dst := some 34, op := Op.move (Operand.tmp 0), type := 51, pos := "transport.go:35", after := #[{ on := 4, ground := Ground.guard }], guard := some (4, true) }) (v := undef) rfl (by kernel_rfl) (by kernel_rfl) (by kernel_rfl) (fun _ _ _ h => h) (Or.inr ⟨by rfl, rfl⟩) (by assumption) ?_
    simp only [Act.put, List.setIfInBounds_toArray, List.set_cons_zero, List.set_cons_succ]
    refine wpAnyH_take (i := 12) (oi := { dst := some 35, op := Op.nilCheck (Operand.tmp 34), type := 0, pos := "transport.go:35", after := #[{ on := 11, ground := Ground.data }, { on := 4, ground := Ground.guard }], guard := some (4, true) }) (v := undef) rfl (by kernel_rfl) (by kernel_rfl) (by kernel_rfl) (fun _ _ _ h => h) (Or.inr ⟨by rfl, rfl⟩) (by assumption) ?_
    simp only [Act.put, List.setIfInBounds_toArray, List.set_cons_zero, List.set_cons_succ]
    refine wpAnyH_take (i := 13) (oi := { dst := some 36, op := Op.fieldAddr 46 (Operand.tmp 35) 2, type := 0, pos := "transport.go:35", after := #[{ on := 12, ground := Ground.data }, { on := 4, ground := Ground.guard }], guard := some (4, true) }) (v := undef) rfl (by kernel_rfl) (by kernel_rfl) (by kernel_rfl) (fun _ _ _ h => h) (Or.inr ⟨by rfl, rfl⟩) (by assumption) ?_
    simp only [Act.put, List.setIfInBounds_toArray, List.set_cons_zero, List.set_cons_succ]
    refine wpAnyH_take (i := 14) (oi := { dst := some 37, op := Op.fieldAddr 44 (Operand.tmp 36) 2, type := 0, pos := "transport.go:35", after := #[{ on := 13, ground := Ground.data }, { on := 4, ground := Ground.guard }], guard := some (4, true) }) (v := undef) rfl (by kernel_rfl) (by kernel_rfl) (by kernel_rfl) (fun _ _ _ h => h) (Or.inr ⟨by rfl, rfl⟩) (by assumption) ?_
    simp only [Act.put, List.setIfInBounds_toArray, List.set_cons_zero, List.set_cons_succ]
    refine wpAnyH_take (i := 15) (oi := { dst := some 38, op := Op.load 3 (Operand.tmp 37), type := 3, pos := "transport.go:35", after := #[{ on := 14, ground := Ground.data }, { on := 4, ground := Ground.guard }], guard := some (4, true) }) (v := undef) rfl (by kernel_rfl) (by kernel_rfl) (by kernel_rfl) (fun _ _ _ h => h) (Or.inr ⟨by rfl, rfl⟩) (by assumption) ?_
    simp only [Act.put, List.setIfInBounds_toArray, List.set_cons_zero, List.set_cons_succ]
    refine wpAnyH_take (i := 16) (oi := { dst := some 39, op := Op.binOp BinOp.geq 3 (Operand.tmp 33) (Operand.tmp 38) 3, type := 4, pos := "transport.go:35", after := #[{ on := 10, ground := Ground.data }, { on := 15, ground := Ground.data }, { on := 4, ground := Ground.guard }], guard := some (4, true) }) (v := undef) rfl (by kernel_rfl) (by kernel_rfl) (by kernel_rfl) (fun _ _ _ h => h) (Or.inr ⟨by rfl, rfl⟩) (by assumption) ?_
    simp only [Act.put, List.setIfInBounds_toArray, List.set_cons_zero, List.set_cons_succ]
    refine wpAnyH_take (i := 17) (oi := { dst := some 40, op := Op.pick (Operand.tmp 27) (Operand.tmp 39) (Operand.const (Value.bool false)), type := 4, pos := "transport.go:35", after := #[{ on := 4, ground := Ground.data }, { on := 16, ground := Ground.data }], guard := none }) (v := ?_) rfl (by kernel_rfl) (by kernel_rfl) (by kernel_rfl) (fun _ _ _ h => h) (Or.inl ⟨by rfl, ?_⟩) (by assumption) ?_
    rotate_left
    · intro wS hSw; go_split_ands; go_simp; first | done | with_reducible rfl
    simp only [Act.put, List.setIfInBounds_toArray, List.set_cons_zero, List.set_cons_succ]
    refine wpAnyH_ready (rs := [18]) (by kernel_rfl) (by simp) ?_
    refine AllReadyH.cons (o := { dst := some 22, op := Op.assign (Operand.tmp 40), type := 4, pos := "transport.go:35", after := #[{ on := 17, ground := Ground.data }, { on := 4, ground := Ground.chain }], guard := none }) rfl (fun K hK => ?_) AllReadyH.nil
    go_simp
    refine hK.out _ _ ?_ (fun hHeld => ?_)
    · exact ⟨(hb2.cell (p := ⟨B, 0, none⟩) (by simp <;> omega)).trans (by go_keep), (hb2.cell (p := ⟨B, 1, none⟩) (by simp <;> omega)).trans (by go_keep), (hb2.cell (p := ⟨B, 2, none⟩) (by simp <;> omega)).trans (by go_keep), (hb2.cell (p := ⟨B, 3, none⟩) (by simp <;> omega)).trans (by go_keep), (hb2.cell (p := ⟨B, 4, none⟩) (by simp <;> omega)).trans (by go_keep), (hb2.cell (p := ⟨B, 5, none⟩) (by simp <;> omega)).trans (by go_keep), (hb2.cell (p := ⟨B, 6, none⟩) (by simp <;> omega)).trans (by go_keep), (hb2.cell (p := ⟨B, 7, none⟩) (by simp <;> omega)).trans (by go_keep)⟩
    clear hK K
    try simp only [Act.put, List.setIfInBounds_toArray, List.set_cons_zero, List.set_cons_succ]
    refine wpAnyH_done (by kernel_rfl) ?_ _
    have b2 : Blk w2 B 46 (stc ⟨pos, true, lon, la, lb, pon, pa, pb⟩) := h.below (show Below w.heap.size w w2 from ((Below.refl _ w).drew).trans (hb2.mono (by simp))) hlt
    have k2 : Keep (fun r => r = B) w w2 := Keep.of_same (show Below w.heap.size w w2 from ((Below.refl _ w).drew).trans (hb2.mono (by simp))) _
    obtain ⟨e0, e1, e2, e3, e4, e5, e6, e7, ef⟩ := stc_cells b2
    have ef0 := ef 0
    clear hHeld
    go_wp2
    refine bodyPost_end (results_none rfl _ _ _) rfl ?_
    first | exact ⟨_, rfl, by rw [E.out]; exact b2.set 0 _, k2.setCell (p := ⟨B, 0, none⟩) (fun _ => rfl) _⟩ | exact ⟨⟨_, rfl⟩, by rw [E.out]; exact b2.set 0 _, k2.setCell (p := ⟨B, 0, none⟩) (fun _ => rfl) _⟩
  rw [hL] at KR
  have hlon : lon = true := by unfold loopingB at hL; simp at hL; exact hL.1
  subst hlon
  have hlp : pos < lb := by unfold loopingB at hL; simp at hL; exact hL
  obtain ⟨l0, l1, l2⟩ := hl rfl
  clear hl
  have i1 : IntKind.i64.wrap (pos + n) = pos + n := IntWalk.i64_in _ (by omega)
  by_cases hq : lb ≤ pos + n
  case neg =>
    have d2 : decide (lb ≤ pos + n) = false := decide_eq_false hq
    have E := Lib.hid (show advS ⟨pos, true, true, la, lb, pon, pa, pb⟩ n = ⟨pos + n, true, true, la, lb, pon, pa, pb⟩ by unfold advS; rw [if_neg (by simpa using HZ.out), if_neg (fun hh => hq hh.2)])
    clear hL
    go_enter Try.func22, Try.ntmps22
    go_wp2_with fail
    refine wp_region_held_drew (S := (fun W => W.cell? ⟨B, 0, none⟩ = some (.int .i64 pos) ∧ W.cell? ⟨B, 1, none⟩ = some (.bool true) ∧ W.cell? ⟨B, 2, none⟩ = some (.bool true) ∧ W.cell? ⟨B, 3, none⟩ = some (.int .i64 la) ∧ W.cell? ⟨B, 4, none⟩ = some (.int .i64 lb) ∧ W.cell? ⟨B, 5, none⟩ = some (.bool pon) ∧ W.cell? ⟨B, 6, none⟩ = some (.int .i64 pa) ∧ W.cell? ⟨B, 7, none⟩ = some (.int .i64 pb))) (by kernel_rfl) ?_ (fun hHeld => ?_)
    · go_keep
    try dsimp only at hHeld
    refine wpAnyH_take (i := 0) (oi := { dst := some 23, op := Op.move (Operand.tmp 0), type := 51, pos := "transport.go:35", after := #[], guard := none }) (v := ?_) rfl (by kernel_rfl) (by kernel_rfl) (by kernel_rfl) (fun _ _ _ h => h) (Or.inl ⟨by rfl, ?_⟩) (by assumption) ?_
    rotate_left
    · intro wS hSw; go_split_ands; go_simp; first | done | with_reducible rfl
    simp only [Act.put, List.setIfInBounds_toArray, List.set_cons_zero, List.set_cons_succ]
    refine wpAnyH_take (i := 1) (oi := { dst := some 24, op := Op.nilCheck (Operand.tmp 23), type := 0, pos := "transport.go:35", after := #[{ on := 0, ground := Ground.data }], guard := none }) (v := ?_) rfl (by kernel_rfl) (by kernel_rfl) (by kernel_rfl) (fun _ _ _ h => h) (Or.inl ⟨by rfl, ?_⟩) (by assumption) ?_
    rotate_left
    · intro wS hSw; go_split_ands; go_simp; first | done | with_reducible rfl
    simp only [Act.put, List.setIfInBounds_toArray, List.set_cons_zero, List.set_cons_succ]
    refine wpAnyH_take (i := 2) (oi := { dst := some 25, op := Op.load 46 (Operand.tmp 24), type := 46, pos := "transport.go:35", after := #[{ on := 1, ground := Ground.data }], guard := none }) (v := ?_) rfl (by kernel_rfl) (by kernel_rfl) (by kernel_rfl) (fun _ _ _ h => h) (Or.inl ⟨by rfl, ?_⟩) (by assumption) ?_
    rotate_left
    · intro wS hSw; go_split_ands; go_simp; first | done | with_reducible rfl
    simp only [Act.put, List.setIfInBounds_toArray, List.set_cons_zero, List.set_cons_succ]
    refine wpAnyH_ready (rs := [3]) (by kernel_rfl) (by simp) ?_
    refine AllReadyH.cons (o := { dst := some 26, op := Op.call { callee := Callee.value (Operand.func 35), args := #[Operand.tmp 25], argTypes := #[51] }, type := 4, pos := "transport.go:35", after := #[{ on := 2, ground := Ground.data }], guard := none }) rfl (fun K hK => ?_) AllReadyH.nil
    go_simp
    go_at_call 35; refine (KR _).mono ?_; rintro e w2 ⟨rfl, hb2⟩
    refine hK.out _ _ ?_ (fun hHeld => ?_)
    · exact ⟨(hb2.cell (p := ⟨B, 0, none⟩) (by simp <;> omega)).trans (by go_keep), (hb2.cell (p := ⟨B, 1, none⟩) (by simp <;> omega)).trans (by go_keep), (hb2.cell (p := ⟨B, 2, none⟩) (by simp <;> omega)).trans (by go_keep), (hb2.cell (p := ⟨B, 3, none⟩) (by simp <;> omega)).trans (by go_keep), (hb2.cell (p := ⟨B, 4, none⟩) (by simp <;> omega)).trans (by go_keep), (hb2.cell (p := ⟨B, 5, none⟩) (by simp <;> omega)).trans (by go_keep), (hb2.cell (p := ⟨B, 6, none⟩) (by simp <;> omega)).trans (by go_keep), (hb2.cell (p := ⟨B, 7, none⟩) (by simp <;> omega)).trans (by go_keep)⟩
    clear hK K
    try simp only [Act.put, List.setIfInBounds_toArray, List.set_cons_zero, List.set_cons_succ]
    refine wpAnyH_take (i := 4) (oi := { dst := some 27, op := Op.move (Operand.tmp 26), type := 4, pos := "transport.go:35", after := #[{ on := 3, ground := Ground.data }, { on := 3, ground := Ground.chain }], guard := none }) (v := ?_) rfl (by kernel_rfl) (by kernel_rfl) (by kernel_rfl) (fun _ _ _ h => h) (Or.inl ⟨by rfl, ?_⟩) (by assumption) ?_
    rotate_left
    · intro wS hSw; go_split_ands; go_simp; first | done | with_reducible rfl
    simp only [Act.put, List.setIfInBounds_toArray, List.set_cons_zero, List.set_cons_succ]
    refine wpAnyH_take (i := 5) (oi := { dst := some 28, op := Op.move (Operand.tmp 0), type := 51, pos := "transport.go:35", after := #[{ on := 4, ground := Ground.guard }], guard := some (4, true) }) (v := ?_) rfl (by kernel_rfl) (by kernel_rfl) (by kernel_rfl) (fun _ _ _ h => h) (Or.inl ⟨by rfl, ?_⟩) (by assumption) ?_
    rotate_left
    · intro wS hSw; go_split_ands; go_simp; first | done | with_reducible rfl
    simp only [Act.put, List.setIfInBounds_toArray, List.set_cons_zero, List.set_cons_succ]
    refine wpAnyH_take (i := 6) (oi := { dst := some 29, op := Op.nilCheck (Operand.tmp 28), type := 0, pos := "transport.go:35", after := #[{ on := 5, ground := Ground.data }, { on := 4, ground := Ground.guard }], guard := some (4, true) }) (v := ?_) rfl (by kernel_rfl) (by kernel_rfl) (by kernel_rfl) (fun _ _ _ h => h) (Or.inl ⟨by rfl, ?_⟩) (by assumption) ?_
    rotate_left
    · intro wS hSw; go_split_ands; go_simp; first | done | with_reducible rfl
    simp only [Act.put, List.setIfInBounds_toArray, List.set_cons_zero, List.set_cons_succ]
    refine wpAnyH_take (i := 7) (oi := { dst := some 30, op := Op.fieldAddr 46 (Operand.tmp 29) 0, type := 0, pos := "transport.go:35", after := #[{ on := 6, ground := Ground.data }, { on := 4, ground := Ground.guard }], guard := some (4, true) }) (v := ?_) rfl (by kernel_rfl) (by kernel_rfl) (by kernel_rfl) (fun _ _ _ h => h) (Or.inl ⟨by rfl, ?_⟩) (by assumption) ?_
    rotate_left
    · intro wS hSw; go_split_ands; go_simp; first | done | with_reducible rfl
    simp only [Act.put, List.setIfInBounds_toArray, List.set_cons_zero, List.set_cons_succ]
    refine wpAnyH_take (i := 8) (oi := { dst := some 31, op := Op.load 3 (Operand.tmp 30), type := 3, pos := "transport.go:35", after := #[{ on := 7, ground := Ground.data }, { on := 4, ground := Ground.guard }], guard := some (4, true) }) (v := ?_) rfl (by kernel_rfl) (by kernel_rfl) (by kernel_rfl) (fun _ _ _ h => h) (Or.inl ⟨by rfl, ?_⟩) (by assumption) ?_
    rotate_left
    · intro wS hSw; go_split_ands; go_simp; first | done | with_reducible rfl
    simp only [Act.put, List.setIfInBounds_toArray, List.set_cons_zero, List.set_cons_succ]
    refine wpAnyH_take (i := 9) (oi := { dst := some 32, op := Op.move (Operand.tmp 1), type := 3, pos := "transport.go:35", after := #[{ on := 4, ground := Ground.guard }], guard := some (4, true) }) (v := ?_) rfl (by kernel_rfl) (by kernel_rfl) (by kernel_rfl) (fun _ _ _ h => h) (Or.inl ⟨by rfl, ?_⟩) (by assumption) ?_
    rotate_left
    · intro wS hSw; go_split_ands; go_simp; first | done | with_reducible rfl
    simp only [Act.put, List.setIfInBounds_toArray, List.set_cons_zero, List.set_cons_succ]
    refine wpAnyH_take (i := 10) (oi := { dst := some 33, op := Op.binOp BinOp.add 3 (Operand.tmp 31) (Operand.tmp 32) 3, type := 3, pos := "transport.go:35", after := #[{ on := 8, ground := Ground.data }, { on := 9, ground := Ground.data }, { on := 4, ground := Ground.guard }], guard := some (4, true) }) (v := ?_) rfl (by kernel_rfl) (by kernel_rfl) (by kernel_rfl) (fun _ _ _ h => h) (Or.inl ⟨by rfl, ?_⟩) (by assumption) ?_
    rotate_left
    · intro wS hSw; go_split_ands; go_simp; first | done | with_reducible rfl
    simp only [Act.put, List.setIfInBounds_toArray, List.set_cons_zero, List.set_cons_succ]
    refine wpAnyH_take (i := 11) (oi := { dst := some 34, op := Op.move (Operand.tmp 0), type := 51, pos := "transport.go:35", after := #[{ on := 4, ground := Ground.guard }], guard := some (4, true) }) (v := ?_) rfl (by kernel_rfl) (by kernel_rfl) (by kernel_rfl) (fun _ _ _ h => h) (Or.inl ⟨by rfl, ?_⟩) (by assumption) ?_
    rotate_left
    · intro wS hSw; go_split_ands; go_simp; first | done | with_reducible rfl
    simp only [Act.put, List.setIfInBounds_toArray, List.set_cons_zero, List.set_cons_succ]
    refine wpAnyH_take (i := 12) (oi := { dst := some 35, op := Op.nilCheck (Operand.tmp 34), type := 0, pos := "transport.go:35", after := #[{ on := 11, ground := Ground.data }, { on := 4, ground := Ground.guard }], guard := some (4, true) }) (v := ?_) rfl (by kernel_rfl) (by kernel_rfl) (by kernel_rfl) (fun _ _ _ h => h) (Or.inl ⟨by rfl, ?_⟩) (by assumption) ?_
    rotate_left
    · intro wS hSw; go_split_ands; go_simp; first | done | with_reducible rfl
    simp only [Act.put, List.setIfInBounds_toArray, List.set_cons_zero, List.set_cons_succ]
    refine wpAnyH_take (i := 13) (oi := { dst := some 36, op := Op.fieldAddr 46 (Operand.tmp 35) 2, type := 0, pos := "transport.go:35", after := #[{ on := 12, ground := Ground.data }, { on := 4, ground := Ground.guard }], guard := some (4, true) }) (v := ?_) rfl (by kernel_rfl) (by kernel_rfl) (by kernel_rfl) (fun _ _ _ h => h) (Or.inl ⟨by rfl, ?_⟩) (by assumption) ?_
    rotate_left
    · intro wS hSw; go_split_ands; go_simp; first | done | with_reducible rfl
    simp only [Act.put, List.setIfInBounds_toArray, List.set_cons_zero, List.set_cons_succ]
    refine wpAnyH_take (i := 14) (oi := { dst := some 37, op := Op.fieldAddr 44 (Operand.tmp 36) 2, type := 0, pos := "transport.go:35", after := #[{ on := 13, ground := Ground.data }, { on := 4, ground := Ground.guard }], guard := some (4, true) }) (v := ?_) rfl (by kernel_rfl) (by kernel_rfl) (by kernel_rfl) (fun _ _ _ h => h) (Or.inl ⟨by rfl, ?_⟩) (by assumption) ?_
    rotate_left
    · intro wS hSw; go_split_ands; go_simp; first | done | with_reducible rfl
    simp only [Act.put, List.setIfInBounds_toArray, List.set_cons_zero, List.set_cons_succ]
    refine wpAnyH_take (i := 15) (oi := { dst := some 38, op := Op.load 3 (Operand.tmp 37), type := 3, pos := "transport.go:35", after := #[{ on := 14, ground := Ground.data }, { on := 4, ground := Ground.guard }], guard := some (4, true) }) (v := ?_) rfl (by kernel_rfl) (by kernel_rfl) (by kernel_rfl) (fun _ _ _ h => h) (Or.inl ⟨by rfl, ?_⟩) (by assumption) ?_
    rotate_left
    · intro wS hSw; go_split_ands; go_simp; first | done | with_reducible rfl
    simp only [Act.put, List.setIfInBounds_toArray, List.set_cons_zero, List.set_cons_succ]
    refine wpAnyH_take (i := 16) (oi := { dst := some 39, op := Op.binOp BinOp.geq 3 (Operand.tmp 33) (Operand.tmp 38) 3, type := 4, pos := "transport.go:35", after := #[{ on := 10, ground := Ground.data }, { on := 15, ground := Ground.data }, { on := 4, ground := Ground.guard }], guard := some (4, true) }) (v := ?_) rfl (by kernel_rfl) (by kernel_rfl) (by kernel_rfl) (fun _ _ _ h => h) (Or.inl ⟨by rfl, ?_⟩) (by assumption) ?_
    rotate_left
    · intro wS hSw; go_split_ands; go_simp; first | done | with_reducible rfl
    simp only [Act.put, List.setIfInBounds_toArray, List.set_cons_zero, List.set_cons_succ]
    refine wpAnyH_take (i := 17) (oi := { dst := some 40, op := Op.pick (Operand.tmp 27) (Operand.tmp 39) (Operand.const (Value.bool false)), type := 4, pos := "transport.go:35", after := #[{ on := 4, ground := Ground.data }, { on := 16, ground := Ground.data }], guard := none }) (v := ?_) rfl (by kernel_rfl) (by kernel_rfl) (by kernel_rfl) (fun _ _ _ h => h) (Or.inl ⟨by rfl, ?_⟩) (by assumption) ?_
    rotate_left
    · intro wS hSw; go_split_ands; go_simp; first | done | with_reducible rfl
    simp only [Act.put, List.setIfInBounds_toArray, List.set_cons_zero, List.set_cons_succ]
    refine wpAnyH_ready (rs := [18]) (by kernel_rfl) (by simp) ?_
    refine AllReadyH.cons (o := { dst := some 22, op := Op.assign (Operand.tmp 40), type := 4, pos := "transport.go:35", after := #[{ on := 17, ground := Ground.data }, { on := 4, ground := Ground.chain }], guard := none }) rfl (fun K hK => ?_) AllReadyH.nil
    go_simp
    refine hK.out _ _ ?_ (fun hHeld => ?_)
    · exact ⟨(hb2.cell (p := ⟨B, 0, none⟩) (by simp <;> omega)).trans (by go_keep), (hb2.cell (p := ⟨B, 1, none⟩) (by simp <;> omega)).trans (by go_keep), (hb2.cell (p := ⟨B, 2, none⟩) (by simp <;> omega)).trans (by go_keep), (hb2.cell (p := ⟨B, 3, none⟩) (by simp <;> omega)).trans (by go_keep), (hb2.cell (p := ⟨B, 4, none⟩) (by simp <;> omega)).trans (by go_keep), (hb2.cell (p := ⟨B, 5, none⟩) (by simp <;> omega)).trans (by go_keep), (hb2.cell (p := ⟨B, 6, none⟩) (by simp <;> omega)).trans (by go_keep), (hb2.cell (p := ⟨B, 7, none⟩) (by simp <;> omega)).trans (by go_keep)⟩
    clear hK K
    try simp only [Act.put, List.setIfInBounds_toArray, List.set_cons_zero, List.set_cons_succ]
    refine wpAnyH_done (by kernel_rfl) ?_ _
    have b2 : Blk w2 B 46 (stc ⟨pos, true, true, la, lb, pon, pa, pb⟩) := h.below (show Below w.heap.size w w2 from ((Below.refl _ w).drew).trans (hb2.mono (by simp))) hlt
    have k2 : Keep (fun r => r = B) w w2 := Keep.of_same (show Below w.heap.size w w2 from ((Below.refl _ w).drew).trans (hb2.mono (by simp))) _
    obtain ⟨e0, e1, e2, e3, e4, e5, e6, e7, ef⟩ := stc_cells b2
    have ef0 := ef 0
    clear hHeld
    go_wp2
    refine bodyPost_end (results_none rfl _ _ _) rfl ?_
    first | exact ⟨_, rfl, by rw [E.out]; exact b2.set 0 _, k2.setCell (p := ⟨B, 0, none⟩) (fun _ => rfl) _⟩ | exact ⟨⟨_, rfl⟩, by rw [E.out]; exact b2.set 0 _, k2.setCell (p := ⟨B, 0, none⟩) (fun _ => rfl) _⟩
  have d2 : decide (lb ≤ pos + n) = true := decide_eq_true hq
  have E := Lib.hid (show advS ⟨pos, true, true, la, lb, pon, pa, pb⟩ n = ⟨la + (pos + n - lb) % (lb - la), true, true, la, lb, pon, pa, pb⟩ by unfold advS; rw [if_neg (by simpa using HZ.out), if_pos ⟨hL, hq⟩])
  have i2 : IntKind.i64.wrap (pos + n - lb) = pos + n - lb := IntWalk.i64_in _ (by omega)
  have i3 : IntKind.i64.wrap (lb - la) = lb - la := IntWalk.i64_in _ (by omega)
  have m0 := Int.emod_nonneg (pos + n - lb) (b := lb - la) (by omega)
  have m1 := Int.emod_lt_of_pos (pos + n - lb) (b := lb - la) (by omega)
  have m2 : (pos + n - lb).tmod (lb - la) = (pos + n - lb) % (lb - la) := Int.tmod_eq_emod_of_nonneg (by omega)
  have m3 : ¬ lb - la = 0 := by omega
  have i5 : IntKind.i64.wrap ((pos + n - lb) % (lb - la)) = (pos + n - lb) % (lb - la) := IntWalk.i64_in _ (by omega)
  have i4 : IntKind.i64.wrap (la + (pos + n - lb) % (lb - la)) = la + (pos + n - lb) % (lb - la) := IntWalk.i64_in _ (by omega)
  clear hL
  go_enter Try.func22, Try.ntmps22
  go_wp2_with fail
  refine wp_region_held_drew (S := (fun W => W.cell? ⟨B, 0, none⟩ = some (.int .i64 pos) ∧ W.cell? ⟨B, 1, none⟩ = some (.bool true) ∧ W.cell? ⟨B, 2, none⟩ = some (.bool true) ∧ W.cell? ⟨B, 3, none⟩ = some (.int .i64 la) ∧ W.cell? ⟨B, 4, none⟩ = some (.int .i64 lb) ∧ W.cell? ⟨B, 5, none⟩ = some (.bool pon) ∧ W.cell? ⟨B, 6, none⟩ = some (.int .i64 pa) ∧ W.cell? ⟨B, 7, none⟩ = some (.int .i64 pb))) (by kernel_rfl) ?_ (fun hHeld => ?_)
  · go_keep
  try dsimp only at hHeld
  refine wpAnyH_take (i := 0) (oi := { dst := some 23, op := Op.move (Operand.tmp 0), type := 51, pos := "transport.go:35", after := #[], guard := none }) (v := ?_) rfl (by kernel_rfl) (by kernel_rfl) (by kernel_rfl) (fun _ _ _ h => h) (Or.inl ⟨by rfl, ?_⟩) (by assumption) ?_
  rotate_left
  · intro wS hSw; go_split_ands; go_simp; first | done | with_reducible rfl
  simp only [Act.put, List.setIfInBounds_toArray, List.set_cons_zero, List.set_cons_succ]
  refine wpAnyH_take (i := 1) (oi := { dst := some 24, op := Op.nilCheck (Operand.tmp 23), type := 0, pos := "transport.go:35", after := #[{ on := 0, ground := Ground.data }], guard := none }) (v := ?_) rfl (by kernel_rfl) (by kernel_rfl) (by kernel_rfl) (fun _ _ _ h => h) (Or.inl ⟨by rfl, ?_⟩) (by assumption) ?_
  rotate_left
  · intro wS hSw; go_split_ands; go_simp; first | done | with_reducible rfl
  simp only [Act.put, List.setIfInBounds_toArray, List.set_cons_zero, List.set_cons_succ]
  refine wpAnyH_take (i := 2) (oi := { dst := some 25, op := Op.load 46 (Operand.tmp 24), type := 46, pos := "transport.go:35", after := #[{ on := 1, ground := Ground.data }], guard := none }) (v := ?_) rfl (by kernel_rfl) (by kernel_rfl) (by kernel_rfl) (fun _ _ _ h => h) (Or.inl ⟨by rfl, ?_⟩) (by assumption) ?_
  rotate_left
  · intro wS hSw; go_split_ands; go_simp; first | done | with_reducible rfl
  simp only [Act.put, List.setIfInBounds_toArray, List.set_cons_zero, List.set_cons_succ]
  refine wpAnyH_ready (rs := [3]) (by kernel_rfl) (by simp) ?_
  refine AllReadyH.cons (o := { dst := some 26, op := Op.call { callee := Callee.value (Operand.func 35), args := #[Operand.tmp 25], argTypes := #[51] }, type := 4, pos := "transport.go:35", after := #[{ on := 2, ground := Ground.data }], guard := none }) rfl (fun K hK => ?_) AllReadyH.nil
  go_simp
  go_at_call 35; refine (KR _).mono ?_; rintro e w2 ⟨rfl, hb2⟩
  refine hK.out _ _ ?_ (fun hHeld => ?_)
  · exact ⟨(hb2.cell (p := ⟨B, 0, none⟩) (by simp <;> omega)).trans (by go_keep), (hb2.cell (p := ⟨B, 1, none⟩) (by simp <;> omega)).trans (by go_keep), (hb2.cell (p := ⟨B, 2, none⟩) (by simp <;> omega)).trans (by go_keep), (hb2.cell (p := ⟨B, 3, none⟩) (by simp <;> omega)).trans (by go_keep), (hb2.cell (p := ⟨B, 4, none⟩) (by simp <;> omega)).trans (by go_keep), (hb2.cell (p := ⟨B, 5, none⟩) (by simp <;> omega)).trans (by go_keep), (hb2.cell (p := ⟨B, 6, none⟩) (by simp <;> omega)).trans (by go_keep), (hb2.cell (p := ⟨B, 7, none⟩) (by simp <;> omega)).trans (by go_keep)⟩
  clear hK K
  try simp only [Act.put, List.setIfInBounds_toArray, List.set_cons_zero, List.set_cons_succ]
  refine wpAnyH_take (i := 4) (oi := { dst := some 27, op := Op.move (Operand.tmp 26), type := 4, pos := "transport.go:35", after := #[{ on := 3, ground := Ground.data }, { on := 3, ground := Ground.chain }], guard := none }) (v := ?_) rfl (by kernel_rfl) (by kernel_rfl) (by kernel_rfl) (fun _ _ _ h => h) (Or.inl ⟨by rfl, ?_⟩) (by assumption) ?_
  rotate_left
  · intro wS hSw; go_split_ands; go_simp; first | done | with_reducible rfl
  simp only [Act.put, List.setIfInBounds_toArray, List.set_cons_zero, List.set_cons_succ]
  refine wpAnyH_take (i := 5) (oi := { dst := some 28, op := Op.move (Operand.tmp 0), type := 51, pos := "transport.go:35", after := #[{ on := 4, ground := Ground.guard }], guard := some (4, true) }) (v := ?_) rfl (by kernel_rfl) (by kernel_rfl) (by kernel_rfl) (fun _ _ _ h => h) (Or.inl ⟨by rfl, ?_⟩) (by assumption) ?_
  rotate_left
  · intro wS hSw; go_split_ands; go_simp; first | done | with_reducible rfl
  simp only [Act.put, List.setIfInBounds_toArray, List.set_cons_zero, List.set_cons_succ]
  refine wpAnyH_take (i := 6) (oi := { dst := some 29, op := Op.nilCheck (Operand.tmp 28), type := 0, pos := "transport.go:35", after := #[{ on := 5, ground := Ground.data }, { on := 4, ground := Ground.guard }], guard := some (4, true) }) (v := ?_) rfl (by kernel_rfl) (by kernel_rfl) (by kernel_rfl) (fun _ _ _ h => h) (Or.inl ⟨by rfl, ?_⟩) (by assumption) ?_
  rotate_left
  · intro wS hSw; go_split_ands; go_simp; first | done | with_reducible rfl
  simp only [Act.put, List.setIfInBounds_toArray, List.set_cons_zero, List.set_cons_succ]
  refine wpAnyH_take (i := 7) (oi := { dst := some 30, op := Op.fieldAddr 46 (Operand.tmp 29) 0, type := 0, pos := "transport.go:35", after := #[{ on := 6, ground := Ground.data }, { on := 4, ground := Ground.guard }], guard := some (4, true) }) (v := ?_) rfl (by kernel_rfl) (by kernel_rfl) (by kernel_rfl) (fun _ _ _ h => h) (Or.inl ⟨by rfl, ?_⟩) (by assumption) ?_
  rotate_left
  · intro wS hSw; go_split_ands; go_simp; first | done | with_reducible rfl
  simp only [Act.put, List.setIfInBounds_toArray, List.set_cons_zero, List.set_cons_succ]
  refine wpAnyH_take (i := 8) (oi := { dst := some 31, op := Op.load 3 (Operand.tmp 30), type := 3, pos := "transport.go:35", after := #[{ on := 7, ground := Ground.data }, { on := 4, ground := Ground.guard }], guard := some (4, true) }) (v := ?_) rfl (by kernel_rfl) (by kernel_rfl) (by kernel_rfl) (fun _ _ _ h => h) (Or.inl ⟨by rfl, ?_⟩) (by assumption) ?_
  rotate_left
  · intro wS hSw; go_split_ands; go_simp; first | done | with_reducible rfl
  simp only [Act.put, List.setIfInBounds_toArray, List.set_cons_zero, List.set_cons_succ]
  refine wpAnyH_take (i := 9) (oi := { dst := some 32, op := Op.move (Operand.tmp 1), type := 3, pos := "transport.go:35", after := #[{ on := 4, ground := Ground.guard }], guard := some (4, true) }) (v := ?_) rfl (by kernel_rfl) (by kernel_rfl) (by kernel_rfl) (fun _ _ _ h => h) (Or.inl ⟨by rfl, ?_⟩) (by assumption) ?_
  rotate_left
  · intro wS hSw; go_split_ands; go_simp; first | done | with_reducible rfl
  simp only [Act.put, List.setIfInBounds_toArray, List.set_cons_zero, List.set_cons_succ]
  refine wpAnyH_take (i := 10) (oi := { dst := some 33, op := Op.binOp BinOp.add 3 (Operand.tmp 31) (Operand.tmp 32) 3, type := 3, pos := "transport.go:35", after := #[{ on := 8, ground := Ground.data }, { on := 9, ground := Ground.data }, { on := 4, ground := Ground.guard }], guard := some (4, true) }) (v := ?_) rfl (by kernel_rfl) (by kernel_rfl) (by kernel_rfl) (fun _ _ _ h => h) (Or.inl ⟨by rfl, ?_⟩) (by assumption) ?_
  rotate_left
  · intro wS hSw; go_split_ands; go_simp; first | done | with_reducible rfl
  simp only [Act.put, List.setIfInBounds_toArray, List.set_cons_zero, List.set_cons_succ]
  refine wpAnyH_take (i := 11) (oi := { dst := some 34, op := Op.move (Operand.tmp 0), type := 51, pos := "transport.go:35", after := #[{ on := 4, ground := Ground.guard }], guard := some (4, true) }) (v := ?_) rfl (by kernel_rfl) (by kernel_rfl) (by kernel_rfl) (fun _ _ _ h => h) (Or.inl ⟨by rfl, ?_⟩) (by assumption) ?_
  rotate_left
  · intro wS hSw; go_split_ands; go_simp; first | done | with_reducible rfl
  simp only [Act.put, List.setIfInBounds_toArray, List.set_cons_zero, List.set_cons_succ]
  refine wpAnyH_take (i := 12) (oi := { dst := some 35, op := Op.nilCheck (Operand.tmp 34), type := 0, pos := "transport.go:35", after := #[{ on := 11, ground := Ground.data }, { on := 4, ground := Ground.guard }], guard := some (4, true) }) (v := ?_) rfl (by kernel_rfl) (by kernel_rfl) (by kernel_rfl) (fun _ _ _ h => h) (Or.inl ⟨by rfl, ?_⟩) (by assumption) ?_
  rotate_left
  · intro wS hSw; go_split_ands; go_simp; first | done | with_reducible rfl
  simp only [Act.put, List.setIfInBounds_toArray, List.set_cons_zero, List.set_cons_succ]
  refine wpAnyH_take (i := 13) (oi := { dst := some 36, op := Op.fieldAddr 46 (Operand.tmp 35) 2, type := 0, pos := "transport.go:35", after := #[{ on := 12, ground := Ground.data }, { on := 4, ground := Ground.guard }], guard := some (4, true) }) (v := ?_) rfl (by kernel_rfl) (by kernel_rfl) (by kernel_rfl) (fun _ _ _ h => h) (Or.inl ⟨by rfl, ?_⟩) (by assumption) ?_
  rotate_left
  · intro wS hSw; go_split_ands; go_simp; first | done | with_reducible rfl
  simp only [Act.put, List.setIfInBounds_toArray, List.set_cons_zero, List.set_cons_succ]
  refine wpAnyH_take (i := 14) (oi := { dst := some 37, op := Op.fieldAddr 44 (Operand.tmp 36) 2, type := 0, pos := "transport.go:35", after := #[{ on := 13, ground := Ground.data }, { on := 4, ground := Ground.guard }], guard := some (4, true) }) (v := ?_) rfl (by kernel_rfl) (by kernel_rfl) (by kernel_rfl) (fun _ _ _ h => h) (Or.inl ⟨by rfl, ?_⟩) (by assumption) ?_
  rotate_left
  · intro wS hSw; go_split_ands; go_simp; first | done | with_reducible rfl
  simp only [Act.put, List.setIfInBounds_toArray, List.set_cons_zero, List.set_cons_succ]
  refine wpAnyH_take (i := 15) (oi := { dst := some 38, op := Op.load 3 (Operand.tmp 37), type := 3, pos := "transport.go:35", after := #[{ on := 14, ground := Ground.data }, { on := 4, ground := Ground.guard }], guard := some (4, true) }) (v := ?_) rfl (by kernel_rfl) (by kernel_rfl) (by kernel_rfl) (fun _ _ _ h => h) (Or.inl ⟨by rfl, ?_⟩) (by assumption) ?_
  rotate_left
  · intro wS hSw; go_split_ands; go_simp; first | done | with_reducible rfl
  simp only [Act.put, List.setIfInBounds_toArray, List.set_cons_zero, List.set_cons_succ]
  refine wpAnyH_take (i := 16) (oi := { dst := some 39, op := Op.binOp BinOp.geq 3 (Operand.tmp 33) (Operand.tmp 38) 3, type := 4, pos := "transport.go:35", after := #[{ on := 10, ground := Ground.data }, { on := 15, ground := Ground.data }, { on := 4, ground := Ground.guard }], guard := some (4, true) }) (v := ?_) rfl (by kernel_rfl) (by kernel_rfl) (by kernel_rfl) (fun _ _ _ h => h) (Or.inl ⟨by rfl, ?_⟩) (by assumption) ?_
  rotate_left
  · intro wS hSw; go_split_ands; go_simp; first | done | with_reducible rfl
  simp only [Act.put, List.setIfInBounds_toArray, List.set_cons_zero, List.set_cons_succ]
  refine wpAnyH_take (i := 17) (oi := { dst := some 40, op := Op.pick (Operand.tmp 27) (Operand.tmp 39) (Operand.const (Value.bool false)), type := 4, pos := "transport.go:35", after := #[{ on := 4, ground := Ground.data }, { on := 16, ground := Ground.data }], guard := none }) (v := ?_) rfl (by kernel_rfl) (by kernel_rfl) (by kernel_rfl) (fun _ _ _ h => h) (Or.inl ⟨by rfl, ?_⟩) (by assumption) ?_
  rotate_left
  · intro wS hSw; go_split_ands; go_simp; first | done | with_reducible rfl
  simp only [Act.put, List.setIfInBounds_toArray, List.set_cons_zero, List.set_cons_succ]
  refine wpAnyH_ready (rs := [18]) (by kernel_rfl) (by simp) ?_
  refine AllReadyH.cons (o := { dst := some 22, op := Op.assign (Operand.tmp 40), type := 4, pos := "transport.go:35", after := #[{ on := 17, ground := Ground.data }, { on := 4, ground := Ground.chain }], guard := none }) rfl (fun K hK => ?_) AllReadyH.nil
  go_simp
  refine hK.out _ _ ?_ (fun hHeld => ?_)
  · exact ⟨(hb2.cell (p := ⟨B, 0, none⟩) (by simp <;> omega)).trans (by go_keep), (hb2.cell (p := ⟨B, 1, none⟩) (by simp <;> omega)).trans (by go_keep), (hb2.cell (p := ⟨B, 2, none⟩) (by simp <;> omega)).trans (by go_keep), (hb2.cell (p := ⟨B, 3, none⟩) (by simp <;> omega)).trans (by go_keep), (hb2.cell (p := ⟨B, 4, none⟩) (by simp <;> omega)).trans (by go_keep), (hb2.cell (p := ⟨B, 5, none⟩) (by simp <;> omega)).trans (by go_keep), (hb2.cell (p := ⟨B, 6, none⟩) (by simp <;> omega)).trans (by go_keep), (hb2.cell (p := ⟨B, 7, none⟩) (by simp <;> omega)).trans (by go_keep)⟩
  clear hK K
  try simp only [Act.put, List.setIfInBounds_toArray, List.set_cons_zero, List.set_cons_succ]
  refine wpAnyH_done (by kernel_rfl) ?_ _
  have b2 : Blk w2 B 46 (stc ⟨pos, true, true, la, lb, pon, pa, pb⟩) := h.below (show Below w.heap.size w w2 from ((Below.refl _ w).drew).trans (hb2.mono (by simp))) hlt
  have k2 : Keep (fun r => r = B) w w2 := Keep.of_same (show Below w.heap.size w w2 from ((Below.refl _ w).drew).trans (hb2.mono (by simp))) _
  obtain ⟨e0, e1, e2, e3, e4, e5, e6, e7, ef⟩ := stc_cells b2
  have ef0 := ef 0
  clear hHeld
  go_wp2_with fail
  go_region
  go_wp2
  refine bodyPost_end (results_none rfl _ _ _) rfl ?_
  first | exact ⟨_, rfl, by rw [E.out]; exact b2.set 0 _, k2.drew.setCell (p := ⟨B, 0, none⟩) (fun _ => rfl) _⟩ | exact ⟨⟨_, rfl⟩, by rw [E.out]; exact b2.set 0 _, k2.drew.setCell (p := ⟨B, 0, none⟩) (fun _ => rfl) _⟩
end Go.Proofs.Ytjkclplnflaplaa
