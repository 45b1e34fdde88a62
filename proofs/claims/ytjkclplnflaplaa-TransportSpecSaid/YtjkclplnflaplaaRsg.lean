/-
  The reference's Song answers what the orders say; whether a span goes on with a state. Conditions: the orders lie as a list.
-/
import Derived.Test.YtjkclplnflaplaaRat
import Derived.Test.YtjkclplnflaplaaJoin
namespace Go.Proofs.Ytjkclplnflaplaa
open Go.RowKit
attribute [local go_sem] Oper.semAt_some

set_option maxRecDepth 20000 in
set_option maxHeartbeats 4000000 in
theorem rsong_t (A : Option Addr) (c : Nat) (l : List Ord) (t : Int) (w : World) (hn : l.length ≤ 1000000000) (h : SlAt w A l) :
    Calls Try.prog 15 #[.slice A l.length c, .int .i64 t] w (SongIs w (gSong l t)) := by
  have KC := rcheck_t A c l w hn h
  unfold SongIs
  by_cases hc : gCheck l = 0
  case neg =>
    have E := Lib.hid (show gSong l t = (0, false, false, gCheck l) by unfold gSong; rw [if_pos hc])
    have d : (gCheck l != 0) = true := bne_iff_ne.2 hc
    clear hc
    go_enter Try.func15, Try.ntmps15
    go_wp2_with (go_at_call 13; refine KC.mono ?_; rintro e w1 ⟨rfl, hw1⟩)
    refine bodyPost_ret (results_tmp4 rfl _ _ _) rfl ?_
    exact ⟨by rw [E.out]; rfl, hw1⟩
  have hg := good_of_check hc
  have hle := len_of_check hc
  rw [hc] at KC
  by_cases r1 : t < 0
  · have E := Lib.hid (show gSong l t = (0, false, false, 1) by unfold gSong; rw [if_neg (not_not_intro hc), if_pos (.inl r1)])
    have d : decide (t < 0) = true := decide_eq_true r1
    clear hc r1
    go_enter Try.func15, Try.ntmps15
    go_wp2_with (go_at_call 13; refine KC.mono ?_; rintro e w1 ⟨rfl, hw1⟩)
    refine bodyPost_ret (results_tmp4 rfl _ _ _) rfl ?_
    exact ⟨by rw [E.out]; rfl, hw1⟩
  have d : decide (t < 0) = false := decide_eq_false r1
  by_cases r2 : 1099511627776 < t
  · have E := Lib.hid (show gSong l t = (0, false, false, 1) by unfold gSong; rw [if_neg (not_not_intro hc), if_pos (.inr r2)])
    have d2 : decide (1099511627776 < t) = true := decide_eq_true r2
    clear hc r2
    go_enter Try.func15, Try.ntmps15
    go_wp2_with (go_at_call 13; refine KC.mono ?_; rintro e w1 ⟨rfl, hw1⟩)
    refine bodyPost_ret (results_tmp4 rfl _ _ _) rfl ?_
    exact ⟨by rw [E.out]; rfl, hw1⟩
  have d2 : decide (1099511627776 < t) = false := decide_eq_false r2
  have E := Lib.hid (gSong_of hc (t := t) (by omega) (by omega))
  have HG := Lib.hid hg
  have t0 : 0 ≤ t := by omega
  have t1 : t ≤ 1099511627776 := by omega
  clear hc hg r1 r2
  go_enter Try.func15, Try.ntmps15
  go_wp2_with (fail)
  go_at_call 13
  refine KC.mono ?_
  rintro e w1 ⟨rfl, hw1⟩
  have h1 := h.below hw1
  go_wp2_with (fail)
  go_at_call 24
  refine (at_t A c l t w1 hle HG.out h1 t0 t1).mono ?_
  rintro e w2 ⟨r, hs, rfl, hw2⟩
  have b2 := hw1.trans (hw2.mono hw1.size)
  have KR := fun W => rrec_t r W
  have E2 := Lib.hid (show gSong l t = (r.pos, r.roll, recR r, 0) by rw [E.out, hs.pos, hs.roll, hs.rec_])
  obtain ⟨rb, hrb⟩ : ∃ x, x = recR r := ⟨_, rfl⟩
  rw [← hrb] at KR
  have HRB := Lib.hid hrb
  clear hs hw1 hw2 h1 hrb E
  obtain ⟨p0, p1, p2, p3, p4, p5, p6, p7, p8, p9⟩ := r
  unfold rsv rsc at KR ⊢
  dsimp only at KR ⊢
  have b3 := b2.alloc b2.size (.cells #[.int .i64 p0, .bool p1, .int .i64 p2, .int .i64 p3, .int .i64 p4, .int .i64 p5, .int .i64 p6, .int .i64 p7, .int .i64 p8, .int .i64 p9] 53)
  have n3 : Blk (w2.alloc (.cells #[.int .i64 p0, .bool p1, .int .i64 p2, .int .i64 p3, .int .i64 p4, .int .i64 p5, .int .i64 p6, .int .i64 p7, .int .i64 p8, .int .i64 p9] 53)) w2.heap.size 53 (rsc ⟨p0, p1, p2, p3, p4, p5, p6, p7, p8, p9⟩) := Blk.new w2 53 _
  go_wp2_with (fail)
  go_region_held3 (fun W => W.cell? ⟨w2.heap.size, 0, none⟩ = some (.int .i64 p0) ∧ W.cell? ⟨w2.heap.size, 1, none⟩ = some (.bool p1) ∧ W.cell? ⟨w2.heap.size, 2, none⟩ = some (.int .i64 p2) ∧ W.cell? ⟨w2.heap.size, 3, none⟩ = some (.int .i64 p3) ∧ W.cell? ⟨w2.heap.size, 4, none⟩ = some (.int .i64 p4) ∧ W.cell? ⟨w2.heap.size, 5, none⟩ = some (.int .i64 p5) ∧ W.cell? ⟨w2.heap.size, 6, none⟩ = some (.int .i64 p6) ∧ W.cell? ⟨w2.heap.size, 7, none⟩ = some (.int .i64 p7) ∧ W.cell? ⟨w2.heap.size, 8, none⟩ = some (.int .i64 p8) ∧ W.cell? ⟨w2.heap.size, 9, none⟩ = some (.int .i64 p9))
    (first
      | go_keep
      | exact ⟨(hb7.cell (p := ⟨w2.heap.size, 0, none⟩) (by simp)).trans (by go_keep), (hb7.cell (p := ⟨w2.heap.size, 1, none⟩) (by simp)).trans (by go_keep), (hb7.cell (p := ⟨w2.heap.size, 2, none⟩) (by simp)).trans (by go_keep), (hb7.cell (p := ⟨w2.heap.size, 3, none⟩) (by simp)).trans (by go_keep), (hb7.cell (p := ⟨w2.heap.size, 4, none⟩) (by simp)).trans (by go_keep), (hb7.cell (p := ⟨w2.heap.size, 5, none⟩) (by simp)).trans (by go_keep), (hb7.cell (p := ⟨w2.heap.size, 6, none⟩) (by simp)).trans (by go_keep), (hb7.cell (p := ⟨w2.heap.size, 7, none⟩) (by simp)).trans (by go_keep), (hb7.cell (p := ⟨w2.heap.size, 8, none⟩) (by simp)).trans (by go_keep), (hb7.cell (p := ⟨w2.heap.size, 9, none⟩) (by simp)).trans (by go_keep)⟩)
    ((go_at_call 25; refine (KR _).mono ?_; rintro e w7 ⟨rfl, hb7⟩))
  go_wp2_with (fail)
  refine bodyPost_ret (results_tmp4 rfl _ _ _) rfl ?_
  exact ⟨by rw [E2.out, ← HRB.out]; rfl, b3.drew.trans (hb7.mono b3.size)⟩

set_option maxRecDepth 20000 in
set_option maxHeartbeats 4000000 in
theorem goes_t (a : Sp) (r : RS) (w : World) (h0 : 0 ≤ a.song) (h1 : a.song ≤ 4398046511104) (h2 : 0 ≤ a.len) (h3 : a.len ≤ 4398046511104) :
    Calls Try.prog 28 #[spv a, rsv r] w fun e w' => e = .returned (.bool (joinB a ⟨0, 1, r.pos, r.roll, recR r⟩)) ∧ Below w.heap.size w w' := by
  have KR := fun W => rrec_t r W
  obtain ⟨rb, hrb⟩ : ∃ x, x = recR r := ⟨_, rfl⟩
  rw [← hrb] at KR ⊢
  clear hrb
  obtain ⟨p0, p1, p2, p3, p4, p5, p6, p7, p8, p9⟩ := r
  obtain ⟨ae, al, az, ar, ac⟩ := a
  dsimp only at h0 h1 h2 h3 ⊢
  unfold rsv rsc at KR ⊢
  unfold spv spc
  dsimp only at KR ⊢
  cases ar
  case false =>
    cases p1
    case false =>
      cases ac
      case false =>
        cases rb
        case false =>
          by_cases hq : az = p0
          case pos =>
            have d : (az == p0) = true := beq_iff_eq.2 hq
            have E := Lib.hid (show joinB ⟨ae, al, az, false, false⟩ ⟨0, 1, p0, false, false⟩ = true by unfold joinB endS; simp [hq])
            have HB : Below w.heap.size w ((w.alloc (.cells #[.int .i64 ae, .int .i64 al, .int .i64 az, .bool false, .bool false] 36)).alloc (.cells #[.int .i64 p0, .bool false, .int .i64 p2, .int .i64 p3, .int .i64 p4, .int .i64 p5, .int .i64 p6, .int .i64 p7, .int .i64 p8, .int .i64 p9] 53)) := ((Below.refl _ w).alloc (Nat.le_refl _) _).alloc (by simp) _
            try clear hq
            go_enter Try.func28, Try.ntmps28
            go_wp2
            refine wp_region_held_drew (S := (fun W => W.cell? ⟨w.heap.size, 2, none⟩ = some (.int .i64 az) ∧ W.cell? ⟨w.heap.size, 3, none⟩ = some (.bool false) ∧ W.cell? ⟨w.heap.size, 4, none⟩ = some (.bool false) ∧ W.cell? ⟨w.heap.size + 1, 0, none⟩ = some (.int .i64 p0) ∧ W.cell? ⟨w.heap.size + 1, 1, none⟩ = some (.bool false) ∧ W.cell? ⟨w.heap.size + 1, 2, none⟩ = some (.int .i64 p2) ∧ W.cell? ⟨w.heap.size + 1, 3, none⟩ = some (.int .i64 p3) ∧ W.cell? ⟨w.heap.size + 1, 4, none⟩ = some (.int .i64 p4) ∧ W.cell? ⟨w.heap.size + 1, 5, none⟩ = some (.int .i64 p5) ∧ W.cell? ⟨w.heap.size + 1, 6, none⟩ = some (.int .i64 p6) ∧ W.cell? ⟨w.heap.size + 1, 7, none⟩ = some (.int .i64 p7) ∧ W.cell? ⟨w.heap.size + 1, 8, none⟩ = some (.int .i64 p8) ∧ W.cell? ⟨w.heap.size + 1, 9, none⟩ = some (.int .i64 p9))) (by kernel_rfl) ?_ (fun hHeld => ?_)
            · go_keep
            try dsimp only at hHeld
            refine wpAnyH_take (i := 0) (oi := { dst := some 15, op := Op.fieldAddr 36 (Operand.tmp 2) 3, type := 0, pos := "ref.go:113", after := #[], guard := none }) (v := ?_) rfl (by kernel_rfl) (by kernel_rfl) (by kernel_rfl) (fun _ _ _ h => h) (Or.inl ⟨by rfl, ?_⟩) (by assumption) ?_
            rotate_left
            · intro wS hSw; go_split_ands; go_simp; first | done | with_reducible rfl
            simp only [Act.put, List.setIfInBounds_toArray, List.set_cons_zero, List.set_cons_succ]
            refine wpAnyH_take (i := 1) (oi := { dst := some 16, op := Op.load 4 (Operand.tmp 15), type := 4, pos := "ref.go:113", after := #[{ on := 0, ground := Ground.data }], guard := none }) (v := ?_) rfl (by kernel_rfl) (by kernel_rfl) (by kernel_rfl) (fun _ _ _ h => h) (Or.inl ⟨by rfl, ?_⟩) (by assumption) ?_
            rotate_left
            · intro wS hSw; go_split_ands; go_simp; first | done | with_reducible rfl
            simp only [Act.put, List.setIfInBounds_toArray, List.set_cons_zero, List.set_cons_succ]
            refine wpAnyH_take (i := 2) (oi := { dst := some 17, op := Op.fieldAddr 53 (Operand.tmp 3) 1, type := 0, pos := "ref.go:113", after := #[], guard := none }) (v := ?_) rfl (by kernel_rfl) (by kernel_rfl) (by kernel_rfl) (fun _ _ _ h => h) (Or.inl ⟨by rfl, ?_⟩) (by assumption) ?_
            rotate_left
            · intro wS hSw; go_split_ands; go_simp; first | done | with_reducible rfl
            simp only [Act.put, List.setIfInBounds_toArray, List.set_cons_zero, List.set_cons_succ]
            refine wpAnyH_take (i := 3) (oi := { dst := some 18, op := Op.load 4 (Operand.tmp 17), type := 4, pos := "ref.go:113", after := #[{ on := 2, ground := Ground.data }], guard := none }) (v := ?_) rfl (by kernel_rfl) (by kernel_rfl) (by kernel_rfl) (fun _ _ _ h => h) (Or.inl ⟨by rfl, ?_⟩) (by assumption) ?_
            rotate_left
            · intro wS hSw; go_split_ands; go_simp; first | done | with_reducible rfl
            simp only [Act.put, List.setIfInBounds_toArray, List.set_cons_zero, List.set_cons_succ]
            refine wpAnyH_take (i := 4) (oi := { dst := some 19, op := Op.binOp BinOp.eql 4 (Operand.tmp 16) (Operand.tmp 18) 4, type := 4, pos := "ref.go:113", after := #[{ on := 1, ground := Ground.data }, { on := 3, ground := Ground.data }], guard := none }) (v := ?_) rfl (by kernel_rfl) (by kernel_rfl) (by kernel_rfl) (fun _ _ _ h => h) (Or.inl ⟨by rfl, ?_⟩) (by assumption) ?_
            rotate_left
            · intro wS hSw; go_split_ands; go_simp; first | done | with_reducible rfl
            simp only [Act.put, List.setIfInBounds_toArray, List.set_cons_zero, List.set_cons_succ]
            refine wpAnyH_take (i := 5) (oi := { dst := some 20, op := Op.move (Operand.tmp 19), type := 4, pos := "ref.go:113", after := #[{ on := 4, ground := Ground.data }], guard := none }) (v := ?_) rfl (by kernel_rfl) (by kernel_rfl) (by kernel_rfl) (fun _ _ _ h => h) (Or.inl ⟨by rfl, ?_⟩) (by assumption) ?_
            rotate_left
            · intro wS hSw; go_split_ands; go_simp; first | done | with_reducible rfl
            simp only [Act.put, List.setIfInBounds_toArray, List.set_cons_zero, List.set_cons_succ]
            refine wpAnyH_take (i := 6) (oi := { dst := some 21, op := Op.fieldAddr 36 (Operand.tmp 2) 4, type := 0, pos := "ref.go:113", after := #[{ on := 5, ground := Ground.guard }], guard := some (5, true) }) (v := ?_) rfl (by kernel_rfl) (by kernel_rfl) (by kernel_rfl) (fun _ _ _ h => h) (Or.inl ⟨by rfl, ?_⟩) (by assumption) ?_
            rotate_left
            · intro wS hSw; go_split_ands; go_simp; first | done | with_reducible rfl
            simp only [Act.put, List.setIfInBounds_toArray, List.set_cons_zero, List.set_cons_succ]
            refine wpAnyH_take (i := 7) (oi := { dst := some 22, op := Op.load 4 (Operand.tmp 21), type := 4, pos := "ref.go:113", after := #[{ on := 6, ground := Ground.data }, { on := 5, ground := Ground.guard }], guard := some (5, true) }) (v := ?_) rfl (by kernel_rfl) (by kernel_rfl) (by kernel_rfl) (fun _ _ _ h => h) (Or.inl ⟨by rfl, ?_⟩) (by assumption) ?_
            rotate_left
            · intro wS hSw; go_split_ands; go_simp; first | done | with_reducible rfl
            simp only [Act.put, List.setIfInBounds_toArray, List.set_cons_zero, List.set_cons_succ]
            refine wpAnyH_take (i := 8) (oi := { dst := some 23, op := Op.load 53 (Operand.tmp 3), type := 53, pos := "ref.go:113", after := #[{ on := 5, ground := Ground.guard }], guard := some (5, true) }) (v := ?_) rfl (by kernel_rfl) (by kernel_rfl) (by kernel_rfl) (fun _ _ _ h => h) (Or.inl ⟨by rfl, ?_⟩) (by assumption) ?_
            rotate_left
            · intro wS hSw; go_split_ands; go_simp; first | done | with_reducible rfl
            simp only [Act.put, List.setIfInBounds_toArray, List.set_cons_zero, List.set_cons_succ]
            refine wpAnyH_ready (rs := [9]) (by kernel_rfl) (by simp) ?_
            refine AllReadyH.cons (o := { dst := some 24, op := Op.call { callee := Callee.value (Operand.func 25), args := #[Operand.tmp 23], argTypes := #[53] }, type := 4, pos := "ref.go:113", after := #[{ on := 8, ground := Ground.data }, { on := 5, ground := Ground.chain }, { on := 5, ground := Ground.guard }], guard := some (5, true) }) rfl (fun K hK => ?_) AllReadyH.nil
            go_simp
            go_at_call 25; refine (KR _).mono ?_; rintro e w7 ⟨rfl, hb7⟩
            refine hK.out _ _ ?_ (fun hHeld => ?_)
            · exact ⟨(hb7.cell (p := ⟨w.heap.size, 2, none⟩) (by simp <;> omega)).trans (by go_keep), (hb7.cell (p := ⟨w.heap.size, 3, none⟩) (by simp <;> omega)).trans (by go_keep), (hb7.cell (p := ⟨w.heap.size, 4, none⟩) (by simp <;> omega)).trans (by go_keep), (hb7.cell (p := ⟨w.heap.size + 1, 0, none⟩) (by simp <;> omega)).trans (by go_keep), (hb7.cell (p := ⟨w.heap.size + 1, 1, none⟩) (by simp <;> omega)).trans (by go_keep), (hb7.cell (p := ⟨w.heap.size + 1, 2, none⟩) (by simp <;> omega)).trans (by go_keep), (hb7.cell (p := ⟨w.heap.size + 1, 3, none⟩) (by simp <;> omega)).trans (by go_keep), (hb7.cell (p := ⟨w.heap.size + 1, 4, none⟩) (by simp <;> omega)).trans (by go_keep), (hb7.cell (p := ⟨w.heap.size + 1, 5, none⟩) (by simp <;> omega)).trans (by go_keep), (hb7.cell (p := ⟨w.heap.size + 1, 6, none⟩) (by simp <;> omega)).trans (by go_keep), (hb7.cell (p := ⟨w.heap.size + 1, 7, none⟩) (by simp <;> omega)).trans (by go_keep), (hb7.cell (p := ⟨w.heap.size + 1, 8, none⟩) (by simp <;> omega)).trans (by go_keep), (hb7.cell (p := ⟨w.heap.size + 1, 9, none⟩) (by simp <;> omega)).trans (by go_keep)⟩
            clear hK K
            try simp only [Act.put, List.setIfInBounds_toArray, List.set_cons_zero, List.set_cons_succ]
            refine wpAnyH_take (i := 10) (oi := { dst := some 25, op := Op.binOp BinOp.eql 4 (Operand.tmp 22) (Operand.tmp 24) 4, type := 4, pos := "ref.go:113", after := #[{ on := 7, ground := Ground.data }, { on := 9, ground := Ground.data }, { on := 5, ground := Ground.guard }], guard := some (5, true) }) (v := ?_) rfl (by kernel_rfl) (by kernel_rfl) (by kernel_rfl) (fun _ _ _ h => h) (Or.inl ⟨by rfl, ?_⟩) (by assumption) ?_
            rotate_left
            · intro wS hSw; go_split_ands; go_simp; first | done | with_reducible rfl
            simp only [Act.put, List.setIfInBounds_toArray, List.set_cons_zero, List.set_cons_succ]
            refine wpAnyH_take (i := 11) (oi := { dst := some 26, op := Op.pick (Operand.tmp 20) (Operand.tmp 25) (Operand.const (Value.bool false)), type := 4, pos := "ref.go:113", after := #[{ on := 5, ground := Ground.data }, { on := 10, ground := Ground.data }], guard := none }) (v := ?_) rfl (by kernel_rfl) (by kernel_rfl) (by kernel_rfl) (fun _ _ _ h => h) (Or.inl ⟨by rfl, ?_⟩) (by assumption) ?_
            rotate_left
            · intro wS hSw; go_split_ands; go_simp; first | done | with_reducible rfl
            simp only [Act.put, List.setIfInBounds_toArray, List.set_cons_zero, List.set_cons_succ]
            refine wpAnyH_take (i := 12) (oi := { dst := some 27, op := Op.move (Operand.tmp 26), type := 4, pos := "ref.go:113", after := #[{ on := 11, ground := Ground.data }, { on := 9, ground := Ground.chain }], guard := none }) (v := ?_) rfl (by kernel_rfl) (by kernel_rfl) (by kernel_rfl) (fun _ _ _ h => h) (Or.inl ⟨by rfl, ?_⟩) (by assumption) ?_
            rotate_left
            · intro wS hSw; go_split_ands; go_simp; first | done | with_reducible rfl
            simp only [Act.put, List.setIfInBounds_toArray, List.set_cons_zero, List.set_cons_succ]
            refine wpAnyH_take (i := 13) (oi := { dst := some 28, op := Op.move (Operand.tmp 5), type := 3, pos := "ref.go:113", after := #[{ on := 12, ground := Ground.guard }], guard := some (12, true) }) (v := ?_) rfl (by kernel_rfl) (by kernel_rfl) (by kernel_rfl) (fun _ _ _ h => h) (Or.inl ⟨by rfl, ?_⟩) (by assumption) ?_
            rotate_left
            · intro wS hSw; go_split_ands; go_simp; first | done | with_reducible rfl
            simp only [Act.put, List.setIfInBounds_toArray, List.set_cons_zero, List.set_cons_succ]
            refine wpAnyH_take (i := 14) (oi := { dst := some 29, op := Op.fieldAddr 53 (Operand.tmp 3) 0, type := 0, pos := "ref.go:113", after := #[{ on := 12, ground := Ground.guard }], guard := some (12, true) }) (v := ?_) rfl (by kernel_rfl) (by kernel_rfl) (by kernel_rfl) (fun _ _ _ h => h) (Or.inl ⟨by rfl, ?_⟩) (by assumption) ?_
            rotate_left
            · intro wS hSw; go_split_ands; go_simp; first | done | with_reducible rfl
            simp only [Act.put, List.setIfInBounds_toArray, List.set_cons_zero, List.set_cons_succ]
            refine wpAnyH_take (i := 15) (oi := { dst := some 30, op := Op.load 3 (Operand.tmp 29), type := 3, pos := "ref.go:113", after := #[{ on := 14, ground := Ground.data }, { on := 12, ground := Ground.guard }], guard := some (12, true) }) (v := ?_) rfl (by kernel_rfl) (by kernel_rfl) (by kernel_rfl) (fun _ _ _ h => h) (Or.inl ⟨by rfl, ?_⟩) (by assumption) ?_
            rotate_left
            · intro wS hSw; go_split_ands; go_simp; first | done | with_reducible rfl
            simp only [Act.put, List.setIfInBounds_toArray, List.set_cons_zero, List.set_cons_succ]
            refine wpAnyH_take (i := 16) (oi := { dst := some 31, op := Op.binOp BinOp.eql 3 (Operand.tmp 28) (Operand.tmp 30) 3, type := 4, pos := "ref.go:113", after := #[{ on := 13, ground := Ground.data }, { on := 15, ground := Ground.data }, { on := 12, ground := Ground.guard }], guard := some (12, true) }) (v := ?_) rfl (by kernel_rfl) (by kernel_rfl) (by kernel_rfl) (fun _ _ _ h => h) (Or.inl ⟨by rfl, ?_⟩) (by assumption) ?_
            rotate_left
            · intro wS hSw; go_split_ands; go_simp; first | done | with_reducible rfl
            simp only [Act.put, List.setIfInBounds_toArray, List.set_cons_zero, List.set_cons_succ]
            refine wpAnyH_take (i := 17) (oi := { dst := some 32, op := Op.pick (Operand.tmp 27) (Operand.tmp 31) (Operand.const (Value.bool false)), type := 4, pos := "ref.go:113", after := #[{ on := 12, ground := Ground.data }, { on := 16, ground := Ground.data }], guard := none }) (v := ?_) rfl (by kernel_rfl) (by kernel_rfl) (by kernel_rfl) (fun _ _ _ h => h) (Or.inl ⟨by rfl, ?_⟩) (by assumption) ?_
            rotate_left
            · intro wS hSw; go_split_ands; go_simp; first | done | with_reducible rfl
            simp only [Act.put, List.setIfInBounds_toArray, List.set_cons_zero, List.set_cons_succ]
            refine wpAnyH_ready (rs := [18]) (by kernel_rfl) (by simp) ?_
            refine AllReadyH.cons (o := { dst := some 4, op := Op.assign (Operand.tmp 32), type := 4, pos := "ref.go:113", after := #[{ on := 17, ground := Ground.data }, { on := 12, ground := Ground.chain }, { on := 0, ground := Ground.phase }, { on := 1, ground := Ground.phase }, { on := 2, ground := Ground.phase }, { on := 3, ground := Ground.phase }, { on := 4, ground := Ground.phase }, { on := 5, ground := Ground.phase }, { on := 6, ground := Ground.phase }, { on := 7, ground := Ground.phase }, { on := 8, ground := Ground.phase }, { on := 9, ground := Ground.phase }, { on := 10, ground := Ground.phase }, { on := 11, ground := Ground.phase }, { on := 12, ground := Ground.phase }, { on := 13, ground := Ground.phase }, { on := 14, ground := Ground.phase }, { on := 15, ground := Ground.phase }, { on := 16, ground := Ground.phase }, { on := 17, ground := Ground.phase }], guard := none }) rfl (fun K hK => ?_) AllReadyH.nil
            go_simp
            refine hK.out _ _ ?_ (fun hHeld => ?_)
            · exact ⟨(hb7.cell (p := ⟨w.heap.size, 2, none⟩) (by simp <;> omega)).trans (by go_keep), (hb7.cell (p := ⟨w.heap.size, 3, none⟩) (by simp <;> omega)).trans (by go_keep), (hb7.cell (p := ⟨w.heap.size, 4, none⟩) (by simp <;> omega)).trans (by go_keep), (hb7.cell (p := ⟨w.heap.size + 1, 0, none⟩) (by simp <;> omega)).trans (by go_keep), (hb7.cell (p := ⟨w.heap.size + 1, 1, none⟩) (by simp <;> omega)).trans (by go_keep), (hb7.cell (p := ⟨w.heap.size + 1, 2, none⟩) (by simp <;> omega)).trans (by go_keep), (hb7.cell (p := ⟨w.heap.size + 1, 3, none⟩) (by simp <;> omega)).trans (by go_keep), (hb7.cell (p := ⟨w.heap.size + 1, 4, none⟩) (by simp <;> omega)).trans (by go_keep), (hb7.cell (p := ⟨w.heap.size + 1, 5, none⟩) (by simp <;> omega)).trans (by go_keep), (hb7.cell (p := ⟨w.heap.size + 1, 6, none⟩) (by simp <;> omega)).trans (by go_keep), (hb7.cell (p := ⟨w.heap.size + 1, 7, none⟩) (by simp <;> omega)).trans (by go_keep), (hb7.cell (p := ⟨w.heap.size + 1, 8, none⟩) (by simp <;> omega)).trans (by go_keep), (hb7.cell (p := ⟨w.heap.size + 1, 9, none⟩) (by simp <;> omega)).trans (by go_keep)⟩
            clear hK K
            try simp only [Act.put, List.setIfInBounds_toArray, List.set_cons_zero, List.set_cons_succ]
            refine wpAnyH_done (by kernel_rfl) ?_ _
            go_wp2
            go_ret
            exact ⟨by rw [E.out]; rfl, HB.drew.trans (hb7.mono HB.size)⟩
          have d : (az == p0) = false := beq_eq_false_iff_ne.2 hq
          have E := Lib.hid (show joinB ⟨ae, al, az, false, false⟩ ⟨0, 1, p0, false, false⟩ = false by unfold joinB endS; simp [hq])
          have HB : Below w.heap.size w ((w.alloc (.cells #[.int .i64 ae, .int .i64 al, .int .i64 az, .bool false, .bool false] 36)).alloc (.cells #[.int .i64 p0, .bool false, .int .i64 p2, .int .i64 p3, .int .i64 p4, .int .i64 p5, .int .i64 p6, .int .i64 p7, .int .i64 p8, .int .i64 p9] 53)) := ((Below.refl _ w).alloc (Nat.le_refl _) _).alloc (by simp) _
          try clear hq
          go_enter Try.func28, Try.ntmps28
          go_wp2
          refine wp_region_held_drew (S := (fun W => W.cell? ⟨w.heap.size, 2, none⟩ = some (.int .i64 az) ∧ W.cell? ⟨w.heap.size, 3, none⟩ = some (.bool false) ∧ W.cell? ⟨w.heap.size, 4, none⟩ = some (.bool false) ∧ W.cell? ⟨w.heap.size + 1, 0, none⟩ = some (.int .i64 p0) ∧ W.cell? ⟨w.heap.size + 1, 1, none⟩ = some (.bool false) ∧ W.cell? ⟨w.heap.size + 1, 2, none⟩ = some (.int .i64 p2) ∧ W.cell? ⟨w.heap.size + 1, 3, none⟩ = some (.int .i64 p3) ∧ W.cell? ⟨w.heap.size + 1, 4, none⟩ = some (.int .i64 p4) ∧ W.cell? ⟨w.heap.size + 1, 5, none⟩ = some (.int .i64 p5) ∧ W.cell? ⟨w.heap.size + 1, 6, none⟩ = some (.int .i64 p6) ∧ W.cell? ⟨w.heap.size + 1, 7, none⟩ = some (.int .i64 p7) ∧ W.cell? ⟨w.heap.size + 1, 8, none⟩ = some (.int .i64 p8) ∧ W.cell? ⟨w.heap.size + 1, 9, none⟩ = some (.int .i64 p9))) (by kernel_rfl) ?_ (fun hHeld => ?_)
          · go_keep
          try dsimp only at hHeld
          refine wpAnyH_take (i := 0) (oi := { dst := some 15, op := Op.fieldAddr 36 (Operand.tmp 2) 3, type := 0, pos := "ref.go:113", after := #[], guard := none }) (v := ?_) rfl (by kernel_rfl) (by kernel_rfl) (by kernel_rfl) (fun _ _ _ h => h) (Or.inl ⟨by rfl, ?_⟩) (by assumption) ?_
          rotate_left
          · intro wS hSw; go_split_ands; go_simp; first | done | with_reducible rfl
          simp only [Act.put, List.setIfInBounds_toArray, List.set_cons_zero, List.set_cons_succ]
          refine wpAnyH_take (i := 1) (oi := { dst := some 16, op := Op.load 4 (Operand.tmp 15), type := 4, pos := "ref.go:113", after := #[{ on := 0, ground := Ground.data }], guard := none }) (v := ?_) rfl (by kernel_rfl) (by kernel_rfl) (by kernel_rfl) (fun _ _ _ h => h) (Or.inl ⟨by rfl, ?_⟩) (by assumption) ?_
          rotate_left
          · intro wS hSw; go_split_ands; go_simp; first | done | with_reducible rfl
          simp only [Act.put, List.setIfInBounds_toArray, List.set_cons_zero, List.set_cons_succ]
          refine wpAnyH_take (i := 2) (oi := { dst := some 17, op := Op.fieldAddr 53 (Operand.tmp 3) 1, type := 0, pos := "ref.go:113", after := #[], guard := none }) (v := ?_) rfl (by kernel_rfl) (by kernel_rfl) (by kernel_rfl) (fun _ _ _ h => h) (Or.inl ⟨by rfl, ?_⟩) (by assumption) ?_
          rotate_left
          · intro wS hSw; go_split_ands; go_simp; first | done | with_reducible rfl
          simp only [Act.put, List.setIfInBounds_toArray, List.set_cons_zero, List.set_cons_succ]
          refine wpAnyH_take (i := 3) (oi := { dst := some 18, op := Op.load 4 (Operand.tmp 17), type := 4, pos := "ref.go:113", after := #[{ on := 2, ground := Ground.data }], guard := none }) (v := ?_) rfl (by kernel_rfl) (by kernel_rfl) (by kernel_rfl) (fun _ _ _ h => h) (Or.inl ⟨by rfl, ?_⟩) (by assumption) ?_
          rotate_left
          · intro wS hSw; go_split_ands; go_simp; first | done | with_reducible rfl
          simp only [Act.put, List.setIfInBounds_toArray, List.set_cons_zero, List.set_cons_succ]
          refine wpAnyH_take (i := 4) (oi := { dst := some 19, op := Op.binOp BinOp.eql 4 (Operand.tmp 16) (Operand.tmp 18) 4, type := 4, pos := "ref.go:113", after := #[{ on := 1, ground := Ground.data }, { on := 3, ground := Ground.data }], guard := none }) (v := ?_) rfl (by kernel_rfl) (by kernel_rfl) (by kernel_rfl) (fun _ _ _ h => h) (Or.inl ⟨by rfl, ?_⟩) (by assumption) ?_
          rotate_left
          · intro wS hSw; go_split_ands; go_simp; first | done | with_reducible rfl
          simp only [Act.put, List.setIfInBounds_toArray, List.set_cons_zero, List.set_cons_succ]
          refine wpAnyH_take (i := 5) (oi := { dst := some 20, op := Op.move (Operand.tmp 19), type := 4, pos := "ref.go:113", after := #[{ on := 4, ground := Ground.data }], guard := none }) (v := ?_) rfl (by kernel_rfl) (by kernel_rfl) (by kernel_rfl) (fun _ _ _ h => h) (Or.inl ⟨by rfl, ?_⟩) (by assumption) ?_
          rotate_left
          · intro wS hSw; go_split_ands; go_simp; first | done | with_reducible rfl
          simp only [Act.put, List.setIfInBounds_toArray, List.set_cons_zero, List.set_cons_succ]
          refine wpAnyH_take (i := 6) (oi := { dst := some 21, op := Op.fieldAddr 36 (Operand.tmp 2) 4, type := 0, pos := "ref.go:113", after := #[{ on := 5, ground := Ground.guard }], guard := some (5, true) }) (v := ?_) rfl (by kernel_rfl) (by kernel_rfl) (by kernel_rfl) (fun _ _ _ h => h) (Or.inl ⟨by rfl, ?_⟩) (by assumption) ?_
          rotate_left
          · intro wS hSw; go_split_ands; go_simp; first | done | with_reducible rfl
          simp only [Act.put, List.setIfInBounds_toArray, List.set_cons_zero, List.set_cons_succ]
          refine wpAnyH_take (i := 7) (oi := { dst := some 22, op := Op.load 4 (Operand.tmp 21), type := 4, pos := "ref.go:113", after := #[{ on := 6, ground := Ground.data }, { on := 5, ground := Ground.guard }], guard := some (5, true) }) (v := ?_) rfl (by kernel_rfl) (by kernel_rfl) (by kernel_rfl) (fun _ _ _ h => h) (Or.inl ⟨by rfl, ?_⟩) (by assumption) ?_
          rotate_left
          · intro wS hSw; go_split_ands; go_simp; first | done | with_reducible rfl
          simp only [Act.put, List.setIfInBounds_toArray, List.set_cons_zero, List.set_cons_succ]
          refine wpAnyH_take (i := 8) (oi := { dst := some 23, op := Op.load 53 (Operand.tmp 3), type := 53, pos := "ref.go:113", after := #[{ on := 5, ground := Ground.guard }], guard := some (5, true) }) (v := ?_) rfl (by kernel_rfl) (by kernel_rfl) (by kernel_rfl) (fun _ _ _ h => h) (Or.inl ⟨by rfl, ?_⟩) (by assumption) ?_
          rotate_left
          · intro wS hSw; go_split_ands; go_simp; first | done | with_reducible rfl
          simp only [Act.put, List.setIfInBounds_toArray, List.set_cons_zero, List.set_cons_succ]
          refine wpAnyH_ready (rs := [9]) (by kernel_rfl) (by simp) ?_
          refine AllReadyH.cons (o := { dst := some 24, op := Op.call { callee := Callee.value (Operand.func 25), args := #[Operand.tmp 23], argTypes := #[53] }, type := 4, pos := "ref.go:113", after := #[{ on := 8, ground := Ground.data }, { on := 5, ground := Ground.chain }, { on := 5, ground := Ground.guard }], guard := some (5, true) }) rfl (fun K hK => ?_) AllReadyH.nil
          go_simp
          go_at_call 25; refine (KR _).mono ?_; rintro e w7 ⟨rfl, hb7⟩
          refine hK.out _ _ ?_ (fun hHeld => ?_)
          · exact ⟨(hb7.cell (p := ⟨w.heap.size, 2, none⟩) (by simp <;> omega)).trans (by go_keep), (hb7.cell (p := ⟨w.heap.size, 3, none⟩) (by simp <;> omega)).trans (by go_keep), (hb7.cell (p := ⟨w.heap.size, 4, none⟩) (by simp <;> omega)).trans (by go_keep), (hb7.cell (p := ⟨w.heap.size + 1, 0, none⟩) (by simp <;> omega)).trans (by go_keep), (hb7.cell (p := ⟨w.heap.size + 1, 1, none⟩) (by simp <;> omega)).trans (by go_keep), (hb7.cell (p := ⟨w.heap.size + 1, 2, none⟩) (by simp <;> omega)).trans (by go_keep), (hb7.cell (p := ⟨w.heap.size + 1, 3, none⟩) (by simp <;> omega)).trans (by go_keep), (hb7.cell (p := ⟨w.heap.size + 1, 4, none⟩) (by simp <;> omega)).trans (by go_keep), (hb7.cell (p := ⟨w.heap.size + 1, 5, none⟩) (by simp <;> omega)).trans (by go_keep), (hb7.cell (p := ⟨w.heap.size + 1, 6, none⟩) (by simp <;> omega)).trans (by go_keep), (hb7.cell (p := ⟨w.heap.size + 1, 7, none⟩) (by simp <;> omega)).trans (by go_keep), (hb7.cell (p := ⟨w.heap.size + 1, 8, none⟩) (by simp <;> omega)).trans (by go_keep), (hb7.cell (p := ⟨w.heap.size + 1, 9, none⟩) (by simp <;> omega)).trans (by go_keep)⟩
          clear hK K
          try simp only [Act.put, List.setIfInBounds_toArray, List.set_cons_zero, List.set_cons_succ]
          refine wpAnyH_take (i := 10) (oi := { dst := some 25, op := Op.binOp BinOp.eql 4 (Operand.tmp 22) (Operand.tmp 24) 4, type := 4, pos := "ref.go:113", after := #[{ on := 7, ground := Ground.data }, { on := 9, ground := Ground.data }, { on := 5, ground := Ground.guard }], guard := some (5, true) }) (v := ?_) rfl (by kernel_rfl) (by kernel_rfl) (by kernel_rfl) (fun _ _ _ h => h) (Or.inl ⟨by rfl, ?_⟩) (by assumption) ?_
          rotate_left
          · intro wS hSw; go_split_ands; go_simp; first | done | with_reducible rfl
          simp only [Act.put, List.setIfInBounds_toArray, List.set_cons_zero, List.set_cons_succ]
          refine wpAnyH_take (i := 11) (oi := { dst := some 26, op := Op.pick (Operand.tmp 20) (Operand.tmp 25) (Operand.const (Value.bool false)), type := 4, pos := "ref.go:113", after := #[{ on := 5, ground := Ground.data }, { on := 10, ground := Ground.data }], guard := none }) (v := ?_) rfl (by kernel_rfl) (by kernel_rfl) (by kernel_rfl) (fun _ _ _ h => h) (Or.inl ⟨by rfl, ?_⟩) (by assumption) ?_
          rotate_left
          · intro wS hSw; go_split_ands; go_simp; first | done | with_reducible rfl
          simp only [Act.put, List.setIfInBounds_toArray, List.set_cons_zero, List.set_cons_succ]
          refine wpAnyH_take (i := 12) (oi := { dst := some 27, op := Op.move (Operand.tmp 26), type := 4, pos := "ref.go:113", after := #[{ on := 11, ground := Ground.data }, { on := 9, ground := Ground.chain }], guard := none }) (v := ?_) rfl (by kernel_rfl) (by kernel_rfl) (by kernel_rfl) (fun _ _ _ h => h) (Or.inl ⟨by rfl, ?_⟩) (by assumption) ?_
          rotate_left
          · intro wS hSw; go_split_ands; go_simp; first | done | with_reducible rfl
          simp only [Act.put, List.setIfInBounds_toArray, List.set_cons_zero, List.set_cons_succ]
          refine wpAnyH_take (i := 13) (oi := { dst := some 28, op := Op.move (Operand.tmp 5), type := 3, pos := "ref.go:113", after := #[{ on := 12, ground := Ground.guard }], guard := some (12, true) }) (v := ?_) rfl (by kernel_rfl) (by kernel_rfl) (by kernel_rfl) (fun _ _ _ h => h) (Or.inl ⟨by rfl, ?_⟩) (by assumption) ?_
          rotate_left
          · intro wS hSw; go_split_ands; go_simp; first | done | with_reducible rfl
          simp only [Act.put, List.setIfInBounds_toArray, List.set_cons_zero, List.set_cons_succ]
          refine wpAnyH_take (i := 14) (oi := { dst := some 29, op := Op.fieldAddr 53 (Operand.tmp 3) 0, type := 0, pos := "ref.go:113", after := #[{ on := 12, ground := Ground.guard }], guard := some (12, true) }) (v := ?_) rfl (by kernel_rfl) (by kernel_rfl) (by kernel_rfl) (fun _ _ _ h => h) (Or.inl ⟨by rfl, ?_⟩) (by assumption) ?_
          rotate_left
          · intro wS hSw; go_split_ands; go_simp; first | done | with_reducible rfl
          simp only [Act.put, List.setIfInBounds_toArray, List.set_cons_zero, List.set_cons_succ]
          refine wpAnyH_take (i := 15) (oi := { dst := some 30, op := Op.load 3 (Operand.tmp 29), type := 3, pos := "ref.go:113", after := #[{ on := 14, ground := Ground.data }, { on := 12, ground := Ground.guard }], guard := some (12, true) }) (v := ?_) rfl (by kernel_rfl) (by kernel_rfl) (by kernel_rfl) (fun _ _ _ h => h) (Or.inl ⟨by rfl, ?_⟩) (by assumption) ?_
          rotate_left
          · intro wS hSw; go_split_ands; go_simp; first | done | with_reducible rfl
          simp only [Act.put, List.setIfInBounds_toArray, List.set_cons_zero, List.set_cons_succ]
          refine wpAnyH_take (i := 16) (oi := { dst := some 31, op := Op.binOp BinOp.eql 3 (Operand.tmp 28) (Operand.tmp 30) 3, type := 4, pos := "ref.go:113", after := #[{ on := 13, ground := Ground.data }, { on := 15, ground := Ground.data }, { on := 12, ground := Ground.guard }], guard := some (12, true) }) (v := ?_) rfl (by kernel_rfl) (by kernel_rfl) (by kernel_rfl) (fun _ _ _ h => h) (Or.inl ⟨by rfl, ?_⟩) (by assumption) ?_
          rotate_left
          · intro wS hSw; go_split_ands; go_simp; first | done | with_reducible rfl
          simp only [Act.put, List.setIfInBounds_toArray, List.set_cons_zero, List.set_cons_succ]
          refine wpAnyH_take (i := 17) (oi := { dst := some 32, op := Op.pick (Operand.tmp 27) (Operand.tmp 31) (Operand.const (Value.bool false)), type := 4, pos := "ref.go:113", after := #[{ on := 12, ground := Ground.data }, { on := 16, ground := Ground.data }], guard := none }) (v := ?_) rfl (by kernel_rfl) (by kernel_rfl) (by kernel_rfl) (fun _ _ _ h => h) (Or.inl ⟨by rfl, ?_⟩) (by assumption) ?_
          rotate_left
          · intro wS hSw; go_split_ands; go_simp; first | done | with_reducible rfl
          simp only [Act.put, List.setIfInBounds_toArray, List.set_cons_zero, List.set_cons_succ]
          refine wpAnyH_ready (rs := [18]) (by kernel_rfl) (by simp) ?_
          refine AllReadyH.cons (o := { dst := some 4, op := Op.assign (Operand.tmp 32), type := 4, pos := "ref.go:113", after := #[{ on := 17, ground := Ground.data }, { on := 12, ground := Ground.chain }, { on := 0, ground := Ground.phase }, { on := 1, ground := Ground.phase }, { on := 2, ground := Ground.phase }, { on := 3, ground := Ground.phase }, { on := 4, ground := Ground.phase }, { on := 5, ground := Ground.phase }, { on := 6, ground := Ground.phase }, { on := 7, ground := Ground.phase }, { on := 8, ground := Ground.phase }, { on := 9, ground := Ground.phase }, { on := 10, ground := Ground.phase }, { on := 11, ground := Ground.phase }, { on := 12, ground := Ground.phase }, { on := 13, ground := Ground.phase }, { on := 14, ground := Ground.phase }, { on := 15, ground := Ground.phase }, { on := 16, ground := Ground.phase }, { on := 17, ground := Ground.phase }], guard := none }) rfl (fun K hK => ?_) AllReadyH.nil
          go_simp
          refine hK.out _ _ ?_ (fun hHeld => ?_)
          · exact ⟨(hb7.cell (p := ⟨w.heap.size, 2, none⟩) (by simp <;> omega)).trans (by go_keep), (hb7.cell (p := ⟨w.heap.size, 3, none⟩) (by simp <;> omega)).trans (by go_keep), (hb7.cell (p := ⟨w.heap.size, 4, none⟩) (by simp <;> omega)).trans (by go_keep), (hb7.cell (p := ⟨w.heap.size + 1, 0, none⟩) (by simp <;> omega)).trans (by go_keep), (hb7.cell (p := ⟨w.heap.size + 1, 1, none⟩) (by simp <;> omega)).trans (by go_keep), (hb7.cell (p := ⟨w.heap.size + 1, 2, none⟩) (by simp <;> omega)).trans (by go_keep), (hb7.cell (p := ⟨w.heap.size + 1, 3, none⟩) (by simp <;> omega)).trans (by go_keep), (hb7.cell (p := ⟨w.heap.size + 1, 4, none⟩) (by simp <;> omega)).trans (by go_keep), (hb7.cell (p := ⟨w.heap.size + 1, 5, none⟩) (by simp <;> omega)).trans (by go_keep), (hb7.cell (p := ⟨w.heap.size + 1, 6, none⟩) (by simp <;> omega)).trans (by go_keep), (hb7.cell (p := ⟨w.heap.size + 1, 7, none⟩) (by simp <;> omega)).trans (by go_keep), (hb7.cell (p := ⟨w.heap.size + 1, 8, none⟩) (by simp <;> omega)).trans (by go_keep), (hb7.cell (p := ⟨w.heap.size + 1, 9, none⟩) (by simp <;> omega)).trans (by go_keep)⟩
          clear hK K
          try simp only [Act.put, List.setIfInBounds_toArray, List.set_cons_zero, List.set_cons_succ]
          refine wpAnyH_done (by kernel_rfl) ?_ _
          go_wp2
          go_ret
          exact ⟨by rw [E.out]; rfl, HB.drew.trans (hb7.mono HB.size)⟩
        case true =>
          have E := Lib.hid (show joinB ⟨ae, al, az, false, false⟩ ⟨0, 1, p0, false, true⟩ = false by unfold joinB endS; simp)
          have HB : Below w.heap.size w ((w.alloc (.cells #[.int .i64 ae, .int .i64 al, .int .i64 az, .bool false, .bool false] 36)).alloc (.cells #[.int .i64 p0, .bool false, .int .i64 p2, .int .i64 p3, .int .i64 p4, .int .i64 p5, .int .i64 p6, .int .i64 p7, .int .i64 p8, .int .i64 p9] 53)) := ((Below.refl _ w).alloc (Nat.le_refl _) _).alloc (by simp) _
          try clear hq
          go_enter Try.func28, Try.ntmps28
          go_wp2
          refine wp_region_held_drew (S := (fun W => W.cell? ⟨w.heap.size, 2, none⟩ = some (.int .i64 az) ∧ W.cell? ⟨w.heap.size, 3, none⟩ = some (.bool false) ∧ W.cell? ⟨w.heap.size, 4, none⟩ = some (.bool false) ∧ W.cell? ⟨w.heap.size + 1, 0, none⟩ = some (.int .i64 p0) ∧ W.cell? ⟨w.heap.size + 1, 1, none⟩ = some (.bool false) ∧ W.cell? ⟨w.heap.size + 1, 2, none⟩ = some (.int .i64 p2) ∧ W.cell? ⟨w.heap.size + 1, 3, none⟩ = some (.int .i64 p3) ∧ W.cell? ⟨w.heap.size + 1, 4, none⟩ = some (.int .i64 p4) ∧ W.cell? ⟨w.heap.size + 1, 5, none⟩ = some (.int .i64 p5) ∧ W.cell? ⟨w.heap.size + 1, 6, none⟩ = some (.int .i64 p6) ∧ W.cell? ⟨w.heap.size + 1, 7, none⟩ = some (.int .i64 p7) ∧ W.cell? ⟨w.heap.size + 1, 8, none⟩ = some (.int .i64 p8) ∧ W.cell? ⟨w.heap.size + 1, 9, none⟩ = some (.int .i64 p9))) (by kernel_rfl) ?_ (fun hHeld => ?_)
          · go_keep
          try dsimp only at hHeld
          refine wpAnyH_take (i := 0) (oi := { dst := some 15, op := Op.fieldAddr 36 (Operand.tmp 2) 3, type := 0, pos := "ref.go:113", after := #[], guard := none }) (v := ?_) rfl (by kernel_rfl) (by kernel_rfl) (by kernel_rfl) (fun _ _ _ h => h) (Or.inl ⟨by rfl, ?_⟩) (by assumption) ?_
          rotate_left
          · intro wS hSw; go_split_ands; go_simp; first | done | with_reducible rfl
          simp only [Act.put, List.setIfInBounds_toArray, List.set_cons_zero, List.set_cons_succ]
          refine wpAnyH_take (i := 1) (oi := { dst := some 16, op := Op.load 4 (Operand.tmp 15), type := 4, pos := "ref.go:113", after := #[{ on := 0, ground := Ground.data }], guard := none }) (v := ?_) rfl (by kernel_rfl) (by kernel_rfl) (by kernel_rfl) (fun _ _ _ h => h) (Or.inl ⟨by rfl, ?_⟩) (by assumption) ?_
          rotate_left
          · intro wS hSw; go_split_ands; go_simp; first | done | with_reducible rfl
          simp only [Act.put, List.setIfInBounds_toArray, List.set_cons_zero, List.set_cons_succ]
          refine wpAnyH_take (i := 2) (oi := { dst := some 17, op := Op.fieldAddr 53 (Operand.tmp 3) 1, type := 0, pos := "ref.go:113", after := #[], guard := none }) (v := ?_) rfl (by kernel_rfl) (by kernel_rfl) (by kernel_rfl) (fun _ _ _ h => h) (Or.inl ⟨by rfl, ?_⟩) (by assumption) ?_
          rotate_left
          · intro wS hSw; go_split_ands; go_simp; first | done | with_reducible rfl
          simp only [Act.put, List.setIfInBounds_toArray, List.set_cons_zero, List.set_cons_succ]
          refine wpAnyH_take (i := 3) (oi := { dst := some 18, op := Op.load 4 (Operand.tmp 17), type := 4, pos := "ref.go:113", after := #[{ on := 2, ground := Ground.data }], guard := none }) (v := ?_) rfl (by kernel_rfl) (by kernel_rfl) (by kernel_rfl) (fun _ _ _ h => h) (Or.inl ⟨by rfl, ?_⟩) (by assumption) ?_
          rotate_left
          · intro wS hSw; go_split_ands; go_simp; first | done | with_reducible rfl
          simp only [Act.put, List.setIfInBounds_toArray, List.set_cons_zero, List.set_cons_succ]
          refine wpAnyH_take (i := 4) (oi := { dst := some 19, op := Op.binOp BinOp.eql 4 (Operand.tmp 16) (Operand.tmp 18) 4, type := 4, pos := "ref.go:113", after := #[{ on := 1, ground := Ground.data }, { on := 3, ground := Ground.data }], guard := none }) (v := ?_) rfl (by kernel_rfl) (by kernel_rfl) (by kernel_rfl) (fun _ _ _ h => h) (Or.inl ⟨by rfl, ?_⟩) (by assumption) ?_
          rotate_left
          · intro wS hSw; go_split_ands; go_simp; first | done | with_reducible rfl
          simp only [Act.put, List.setIfInBounds_toArray, List.set_cons_zero, List.set_cons_succ]
          refine wpAnyH_take (i := 5) (oi := { dst := some 20, op := Op.move (Operand.tmp 19), type := 4, pos := "ref.go:113", after := #[{ on := 4, ground := Ground.data }], guard := none }) (v := ?_) rfl (by kernel_rfl) (by kernel_rfl) (by kernel_rfl) (fun _ _ _ h => h) (Or.inl ⟨by rfl, ?_⟩) (by assumption) ?_
          rotate_left
          · intro wS hSw; go_split_ands; go_simp; first | done | with_reducible rfl
          simp only [Act.put, List.setIfInBounds_toArray, List.set_cons_zero, List.set_cons_succ]
          refine wpAnyH_take (i := 6) (oi := { dst := some 21, op := Op.fieldAddr 36 (Operand.tmp 2) 4, type := 0, pos := "ref.go:113", after := #[{ on := 5, ground := Ground.guard }], guard := some (5, true) }) (v := ?_) rfl (by kernel_rfl) (by kernel_rfl) (by kernel_rfl) (fun _ _ _ h => h) (Or.inl ⟨by rfl, ?_⟩) (by assumption) ?_
          rotate_left
          · intro wS hSw; go_split_ands; go_simp; first | done | with_reducible rfl
          simp only [Act.put, List.setIfInBounds_toArray, List.set_cons_zero, List.set_cons_succ]
          refine wpAnyH_take (i := 7) (oi := { dst := some 22, op := Op.load 4 (Operand.tmp 21), type := 4, pos := "ref.go:113", after := #[{ on := 6, ground := Ground.data }, { on := 5, ground := Ground.guard }], guard := some (5, true) }) (v := ?_) rfl (by kernel_rfl) (by kernel_rfl) (by kernel_rfl) (fun _ _ _ h => h) (Or.inl ⟨by rfl, ?_⟩) (by assumption) ?_
          rotate_left
          · intro wS hSw; go_split_ands; go_simp; first | done | with_reducible rfl
          simp only [Act.put, List.setIfInBounds_toArray, List.set_cons_zero, List.set_cons_succ]
          refine wpAnyH_take (i := 8) (oi := { dst := some 23, op := Op.load 53 (Operand.tmp 3), type := 53, pos := "ref.go:113", after := #[{ on := 5, ground := Ground.guard }], guard := some (5, true) }) (v := ?_) rfl (by kernel_rfl) (by kernel_rfl) (by kernel_rfl) (fun _ _ _ h => h) (Or.inl ⟨by rfl, ?_⟩) (by assumption) ?_
          rotate_left
          · intro wS hSw; go_split_ands; go_simp; first | done | with_reducible rfl
          simp only [Act.put, List.setIfInBounds_toArray, List.set_cons_zero, List.set_cons_succ]
          refine wpAnyH_ready (rs := [9]) (by kernel_rfl) (by simp) ?_
          refine AllReadyH.cons (o := { dst := some 24, op := Op.call { callee := Callee.value (Operand.func 25), args := #[Operand.tmp 23], argTypes := #[53] }, type := 4, pos := "ref.go:113", after := #[{ on := 8, ground := Ground.data }, { on := 5, ground := Ground.chain }, { on := 5, ground := Ground.guard }], guard := some (5, true) }) rfl (fun K hK => ?_) AllReadyH.nil
          go_simp
          go_at_call 25; refine (KR _).mono ?_; rintro e w7 ⟨rfl, hb7⟩
          refine hK.out _ _ ?_ (fun hHeld => ?_)
          · exact ⟨(hb7.cell (p := ⟨w.heap.size, 2, none⟩) (by simp <;> omega)).trans (by go_keep), (hb7.cell (p := ⟨w.heap.size, 3, none⟩) (by simp <;> omega)).trans (by go_keep), (hb7.cell (p := ⟨w.heap.size, 4, none⟩) (by simp <;> omega)).trans (by go_keep), (hb7.cell (p := ⟨w.heap.size + 1, 0, none⟩) (by simp <;> omega)).trans (by go_keep), (hb7.cell (p := ⟨w.heap.size + 1, 1, none⟩) (by simp <;> omega)).trans (by go_keep), (hb7.cell (p := ⟨w.heap.size + 1, 2, none⟩) (by simp <;> omega)).trans (by go_keep), (hb7.cell (p := ⟨w.heap.size + 1, 3, none⟩) (by simp <;> omega)).trans (by go_keep), (hb7.cell (p := ⟨w.heap.size + 1, 4, none⟩) (by simp <;> omega)).trans (by go_keep), (hb7.cell (p := ⟨w.heap.size + 1, 5, none⟩) (by simp <;> omega)).trans (by go_keep), (hb7.cell (p := ⟨w.heap.size + 1, 6, none⟩) (by simp <;> omega)).trans (by go_keep), (hb7.cell (p := ⟨w.heap.size + 1, 7, none⟩) (by simp <;> omega)).trans (by go_keep), (hb7.cell (p := ⟨w.heap.size + 1, 8, none⟩) (by simp <;> omega)).trans (by go_keep), (hb7.cell (p := ⟨w.heap.size + 1, 9, none⟩) (by simp <;> omega)).trans (by go_keep)⟩
          clear hK K
          try simp only [Act.put, List.setIfInBounds_toArray, List.set_cons_zero, List.set_cons_succ]
          refine wpAnyH_take (i := 10) (oi := { dst := some 25, op := Op.binOp BinOp.eql 4 (Operand.tmp 22) (Operand.tmp 24) 4, type := 4, pos := "ref.go:113", after := #[{ on := 7, ground := Ground.data }, { on := 9, ground := Ground.data }, { on := 5, ground := Ground.guard }], guard := some (5, true) }) (v := ?_) rfl (by kernel_rfl) (by kernel_rfl) (by kernel_rfl) (fun _ _ _ h => h) (Or.inl ⟨by rfl, ?_⟩) (by assumption) ?_
          rotate_left
          · intro wS hSw; go_split_ands; go_simp; first | done | with_reducible rfl
          simp only [Act.put, List.setIfInBounds_toArray, List.set_cons_zero, List.set_cons_succ]
          refine wpAnyH_take (i := 11) (oi := { dst := some 26, op := Op.pick (Operand.tmp 20) (Operand.tmp 25) (Operand.const (Value.bool false)), type := 4, pos := "ref.go:113", after := #[{ on := 5, ground := Ground.data }, { on := 10, ground := Ground.data }], guard := none }) (v := ?_) rfl (by kernel_rfl) (by kernel_rfl) (by kernel_rfl) (fun _ _ _ h => h) (Or.inl ⟨by rfl, ?_⟩) (by assumption) ?_
          rotate_left
          · intro wS hSw; go_split_ands; go_simp; first | done | with_reducible rfl
          simp only [Act.put, List.setIfInBounds_toArray, List.set_cons_zero, List.set_cons_succ]
          refine wpAnyH_take (i := 12) (oi := { dst := some 27, op := Op.move (Operand.tmp 26), type := 4, pos := "ref.go:113", after := #[{ on := 11, ground := Ground.data }, { on := 9, ground := Ground.chain }], guard := none }) (v := ?_) rfl (by kernel_rfl) (by kernel_rfl) (by kernel_rfl) (fun _ _ _ h => h) (Or.inl ⟨by rfl, ?_⟩) (by assumption) ?_
          rotate_left
          · intro wS hSw; go_split_ands; go_simp; first | done | with_reducible rfl
          simp only [Act.put, List.setIfInBounds_toArray, List.set_cons_zero, List.set_cons_succ]
          refine wpAnyH_take (i := 13) (oi := { dst := some 28, op := Op.move (Operand.tmp 5), type := 3, pos := "ref.go:113", after := #[{ on := 12, ground := Ground.guard }], guard := some (12, true) }) (v := undef) rfl (by kernel_rfl) (by kernel_rfl) (by kernel_rfl) (fun _ _ _ h => h) (Or.inr ⟨by rfl, rfl⟩) (by assumption) ?_
          simp only [Act.put, List.setIfInBounds_toArray, List.set_cons_zero, List.set_cons_succ]
          refine wpAnyH_take (i := 14) (oi := { dst := some 29, op := Op.fieldAddr 53 (Operand.tmp 3) 0, type := 0, pos := "ref.go:113", after := #[{ on := 12, ground := Ground.guard }], guard := some (12, true) }) (v := undef) rfl (by kernel_rfl) (by kernel_rfl) (by kernel_rfl) (fun _ _ _ h => h) (Or.inr ⟨by rfl, rfl⟩) (by assumption) ?_
          simp only [Act.put, List.setIfInBounds_toArray, List.set_cons_zero, List.set_cons_succ]
          refine wpAnyH_take (i := 15) (oi := { dst := some 30, op := Op.load 3 (Operand.tmp 29), type := 3, pos := "ref.go:113", after := #[{ on := 14, ground := Ground.data }, { on := 12, ground := Ground.guard }], guard := some (12, true) }) (v := undef) rfl (by kernel_rfl) (by kernel_rfl) (by kernel_rfl) (fun _ _ _ h => h) (Or.inr ⟨by rfl, rfl⟩) (by assumption) ?_
          simp only [Act.put, List.setIfInBounds_toArray, List.set_cons_zero, List.set_cons_succ]
          refine wpAnyH_take (i := 16) (oi := { dst := some 31, op := Op.binOp BinOp.eql 3 (Operand.tmp 28) (Operand.tmp 30) 3, type := 4, pos := "ref.go:113", after := #[{ on := 13, ground := Ground.data }, { on := 15, ground := Ground.data }, { on := 12, ground := Ground.guard }], guard := some (12, true) }) (v := undef) rfl (by kernel_rfl) (by kernel_rfl) (by kernel_rfl) (fun _ _ _ h => h) (Or.inr ⟨by rfl, rfl⟩) (by assumption) ?_
          simp only [Act.put, List.setIfInBounds_toArray, List.set_cons_zero, List.set_cons_succ]
          refine wpAnyH_take (i := 17) (oi := { dst := some 32, op := Op.pick (Operand.tmp 27) (Operand.tmp 31) (Operand.const (Value.bool false)), type := 4, pos := "ref.go:113", after := #[{ on := 12, ground := Ground.data }, { on := 16, ground := Ground.data }], guard := none }) (v := ?_) rfl (by kernel_rfl) (by kernel_rfl) (by kernel_rfl) (fun _ _ _ h => h) (Or.inl ⟨by rfl, ?_⟩) (by assumption) ?_
          rotate_left
          · intro wS hSw; go_split_ands; go_simp; first | done | with_reducible rfl
          simp only [Act.put, List.setIfInBounds_toArray, List.set_cons_zero, List.set_cons_succ]
          refine wpAnyH_ready (rs := [18]) (by kernel_rfl) (by simp) ?_
          refine AllReadyH.cons (o := { dst := some 4, op := Op.assign (Operand.tmp 32), type := 4, pos := "ref.go:113", after := #[{ on := 17, ground := Ground.data }, { on := 12, ground := Ground.chain }, { on := 0, ground := Ground.phase }, { on := 1, ground := Ground.phase }, { on := 2, ground := Ground.phase }, { on := 3, ground := Ground.phase }, { on := 4, ground := Ground.phase }, { on := 5, ground := Ground.phase }, { on := 6, ground := Ground.phase }, { on := 7, ground := Ground.phase }, { on := 8, ground := Ground.phase }, { on := 9, ground := Ground.phase }, { on := 10, ground := Ground.phase }, { on := 11, ground := Ground.phase }, { on := 12, ground := Ground.phase }, { on := 13, ground := Ground.phase }, { on := 14, ground := Ground.phase }, { on := 15, ground := Ground.phase }, { on := 16, ground := Ground.phase }, { on := 17, ground := Ground.phase }], guard := none }) rfl (fun K hK => ?_) AllReadyH.nil
          go_simp
          refine hK.out _ _ ?_ (fun hHeld => ?_)
          · exact ⟨(hb7.cell (p := ⟨w.heap.size, 2, none⟩) (by simp <;> omega)).trans (by go_keep), (hb7.cell (p := ⟨w.heap.size, 3, none⟩) (by simp <;> omega)).trans (by go_keep), (hb7.cell (p := ⟨w.heap.size, 4, none⟩) (by simp <;> omega)).trans (by go_keep), (hb7.cell (p := ⟨w.heap.size + 1, 0, none⟩) (by simp <;> omega)).trans (by go_keep), (hb7.cell (p := ⟨w.heap.size + 1, 1, none⟩) (by simp <;> omega)).trans (by go_keep), (hb7.cell (p := ⟨w.heap.size + 1, 2, none⟩) (by simp <;> omega)).trans (by go_keep), (hb7.cell (p := ⟨w.heap.size + 1, 3, none⟩) (by simp <;> omega)).trans (by go_keep), (hb7.cell (p := ⟨w.heap.size + 1, 4, none⟩) (by simp <;> omega)).trans (by go_keep), (hb7.cell (p := ⟨w.heap.size + 1, 5, none⟩) (by simp <;> omega)).trans (by go_keep), (hb7.cell (p := ⟨w.heap.size + 1, 6, none⟩) (by simp <;> omega)).trans (by go_keep), (hb7.cell (p := ⟨w.heap.size + 1, 7, none⟩) (by simp <;> omega)).trans (by go_keep), (hb7.cell (p := ⟨w.heap.size + 1, 8, none⟩) (by simp <;> omega)).trans (by go_keep), (hb7.cell (p := ⟨w.heap.size + 1, 9, none⟩) (by simp <;> omega)).trans (by go_keep)⟩
          clear hK K
          try simp only [Act.put, List.setIfInBounds_toArray, List.set_cons_zero, List.set_cons_succ]
          refine wpAnyH_done (by kernel_rfl) ?_ _
          go_wp2
          go_ret
          exact ⟨by rw [E.out]; rfl, HB.drew.trans (hb7.mono HB.size)⟩
      case true =>
        cases rb
        case false =>
          have E := Lib.hid (show joinB ⟨ae, al, az, false, true⟩ ⟨0, 1, p0, false, false⟩ = false by unfold joinB endS; simp)
          have HB : Below w.heap.size w ((w.alloc (.cells #[.int .i64 ae, .int .i64 al, .int .i64 az, .bool false, .bool true] 36)).alloc (.cells #[.int .i64 p0, .bool false, .int .i64 p2, .int .i64 p3, .int .i64 p4, .int .i64 p5, .int .i64 p6, .int .i64 p7, .int .i64 p8, .int .i64 p9] 53)) := ((Below.refl _ w).alloc (Nat.le_refl _) _).alloc (by simp) _
          try clear hq
          go_enter Try.func28, Try.ntmps28
          go_wp2
          refine wp_region_held_drew (S := (fun W => W.cell? ⟨w.heap.size, 2, none⟩ = some (.int .i64 az) ∧ W.cell? ⟨w.heap.size, 3, none⟩ = some (.bool false) ∧ W.cell? ⟨w.heap.size, 4, none⟩ = some (.bool true) ∧ W.cell? ⟨w.heap.size + 1, 0, none⟩ = some (.int .i64 p0) ∧ W.cell? ⟨w.heap.size + 1, 1, none⟩ = some (.bool false) ∧ W.cell? ⟨w.heap.size + 1, 2, none⟩ = some (.int .i64 p2) ∧ W.cell? ⟨w.heap.size + 1, 3, none⟩ = some (.int .i64 p3) ∧ W.cell? ⟨w.heap.size + 1, 4, none⟩ = some (.int .i64 p4) ∧ W.cell? ⟨w.heap.size + 1, 5, none⟩ = some (.int .i64 p5) ∧ W.cell? ⟨w.heap.size + 1, 6, none⟩ = some (.int .i64 p6) ∧ W.cell? ⟨w.heap.size + 1, 7, none⟩ = some (.int .i64 p7) ∧ W.cell? ⟨w.heap.size + 1, 8, none⟩ = some (.int .i64 p8) ∧ W.cell? ⟨w.heap.size + 1, 9, none⟩ = some (.int .i64 p9))) (by kernel_rfl) ?_ (fun hHeld => ?_)
          · go_keep
          try dsimp only at hHeld
          refine wpAnyH_take (i := 0) (oi := { dst := some 15, op := Op.fieldAddr 36 (Operand.tmp 2) 3, type := 0, pos := "ref.go:113", after := #[], guard := none }) (v := ?_) rfl (by kernel_rfl) (by kernel_rfl) (by kernel_rfl) (fun _ _ _ h => h) (Or.inl ⟨by rfl, ?_⟩) (by assumption) ?_
          rotate_left
          · intro wS hSw; go_split_ands; go_simp; first | done | with_reducible rfl
          simp only [Act.put, List.setIfInBounds_toArray, List.set_cons_zero, List.set_cons_succ]
          refine wpAnyH_take (i := 1) (oi := { dst := some 16, op := Op.load 4 (Operand.tmp 15), type := 4, pos := "ref.go:113", after := #[{ on := 0, ground := Ground.data }], guard := none }) (v := ?_) rfl (by kernel_rfl) (by kernel_rfl) (by kernel_rfl) (fun _ _ _ h => h) (Or.inl ⟨by rfl, ?_⟩) (by assumption) ?_
          rotate_left
          · intro wS hSw; go_split_ands; go_simp; first | done | with_reducible rfl
          simp only [Act.put, List.setIfInBounds_toArray, List.set_cons_zero, List.set_cons_succ]
          refine wpAnyH_take (i := 2) (oi := { dst := some 17, op := Op.fieldAddr 53 (Operand.tmp 3) 1, type := 0, pos := "ref.go:113", after := #[], guard := none }) (v := ?_) rfl (by kernel_rfl) (by kernel_rfl) (by kernel_rfl) (fun _ _ _ h => h) (Or.inl ⟨by rfl, ?_⟩) (by assumption) ?_
          rotate_left
          · intro wS hSw; go_split_ands; go_simp; first | done | with_reducible rfl
          simp only [Act.put, List.setIfInBounds_toArray, List.set_cons_zero, List.set_cons_succ]
          refine wpAnyH_take (i := 3) (oi := { dst := some 18, op := Op.load 4 (Operand.tmp 17), type := 4, pos := "ref.go:113", after := #[{ on := 2, ground := Ground.data }], guard := none }) (v := ?_) rfl (by kernel_rfl) (by kernel_rfl) (by kernel_rfl) (fun _ _ _ h => h) (Or.inl ⟨by rfl, ?_⟩) (by assumption) ?_
          rotate_left
          · intro wS hSw; go_split_ands; go_simp; first | done | with_reducible rfl
          simp only [Act.put, List.setIfInBounds_toArray, List.set_cons_zero, List.set_cons_succ]
          refine wpAnyH_take (i := 4) (oi := { dst := some 19, op := Op.binOp BinOp.eql 4 (Operand.tmp 16) (Operand.tmp 18) 4, type := 4, pos := "ref.go:113", after := #[{ on := 1, ground := Ground.data }, { on := 3, ground := Ground.data }], guard := none }) (v := ?_) rfl (by kernel_rfl) (by kernel_rfl) (by kernel_rfl) (fun _ _ _ h => h) (Or.inl ⟨by rfl, ?_⟩) (by assumption) ?_
          rotate_left
          · intro wS hSw; go_split_ands; go_simp; first | done | with_reducible rfl
          simp only [Act.put, List.setIfInBounds_toArray, List.set_cons_zero, List.set_cons_succ]
          refine wpAnyH_take (i := 5) (oi := { dst := some 20, op := Op.move (Operand.tmp 19), type := 4, pos := "ref.go:113", after := #[{ on := 4, ground := Ground.data }], guard := none }) (v := ?_) rfl (by kernel_rfl) (by kernel_rfl) (by kernel_rfl) (fun _ _ _ h => h) (Or.inl ⟨by rfl, ?_⟩) (by assumption) ?_
          rotate_left
          · intro wS hSw; go_split_ands; go_simp; first | done | with_reducible rfl
          simp only [Act.put, List.setIfInBounds_toArray, List.set_cons_zero, List.set_cons_succ]
          refine wpAnyH_take (i := 6) (oi := { dst := some 21, op := Op.fieldAddr 36 (Operand.tmp 2) 4, type := 0, pos := "ref.go:113", after := #[{ on := 5, ground := Ground.guard }], guard := some (5, true) }) (v := ?_) rfl (by kernel_rfl) (by kernel_rfl) (by kernel_rfl) (fun _ _ _ h => h) (Or.inl ⟨by rfl, ?_⟩) (by assumption) ?_
          rotate_left
          · intro wS hSw; go_split_ands; go_simp; first | done | with_reducible rfl
          simp only [Act.put, List.setIfInBounds_toArray, List.set_cons_zero, List.set_cons_succ]
          refine wpAnyH_take (i := 7) (oi := { dst := some 22, op := Op.load 4 (Operand.tmp 21), type := 4, pos := "ref.go:113", after := #[{ on := 6, ground := Ground.data }, { on := 5, ground := Ground.guard }], guard := some (5, true) }) (v := ?_) rfl (by kernel_rfl) (by kernel_rfl) (by kernel_rfl) (fun _ _ _ h => h) (Or.inl ⟨by rfl, ?_⟩) (by assumption) ?_
          rotate_left
          · intro wS hSw; go_split_ands; go_simp; first | done | with_reducible rfl
          simp only [Act.put, List.setIfInBounds_toArray, List.set_cons_zero, List.set_cons_succ]
          refine wpAnyH_take (i := 8) (oi := { dst := some 23, op := Op.load 53 (Operand.tmp 3), type := 53, pos := "ref.go:113", after := #[{ on := 5, ground := Ground.guard }], guard := some (5, true) }) (v := ?_) rfl (by kernel_rfl) (by kernel_rfl) (by kernel_rfl) (fun _ _ _ h => h) (Or.inl ⟨by rfl, ?_⟩) (by assumption) ?_
          rotate_left
          · intro wS hSw; go_split_ands; go_simp; first | done | with_reducible rfl
          simp only [Act.put, List.setIfInBounds_toArray, List.set_cons_zero, List.set_cons_succ]
          refine wpAnyH_ready (rs := [9]) (by kernel_rfl) (by simp) ?_
          refine AllReadyH.cons (o := { dst := some 24, op := Op.call { callee := Callee.value (Operand.func 25), args := #[Operand.tmp 23], argTypes := #[53] }, type := 4, pos := "ref.go:113", after := #[{ on := 8, ground := Ground.data }, { on := 5, ground := Ground.chain }, { on := 5, ground := Ground.guard }], guard := some (5, true) }) rfl (fun K hK => ?_) AllReadyH.nil
          go_simp
          go_at_call 25; refine (KR _).mono ?_; rintro e w7 ⟨rfl, hb7⟩
          refine hK.out _ _ ?_ (fun hHeld => ?_)
          · exact ⟨(hb7.cell (p := ⟨w.heap.size, 2, none⟩) (by simp <;> omega)).trans (by go_keep), (hb7.cell (p := ⟨w.heap.size, 3, none⟩) (by simp <;> omega)).trans (by go_keep), (hb7.cell (p := ⟨w.heap.size, 4, none⟩) (by simp <;> omega)).trans (by go_keep), (hb7.cell (p := ⟨w.heap.size + 1, 0, none⟩) (by simp <;> omega)).trans (by go_keep), (hb7.cell (p := ⟨w.heap.size + 1, 1, none⟩) (by simp <;> omega)).trans (by go_keep), (hb7.cell (p := ⟨w.heap.size + 1, 2, none⟩) (by simp <;> omega)).trans (by go_keep), (hb7.cell (p := ⟨w.heap.size + 1, 3, none⟩) (by simp <;> omega)).trans (by go_keep), (hb7.cell (p := ⟨w.heap.size + 1, 4, none⟩) (by simp <;> omega)).trans (by go_keep), (hb7.cell (p := ⟨w.heap.size + 1, 5, none⟩) (by simp <;> omega)).trans (by go_keep), (hb7.cell (p := ⟨w.heap.size + 1, 6, none⟩) (by simp <;> omega)).trans (by go_keep), (hb7.cell (p := ⟨w.heap.size + 1, 7, none⟩) (by simp <;> omega)).trans (by go_keep), (hb7.cell (p := ⟨w.heap.size + 1, 8, none⟩) (by simp <;> omega)).trans (by go_keep), (hb7.cell (p := ⟨w.heap.size + 1, 9, none⟩) (by simp <;> omega)).trans (by go_keep)⟩
          clear hK K
          try simp only [Act.put, List.setIfInBounds_toArray, List.set_cons_zero, List.set_cons_succ]
          refine wpAnyH_take (i := 10) (oi := { dst := some 25, op := Op.binOp BinOp.eql 4 (Operand.tmp 22) (Operand.tmp 24) 4, type := 4, pos := "ref.go:113", after := #[{ on := 7, ground := Ground.data }, { on := 9, ground := Ground.data }, { on := 5, ground := Ground.guard }], guard := some (5, true) }) (v := ?_) rfl (by kernel_rfl) (by kernel_rfl) (by kernel_rfl) (fun _ _ _ h => h) (Or.inl ⟨by rfl, ?_⟩) (by assumption) ?_
          rotate_left
          · intro wS hSw; go_split_ands; go_simp; first | done | with_reducible rfl
          simp only [Act.put, List.setIfInBounds_toArray, List.set_cons_zero, List.set_cons_succ]
          refine wpAnyH_take (i := 11) (oi := { dst := some 26, op := Op.pick (Operand.tmp 20) (Operand.tmp 25) (Operand.const (Value.bool false)), type := 4, pos := "ref.go:113", after := #[{ on := 5, ground := Ground.data }, { on := 10, ground := Ground.data }], guard := none }) (v := ?_) rfl (by kernel_rfl) (by kernel_rfl) (by kernel_rfl) (fun _ _ _ h => h) (Or.inl ⟨by rfl, ?_⟩) (by assumption) ?_
          rotate_left
          · intro wS hSw; go_split_ands; go_simp; first | done | with_reducible rfl
          simp only [Act.put, List.setIfInBounds_toArray, List.set_cons_zero, List.set_cons_succ]
          refine wpAnyH_take (i := 12) (oi := { dst := some 27, op := Op.move (Operand.tmp 26), type := 4, pos := "ref.go:113", after := #[{ on := 11, ground := Ground.data }, { on := 9, ground := Ground.chain }], guard := none }) (v := ?_) rfl (by kernel_rfl) (by kernel_rfl) (by kernel_rfl) (fun _ _ _ h => h) (Or.inl ⟨by rfl, ?_⟩) (by assumption) ?_
          rotate_left
          · intro wS hSw; go_split_ands; go_simp; first | done | with_reducible rfl
          simp only [Act.put, List.setIfInBounds_toArray, List.set_cons_zero, List.set_cons_succ]
          refine wpAnyH_take (i := 13) (oi := { dst := some 28, op := Op.move (Operand.tmp 5), type := 3, pos := "ref.go:113", after := #[{ on := 12, ground := Ground.guard }], guard := some (12, true) }) (v := undef) rfl (by kernel_rfl) (by kernel_rfl) (by kernel_rfl) (fun _ _ _ h => h) (Or.inr ⟨by rfl, rfl⟩) (by assumption) ?_
          simp only [Act.put, List.setIfInBounds_toArray, List.set_cons_zero, List.set_cons_succ]
          refine wpAnyH_take (i := 14) (oi := { dst := some 29, op := Op.fieldAddr 53 (Operand.tmp 3) 0, type := 0, pos := "ref.go:113", after := #[{ on := 12, ground := Ground.guard }], guard := some (12, true) }) (v := undef) rfl (by kernel_rfl) (by kernel_rfl) (by kernel_rfl) (fun _ _ _ h => h) (Or.inr ⟨by rfl, rfl⟩) (by assumption) ?_
          simp only [Act.put, List.setIfInBounds_toArray, List.set_cons_zero, List.set_cons_succ]
          refine wpAnyH_take (i := 15) (oi := { dst := some 30, op := Op.load 3 (Operand.tmp 29), type := 3, pos := "ref.go:113", after := #[{ on := 14, ground := Ground.data }, { on := 12, ground := Ground.guard }], guard := some (12, true) }) (v := undef) rfl (by kernel_rfl) (by kernel_rfl) (by kernel_rfl) (fun _ _ _ h => h) (Or.inr ⟨by rfl, rfl⟩) (by assumption) ?_
          simp only [Act.put, List.setIfInBounds_toArray, List.set_cons_zero, List.set_cons_succ]
          refine wpAnyH_take (i := 16) (oi := { dst := some 31, op := Op.binOp BinOp.eql 3 (Operand.tmp 28) (Operand.tmp 30) 3, type := 4, pos := "ref.go:113", after := #[{ on := 13, ground := Ground.data }, { on := 15, ground := Ground.data }, { on := 12, ground := Ground.guard }], guard := some (12, true) }) (v := undef) rfl (by kernel_rfl) (by kernel_rfl) (by kernel_rfl) (fun _ _ _ h => h) (Or.inr ⟨by rfl, rfl⟩) (by assumption) ?_
          simp only [Act.put, List.setIfInBounds_toArray, List.set_cons_zero, List.set_cons_succ]
          refine wpAnyH_take (i := 17) (oi := { dst := some 32, op := Op.pick (Operand.tmp 27) (Operand.tmp 31) (Operand.const (Value.bool false)), type := 4, pos := "ref.go:113", after := #[{ on := 12, ground := Ground.data }, { on := 16, ground := Ground.data }], guard := none }) (v := ?_) rfl (by kernel_rfl) (by kernel_rfl) (by kernel_rfl) (fun _ _ _ h => h) (Or.inl ⟨by rfl, ?_⟩) (by assumption) ?_
          rotate_left
          · intro wS hSw; go_split_ands; go_simp; first | done | with_reducible rfl
          simp only [Act.put, List.setIfInBounds_toArray, List.set_cons_zero, List.set_cons_succ]
          refine wpAnyH_ready (rs := [18]) (by kernel_rfl) (by simp) ?_
          refine AllReadyH.cons (o := { dst := some 4, op := Op.assign (Operand.tmp 32), type := 4, pos := "ref.go:113", after := #[{ on := 17, ground := Ground.data }, { on := 12, ground := Ground.chain }, { on := 0, ground := Ground.phase }, { on := 1, ground := Ground.phase }, { on := 2, ground := Ground.phase }, { on := 3, ground := Ground.phase }, { on := 4, ground := Ground.phase }, { on := 5, ground := Ground.phase }, { on := 6, ground := Ground.phase }, { on := 7, ground := Ground.phase }, { on := 8, ground := Ground.phase }, { on := 9, ground := Ground.phase }, { on := 10, ground := Ground.phase }, { on := 11, ground := Ground.phase }, { on := 12, ground := Ground.phase }, { on := 13, ground := Ground.phase }, { on := 14, ground := Ground.phase }, { on := 15, ground := Ground.phase }, { on := 16, ground := Ground.phase }, { on := 17, ground := Ground.phase }], guard := none }) rfl (fun K hK => ?_) AllReadyH.nil
          go_simp
          refine hK.out _ _ ?_ (fun hHeld => ?_)
          · exact ⟨(hb7.cell (p := ⟨w.heap.size, 2, none⟩) (by simp <;> omega)).trans (by go_keep), (hb7.cell (p := ⟨w.heap.size, 3, none⟩) (by simp <;> omega)).trans (by go_keep), (hb7.cell (p := ⟨w.heap.size, 4, none⟩) (by simp <;> omega)).trans (by go_keep), (hb7.cell (p := ⟨w.heap.size + 1, 0, none⟩) (by simp <;> omega)).trans (by go_keep), (hb7.cell (p := ⟨w.heap.size + 1, 1, none⟩) (by simp <;> omega)).trans (by go_keep), (hb7.cell (p := ⟨w.heap.size + 1, 2, none⟩) (by simp <;> omega)).trans (by go_keep), (hb7.cell (p := ⟨w.heap.size + 1, 3, none⟩) (by simp <;> omega)).trans (by go_keep), (hb7.cell (p := ⟨w.heap.size + 1, 4, none⟩) (by simp <;> omega)).trans (by go_keep), (hb7.cell (p := ⟨w.heap.size + 1, 5, none⟩) (by simp <;> omega)).trans (by go_keep), (hb7.cell (p := ⟨w.heap.size + 1, 6, none⟩) (by simp <;> omega)).trans (by go_keep), (hb7.cell (p := ⟨w.heap.size + 1, 7, none⟩) (by simp <;> omega)).trans (by go_keep), (hb7.cell (p := ⟨w.heap.size + 1, 8, none⟩) (by simp <;> omega)).trans (by go_keep), (hb7.cell (p := ⟨w.heap.size + 1, 9, none⟩) (by simp <;> omega)).trans (by go_keep)⟩
          clear hK K
          try simp only [Act.put, List.setIfInBounds_toArray, List.set_cons_zero, List.set_cons_succ]
          refine wpAnyH_done (by kernel_rfl) ?_ _
          go_wp2
          go_ret
          exact ⟨by rw [E.out]; rfl, HB.drew.trans (hb7.mono HB.size)⟩
        case true =>
          by_cases hq : az = p0
          case pos =>
            have d : (az == p0) = true := beq_iff_eq.2 hq
            have E := Lib.hid (show joinB ⟨ae, al, az, false, true⟩ ⟨0, 1, p0, false, true⟩ = true by unfold joinB endS; simp [hq])
            have HB : Below w.heap.size w ((w.alloc (.cells #[.int .i64 ae, .int .i64 al, .int .i64 az, .bool false, .bool true] 36)).alloc (.cells #[.int .i64 p0, .bool false, .int .i64 p2, .int .i64 p3, .int .i64 p4, .int .i64 p5, .int .i64 p6, .int .i64 p7, .int .i64 p8, .int .i64 p9] 53)) := ((Below.refl _ w).alloc (Nat.le_refl _) _).alloc (by simp) _
            try clear hq
            go_enter Try.func28, Try.ntmps28
            go_wp2
            refine wp_region_held_drew (S := (fun W => W.cell? ⟨w.heap.size, 2, none⟩ = some (.int .i64 az) ∧ W.cell? ⟨w.heap.size, 3, none⟩ = some (.bool false) ∧ W.cell? ⟨w.heap.size, 4, none⟩ = some (.bool true) ∧ W.cell? ⟨w.heap.size + 1, 0, none⟩ = some (.int .i64 p0) ∧ W.cell? ⟨w.heap.size + 1, 1, none⟩ = some (.bool false) ∧ W.cell? ⟨w.heap.size + 1, 2, none⟩ = some (.int .i64 p2) ∧ W.cell? ⟨w.heap.size + 1, 3, none⟩ = some (.int .i64 p3) ∧ W.cell? ⟨w.heap.size + 1, 4, none⟩ = some (.int .i64 p4) ∧ W.cell? ⟨w.heap.size + 1, 5, none⟩ = some (.int .i64 p5) ∧ W.cell? ⟨w.heap.size + 1, 6, none⟩ = some (.int .i64 p6) ∧ W.cell? ⟨w.heap.size + 1, 7, none⟩ = some (.int .i64 p7) ∧ W.cell? ⟨w.heap.size + 1, 8, none⟩ = some (.int .i64 p8) ∧ W.cell? ⟨w.heap.size + 1, 9, none⟩ = some (.int .i64 p9))) (by kernel_rfl) ?_ (fun hHeld => ?_)
            · go_keep
            try dsimp only at hHeld
            refine wpAnyH_take (i := 0) (oi := { dst := some 15, op := Op.fieldAddr 36 (Operand.tmp 2) 3, type := 0, pos := "ref.go:113", after := #[], guard := none }) (v := ?_) rfl (by kernel_rfl) (by kernel_rfl) (by kernel_rfl) (fun _ _ _ h => h) (Or.inl ⟨by rfl, ?_⟩) (by assumption) ?_
            rotate_left
            · intro wS hSw; go_split_ands; go_simp; first | done | with_reducible rfl
            simp only [Act.put, List.setIfInBounds_toArray, List.set_cons_zero, List.set_cons_succ]
            refine wpAnyH_take (i := 1) (oi := { dst := some 16, op := Op.load 4 (Operand.tmp 15), type := 4, pos := "ref.go:113", after := #[{ on := 0, ground := Ground.data }], guard := none }) (v := ?_) rfl (by kernel_rfl) (by kernel_rfl) (by kernel_rfl) (fun _ _ _ h => h) (Or.inl ⟨by rfl, ?_⟩) (by assumption) ?_
            rotate_left
            · intro wS hSw; go_split_ands; go_simp; first | done | with_reducible rfl
            simp only [Act.put, List.setIfInBounds_toArray, List.set_cons_zero, List.set_cons_succ]
            refine wpAnyH_take (i := 2) (oi := { dst := some 17, op := Op.fieldAddr 53 (Operand.tmp 3) 1, type := 0, pos := "ref.go:113", after := #[], guard := none }) (v := ?_) rfl (by kernel_rfl) (by kernel_rfl) (by kernel_rfl) (fun _ _ _ h => h) (Or.inl ⟨by rfl, ?_⟩) (by assumption) ?_
            rotate_left
            · intro wS hSw; go_split_ands; go_simp; first | done | with_reducible rfl
            simp only [Act.put, List.setIfInBounds_toArray, List.set_cons_zero, List.set_cons_succ]
            refine wpAnyH_take (i := 3) (oi := { dst := some 18, op := Op.load 4 (Operand.tmp 17), type := 4, pos := "ref.go:113", after := #[{ on := 2, ground := Ground.data }], guard := none }) (v := ?_) rfl (by kernel_rfl) (by kernel_rfl) (by kernel_rfl) (fun _ _ _ h => h) (Or.inl ⟨by rfl, ?_⟩) (by assumption) ?_
            rotate_left
            · intro wS hSw; go_split_ands; go_simp; first | done | with_reducible rfl
            simp only [Act.put, List.setIfInBounds_toArray, List.set_cons_zero, List.set_cons_succ]
            refine wpAnyH_take (i := 4) (oi := { dst := some 19, op := Op.binOp BinOp.eql 4 (Operand.tmp 16) (Operand.tmp 18) 4, type := 4, pos := "ref.go:113", after := #[{ on := 1, ground := Ground.data }, { on := 3, ground := Ground.data }], guard := none }) (v := ?_) rfl (by kernel_rfl) (by kernel_rfl) (by kernel_rfl) (fun _ _ _ h => h) (Or.inl ⟨by rfl, ?_⟩) (by assumption) ?_
            rotate_left
            · intro wS hSw; go_split_ands; go_simp; first | done | with_reducible rfl
            simp only [Act.put, List.setIfInBounds_toArray, List.set_cons_zero, List.set_cons_succ]
            refine wpAnyH_take (i := 5) (oi := { dst := some 20, op := Op.move (Operand.tmp 19), type := 4, pos := "ref.go:113", after := #[{ on := 4, ground := Ground.data }], guard := none }) (v := ?_) rfl (by kernel_rfl) (by kernel_rfl) (by kernel_rfl) (fun _ _ _ h => h) (Or.inl ⟨by rfl, ?_⟩) (by assumption) ?_
            rotate_left
            · intro wS hSw; go_split_ands; go_simp; first | done | with_reducible rfl
            simp only [Act.put, List.setIfInBounds_toArray, List.set_cons_zero, List.set_cons_succ]
            refine wpAnyH_take (i := 6) (oi := { dst := some 21, op := Op.fieldAddr 36 (Operand.tmp 2) 4, type := 0, pos := "ref.go:113", after := #[{ on := 5, ground := Ground.guard }], guard := some (5, true) }) (v := ?_) rfl (by kernel_rfl) (by kernel_rfl) (by kernel_rfl) (fun _ _ _ h => h) (Or.inl ⟨by rfl, ?_⟩) (by assumption) ?_
            rotate_left
            · intro wS hSw; go_split_ands; go_simp; first | done | with_reducible rfl
            simp only [Act.put, List.setIfInBounds_toArray, List.set_cons_zero, List.set_cons_succ]
            refine wpAnyH_take (i := 7) (oi := { dst := some 22, op := Op.load 4 (Operand.tmp 21), type := 4, pos := "ref.go:113", after := #[{ on := 6, ground := Ground.data }, { on := 5, ground := Ground.guard }], guard := some (5, true) }) (v := ?_) rfl (by kernel_rfl) (by kernel_rfl) (by kernel_rfl) (fun _ _ _ h => h) (Or.inl ⟨by rfl, ?_⟩) (by assumption) ?_
            rotate_left
            · intro wS hSw; go_split_ands; go_simp; first | done | with_reducible rfl
            simp only [Act.put, List.setIfInBounds_toArray, List.set_cons_zero, List.set_cons_succ]
            refine wpAnyH_take (i := 8) (oi := { dst := some 23, op := Op.load 53 (Operand.tmp 3), type := 53, pos := "ref.go:113", after := #[{ on := 5, ground := Ground.guard }], guard := some (5, true) }) (v := ?_) rfl (by kernel_rfl) (by kernel_rfl) (by kernel_rfl) (fun _ _ _ h => h) (Or.inl ⟨by rfl, ?_⟩) (by assumption) ?_
            rotate_left
            · intro wS hSw; go_split_ands; go_simp; first | done | with_reducible rfl
            simp only [Act.put, List.setIfInBounds_toArray, List.set_cons_zero, List.set_cons_succ]
            refine wpAnyH_ready (rs := [9]) (by kernel_rfl) (by simp) ?_
            refine AllReadyH.cons (o := { dst := some 24, op := Op.call { callee := Callee.value (Operand.func 25), args := #[Operand.tmp 23], argTypes := #[53] }, type := 4, pos := "ref.go:113", after := #[{ on := 8, ground := Ground.data }, { on := 5, ground := Ground.chain }, { on := 5, ground := Ground.guard }], guard := some (5, true) }) rfl (fun K hK => ?_) AllReadyH.nil
            go_simp
            go_at_call 25; refine (KR _).mono ?_; rintro e w7 ⟨rfl, hb7⟩
            refine hK.out _ _ ?_ (fun hHeld => ?_)
            · exact ⟨(hb7.cell (p := ⟨w.heap.size, 2, none⟩) (by simp <;> omega)).trans (by go_keep), (hb7.cell (p := ⟨w.heap.size, 3, none⟩) (by simp <;> omega)).trans (by go_keep), (hb7.cell (p := ⟨w.heap.size, 4, none⟩) (by simp <;> omega)).trans (by go_keep), (hb7.cell (p := ⟨w.heap.size + 1, 0, none⟩) (by simp <;> omega)).trans (by go_keep), (hb7.cell (p := ⟨w.heap.size + 1, 1, none⟩) (by simp <;> omega)).trans (by go_keep), (hb7.cell (p := ⟨w.heap.size + 1, 2, none⟩) (by simp <;> omega)).trans (by go_keep), (hb7.cell (p := ⟨w.heap.size + 1, 3, none⟩) (by simp <;> omega)).trans (by go_keep), (hb7.cell (p := ⟨w.heap.size + 1, 4, none⟩) (by simp <;> omega)).trans (by go_keep), (hb7.cell (p := ⟨w.heap.size + 1, 5, none⟩) (by simp <;> omega)).trans (by go_keep), (hb7.cell (p := ⟨w.heap.size + 1, 6, none⟩) (by simp <;> omega)).trans (by go_keep), (hb7.cell (p := ⟨w.heap.size + 1, 7, none⟩) (by simp <;> omega)).trans (by go_keep), (hb7.cell (p := ⟨w.heap.size + 1, 8, none⟩) (by simp <;> omega)).trans (by go_keep), (hb7.cell (p := ⟨w.heap.size + 1, 9, none⟩) (by simp <;> omega)).trans (by go_keep)⟩
            clear hK K
            try simp only [Act.put, List.setIfInBounds_toArray, List.set_cons_zero, List.set_cons_succ]
            refine wpAnyH_take (i := 10) (oi := { dst := some 25, op := Op.binOp BinOp.eql 4 (Operand.tmp 22) (Operand.tmp 24) 4, type := 4, pos := "ref.go:113", after := #[{ on := 7, ground := Ground.data }, { on := 9, ground := Ground.data }, { on := 5, ground := Ground.guard }], guard := some (5, true) }) (v := ?_) rfl (by kernel_rfl) (by kernel_rfl) (by kernel_rfl) (fun _ _ _ h => h) (Or.inl ⟨by rfl, ?_⟩) (by assumption) ?_
            rotate_left
            · intro wS hSw; go_split_ands; go_simp; first | done | with_reducible rfl
            simp only [Act.put, List.setIfInBounds_toArray, List.set_cons_zero, List.set_cons_succ]
            refine wpAnyH_take (i := 11) (oi := { dst := some 26, op := Op.pick (Operand.tmp 20) (Operand.tmp 25) (Operand.const (Value.bool false)), type := 4, pos := "ref.go:113", after := #[{ on := 5, ground := Ground.data }, { on := 10, ground := Ground.data }], guard := none }) (v := ?_) rfl (by kernel_rfl) (by kernel_rfl) (by kernel_rfl) (fun _ _ _ h => h) (Or.inl ⟨by rfl, ?_⟩) (by assumption) ?_
            rotate_left
            · intro wS hSw; go_split_ands; go_simp; first | done | with_reducible rfl
            simp only [Act.put, List.setIfInBounds_toArray, List.set_cons_zero, List.set_cons_succ]
            refine wpAnyH_take (i := 12) (oi := { dst := some 27, op := Op.move (Operand.tmp 26), type := 4, pos := "ref.go:113", after := #[{ on := 11, ground := Ground.data }, { on := 9, ground := Ground.chain }], guard := none }) (v := ?_) rfl (by kernel_rfl) (by kernel_rfl) (by kernel_rfl) (fun _ _ _ h => h) (Or.inl ⟨by rfl, ?_⟩) (by assumption) ?_
            rotate_left
            · intro wS hSw; go_split_ands; go_simp; first | done | with_reducible rfl
            simp only [Act.put, List.setIfInBounds_toArray, List.set_cons_zero, List.set_cons_succ]
            refine wpAnyH_take (i := 13) (oi := { dst := some 28, op := Op.move (Operand.tmp 5), type := 3, pos := "ref.go:113", after := #[{ on := 12, ground := Ground.guard }], guard := some (12, true) }) (v := ?_) rfl (by kernel_rfl) (by kernel_rfl) (by kernel_rfl) (fun _ _ _ h => h) (Or.inl ⟨by rfl, ?_⟩) (by assumption) ?_
            rotate_left
            · intro wS hSw; go_split_ands; go_simp; first | done | with_reducible rfl
            simp only [Act.put, List.setIfInBounds_toArray, List.set_cons_zero, List.set_cons_succ]
            refine wpAnyH_take (i := 14) (oi := { dst := some 29, op := Op.fieldAddr 53 (Operand.tmp 3) 0, type := 0, pos := "ref.go:113", after := #[{ on := 12, ground := Ground.guard }], guard := some (12, true) }) (v := ?_) rfl (by kernel_rfl) (by kernel_rfl) (by kernel_rfl) (fun _ _ _ h => h) (Or.inl ⟨by rfl, ?_⟩) (by assumption) ?_
            rotate_left
            · intro wS hSw; go_split_ands; go_simp; first | done | with_reducible rfl
            simp only [Act.put, List.setIfInBounds_toArray, List.set_cons_zero, List.set_cons_succ]
            refine wpAnyH_take (i := 15) (oi := { dst := some 30, op := Op.load 3 (Operand.tmp 29), type := 3, pos := "ref.go:113", after := #[{ on := 14, ground := Ground.data }, { on := 12, ground := Ground.guard }], guard := some (12, true) }) (v := ?_) rfl (by kernel_rfl) (by kernel_rfl) (by kernel_rfl) (fun _ _ _ h => h) (Or.inl ⟨by rfl, ?_⟩) (by assumption) ?_
            rotate_left
            · intro wS hSw; go_split_ands; go_simp; first | done | with_reducible rfl
            simp only [Act.put, List.setIfInBounds_toArray, List.set_cons_zero, List.set_cons_succ]
            refine wpAnyH_take (i := 16) (oi := { dst := some 31, op := Op.binOp BinOp.eql 3 (Operand.tmp 28) (Operand.tmp 30) 3, type := 4, pos := "ref.go:113", after := #[{ on := 13, ground := Ground.data }, { on := 15, ground := Ground.data }, { on := 12, ground := Ground.guard }], guard := some (12, true) }) (v := ?_) rfl (by kernel_rfl) (by kernel_rfl) (by kernel_rfl) (fun _ _ _ h => h) (Or.inl ⟨by rfl, ?_⟩) (by assumption) ?_
            rotate_left
            · intro wS hSw; go_split_ands; go_simp; first | done | with_reducible rfl
            simp only [Act.put, List.setIfInBounds_toArray, List.set_cons_zero, List.set_cons_succ]
            refine wpAnyH_take (i := 17) (oi := { dst := some 32, op := Op.pick (Operand.tmp 27) (Operand.tmp 31) (Operand.const (Value.bool false)), type := 4, pos := "ref.go:113", after := #[{ on := 12, ground := Ground.data }, { on := 16, ground := Ground.data }], guard := none }) (v := ?_) rfl (by kernel_rfl) (by kernel_rfl) (by kernel_rfl) (fun _ _ _ h => h) (Or.inl ⟨by rfl, ?_⟩) (by assumption) ?_
            rotate_left
            · intro wS hSw; go_split_ands; go_simp; first | done | with_reducible rfl
            simp only [Act.put, List.setIfInBounds_toArray, List.set_cons_zero, List.set_cons_succ]
            refine wpAnyH_ready (rs := [18]) (by kernel_rfl) (by simp) ?_
            refine AllReadyH.cons (o := { dst := some 4, op := Op.assign (Operand.tmp 32), type := 4, pos := "ref.go:113", after := #[{ on := 17, ground := Ground.data }, { on := 12, ground := Ground.chain }, { on := 0, ground := Ground.phase }, { on := 1, ground := Ground.phase }, { on := 2, ground := Ground.phase }, { on := 3, ground := Ground.phase }, { on := 4, ground := Ground.phase }, { on := 5, ground := Ground.phase }, { on := 6, ground := Ground.phase }, { on := 7, ground := Ground.phase }, { on := 8, ground := Ground.phase }, { on := 9, ground := Ground.phase }, { on := 10, ground := Ground.phase }, { on := 11, ground := Ground.phase }, { on := 12, ground := Ground.phase }, { on := 13, ground := Ground.phase }, { on := 14, ground := Ground.phase }, { on := 15, ground := Ground.phase }, { on := 16, ground := Ground.phase }, { on := 17, ground := Ground.phase }], guard := none }) rfl (fun K hK => ?_) AllReadyH.nil
            go_simp
            refine hK.out _ _ ?_ (fun hHeld => ?_)
            · exact ⟨(hb7.cell (p := ⟨w.heap.size, 2, none⟩) (by simp <;> omega)).trans (by go_keep), (hb7.cell (p := ⟨w.heap.size, 3, none⟩) (by simp <;> omega)).trans (by go_keep), (hb7.cell (p := ⟨w.heap.size, 4, none⟩) (by simp <;> omega)).trans (by go_keep), (hb7.cell (p := ⟨w.heap.size + 1, 0, none⟩) (by simp <;> omega)).trans (by go_keep), (hb7.cell (p := ⟨w.heap.size + 1, 1, none⟩) (by simp <;> omega)).trans (by go_keep), (hb7.cell (p := ⟨w.heap.size + 1, 2, none⟩) (by simp <;> omega)).trans (by go_keep), (hb7.cell (p := ⟨w.heap.size + 1, 3, none⟩) (by simp <;> omega)).trans (by go_keep), (hb7.cell (p := ⟨w.heap.size + 1, 4, none⟩) (by simp <;> omega)).trans (by go_keep), (hb7.cell (p := ⟨w.heap.size + 1, 5, none⟩) (by simp <;> omega)).trans (by go_keep), (hb7.cell (p := ⟨w.heap.size + 1, 6, none⟩) (by simp <;> omega)).trans (by go_keep), (hb7.cell (p := ⟨w.heap.size + 1, 7, none⟩) (by simp <;> omega)).trans (by go_keep), (hb7.cell (p := ⟨w.heap.size + 1, 8, none⟩) (by simp <;> omega)).trans (by go_keep), (hb7.cell (p := ⟨w.heap.size + 1, 9, none⟩) (by simp <;> omega)).trans (by go_keep)⟩
            clear hK K
            try simp only [Act.put, List.setIfInBounds_toArray, List.set_cons_zero, List.set_cons_succ]
            refine wpAnyH_done (by kernel_rfl) ?_ _
            go_wp2
            go_ret
            exact ⟨by rw [E.out]; rfl, HB.drew.trans (hb7.mono HB.size)⟩
          have d : (az == p0) = false := beq_eq_false_iff_ne.2 hq
          have E := Lib.hid (show joinB ⟨ae, al, az, false, true⟩ ⟨0, 1, p0, false, true⟩ = false by unfold joinB endS; simp [hq])
          have HB : Below w.heap.size w ((w.alloc (.cells #[.int .i64 ae, .int .i64 al, .int .i64 az, .bool false, .bool true] 36)).alloc (.cells #[.int .i64 p0, .bool false, .int .i64 p2, .int .i64 p3, .int .i64 p4, .int .i64 p5, .int .i64 p6, .int .i64 p7, .int .i64 p8, .int .i64 p9] 53)) := ((Below.refl _ w).alloc (Nat.le_refl _) _).alloc (by simp) _
          try clear hq
          go_enter Try.func28, Try.ntmps28
          go_wp2
          refine wp_region_held_drew (S := (fun W => W.cell? ⟨w.heap.size, 2, none⟩ = some (.int .i64 az) ∧ W.cell? ⟨w.heap.size, 3, none⟩ = some (.bool false) ∧ W.cell? ⟨w.heap.size, 4, none⟩ = some (.bool true) ∧ W.cell? ⟨w.heap.size + 1, 0, none⟩ = some (.int .i64 p0) ∧ W.cell? ⟨w.heap.size + 1, 1, none⟩ = some (.bool false) ∧ W.cell? ⟨w.heap.size + 1, 2, none⟩ = some (.int .i64 p2) ∧ W.cell? ⟨w.heap.size + 1, 3, none⟩ = some (.int .i64 p3) ∧ W.cell? ⟨w.heap.size + 1, 4, none⟩ = some (.int .i64 p4) ∧ W.cell? ⟨w.heap.size + 1, 5, none⟩ = some (.int .i64 p5) ∧ W.cell? ⟨w.heap.size + 1, 6, none⟩ = some (.int .i64 p6) ∧ W.cell? ⟨w.heap.size + 1, 7, none⟩ = some (.int .i64 p7) ∧ W.cell? ⟨w.heap.size + 1, 8, none⟩ = some (.int .i64 p8) ∧ W.cell? ⟨w.heap.size + 1, 9, none⟩ = some (.int .i64 p9))) (by kernel_rfl) ?_ (fun hHeld => ?_)
          · go_keep
          try dsimp only at hHeld
          refine wpAnyH_take (i := 0) (oi := { dst := some 15, op := Op.fieldAddr 36 (Operand.tmp 2) 3, type := 0, pos := "ref.go:113", after := #[], guard := none }) (v := ?_) rfl (by kernel_rfl) (by kernel_rfl) (by kernel_rfl) (fun _ _ _ h => h) (Or.inl ⟨by rfl, ?_⟩) (by assumption) ?_
          rotate_left
          · intro wS hSw; go_split_ands; go_simp; first | done | with_reducible rfl
          simp only [Act.put, List.setIfInBounds_toArray, List.set_cons_zero, List.set_cons_succ]
          refine wpAnyH_take (i := 1) (oi := { dst := some 16, op := Op.load 4 (Operand.tmp 15), type := 4, pos := "ref.go:113", after := #[{ on := 0, ground := Ground.data }], guard := none }) (v := ?_) rfl (by kernel_rfl) (by kernel_rfl) (by kernel_rfl) (fun _ _ _ h => h) (Or.inl ⟨by rfl, ?_⟩) (by assumption) ?_
          rotate_left
          · intro wS hSw; go_split_ands; go_simp; first | done | with_reducible rfl
          simp only [Act.put, List.setIfInBounds_toArray, List.set_cons_zero, List.set_cons_succ]
          refine wpAnyH_take (i := 2) (oi := { dst := some 17, op := Op.fieldAddr 53 (Operand.tmp 3) 1, type := 0, pos := "ref.go:113", after := #[], guard := none }) (v := ?_) rfl (by kernel_rfl) (by kernel_rfl) (by kernel_rfl) (fun _ _ _ h => h) (Or.inl ⟨by rfl, ?_⟩) (by assumption) ?_
          rotate_left
          · intro wS hSw; go_split_ands; go_simp; first | done | with_reducible rfl
          simp only [Act.put, List.setIfInBounds_toArray, List.set_cons_zero, List.set_cons_succ]
          refine wpAnyH_take (i := 3) (oi := { dst := some 18, op := Op.load 4 (Operand.tmp 17), type := 4, pos := "ref.go:113", after := #[{ on := 2, ground := Ground.data }], guard := none }) (v := ?_) rfl (by kernel_rfl) (by kernel_rfl) (by kernel_rfl) (fun _ _ _ h => h) (Or.inl ⟨by rfl, ?_⟩) (by assumption) ?_
          rotate_left
          · intro wS hSw; go_split_ands; go_simp; first | done | with_reducible rfl
          simp only [Act.put, List.setIfInBounds_toArray, List.set_cons_zero, List.set_cons_succ]
          refine wpAnyH_take (i := 4) (oi := { dst := some 19, op := Op.binOp BinOp.eql 4 (Operand.tmp 16) (Operand.tmp 18) 4, type := 4, pos := "ref.go:113", after := #[{ on := 1, ground := Ground.data }, { on := 3, ground := Ground.data }], guard := none }) (v := ?_) rfl (by kernel_rfl) (by kernel_rfl) (by kernel_rfl) (fun _ _ _ h => h) (Or.inl ⟨by rfl, ?_⟩) (by assumption) ?_
          rotate_left
          · intro wS hSw; go_split_ands; go_simp; first | done | with_reducible rfl
          simp only [Act.put, List.setIfInBounds_toArray, List.set_cons_zero, List.set_cons_succ]
          refine wpAnyH_take (i := 5) (oi := { dst := some 20, op := Op.move (Operand.tmp 19), type := 4, pos := "ref.go:113", after := #[{ on := 4, ground := Ground.data }], guard := none }) (v := ?_) rfl (by kernel_rfl) (by kernel_rfl) (by kernel_rfl) (fun _ _ _ h => h) (Or.inl ⟨by rfl, ?_⟩) (by assumption) ?_
          rotate_left
          · intro wS hSw; go_split_ands; go_simp; first | done | with_reducible rfl
          simp only [Act.put, List.setIfInBounds_toArray, List.set_cons_zero, List.set_cons_succ]
          refine wpAnyH_take (i := 6) (oi := { dst := some 21, op := Op.fieldAddr 36 (Operand.tmp 2) 4, type := 0, pos := "ref.go:113", after := #[{ on := 5, ground := Ground.guard }], guard := some (5, true) }) (v := ?_) rfl (by kernel_rfl) (by kernel_rfl) (by kernel_rfl) (fun _ _ _ h => h) (Or.inl ⟨by rfl, ?_⟩) (by assumption) ?_
          rotate_left
          · intro wS hSw; go_split_ands; go_simp; first | done | with_reducible rfl
          simp only [Act.put, List.setIfInBounds_toArray, List.set_cons_zero, List.set_cons_succ]
          refine wpAnyH_take (i := 7) (oi := { dst := some 22, op := Op.load 4 (Operand.tmp 21), type := 4, pos := "ref.go:113", after := #[{ on := 6, ground := Ground.data }, { on := 5, ground := Ground.guard }], guard := some (5, true) }) (v := ?_) rfl (by kernel_rfl) (by kernel_rfl) (by kernel_rfl) (fun _ _ _ h => h) (Or.inl ⟨by rfl, ?_⟩) (by assumption) ?_
          rotate_left
          · intro wS hSw; go_split_ands; go_simp; first | done | with_reducible rfl
          simp only [Act.put, List.setIfInBounds_toArray, List.set_cons_zero, List.set_cons_succ]
          refine wpAnyH_take (i := 8) (oi := { dst := some 23, op := Op.load 53 (Operand.tmp 3), type := 53, pos := "ref.go:113", after := #[{ on := 5, ground := Ground.guard }], guard := some (5, true) }) (v := ?_) rfl (by kernel_rfl) (by kernel_rfl) (by kernel_rfl) (fun _ _ _ h => h) (Or.inl ⟨by rfl, ?_⟩) (by assumption) ?_
          rotate_left
          · intro wS hSw; go_split_ands; go_simp; first | done | with_reducible rfl
          simp only [Act.put, List.setIfInBounds_toArray, List.set_cons_zero, List.set_cons_succ]
          refine wpAnyH_ready (rs := [9]) (by kernel_rfl) (by simp) ?_
          refine AllReadyH.cons (o := { dst := some 24, op := Op.call { callee := Callee.value (Operand.func 25), args := #[Operand.tmp 23], argTypes := #[53] }, type := 4, pos := "ref.go:113", after := #[{ on := 8, ground := Ground.data }, { on := 5, ground := Ground.chain }, { on := 5, ground := Ground.guard }], guard := some (5, true) }) rfl (fun K hK => ?_) AllReadyH.nil
          go_simp
          go_at_call 25; refine (KR _).mono ?_; rintro e w7 ⟨rfl, hb7⟩
          refine hK.out _ _ ?_ (fun hHeld => ?_)
          · exact ⟨(hb7.cell (p := ⟨w.heap.size, 2, none⟩) (by simp <;> omega)).trans (by go_keep), (hb7.cell (p := ⟨w.heap.size, 3, none⟩) (by simp <;> omega)).trans (by go_keep), (hb7.cell (p := ⟨w.heap.size, 4, none⟩) (by simp <;> omega)).trans (by go_keep), (hb7.cell (p := ⟨w.heap.size + 1, 0, none⟩) (by simp <;> omega)).trans (by go_keep), (hb7.cell (p := ⟨w.heap.size + 1, 1, none⟩) (by simp <;> omega)).trans (by go_keep), (hb7.cell (p := ⟨w.heap.size + 1, 2, none⟩) (by simp <;> omega)).trans (by go_keep), (hb7.cell (p := ⟨w.heap.size + 1, 3, none⟩) (by simp <;> omega)).trans (by go_keep), (hb7.cell (p := ⟨w.heap.size + 1, 4, none⟩) (by simp <;> omega)).trans (by go_keep), (hb7.cell (p := ⟨w.heap.size + 1, 5, none⟩) (by simp <;> omega)).trans (by go_keep), (hb7.cell (p := ⟨w.heap.size + 1, 6, none⟩) (by simp <;> omega)).trans (by go_keep), (hb7.cell (p := ⟨w.heap.size + 1, 7, none⟩) (by simp <;> omega)).trans (by go_keep), (hb7.cell (p := ⟨w.heap.size + 1, 8, none⟩) (by simp <;> omega)).trans (by go_keep), (hb7.cell (p := ⟨w.heap.size + 1, 9, none⟩) (by simp <;> omega)).trans (by go_keep)⟩
          clear hK K
          try simp only [Act.put, List.setIfInBounds_toArray, List.set_cons_zero, List.set_cons_succ]
          refine wpAnyH_take (i := 10) (oi := { dst := some 25, op := Op.binOp BinOp.eql 4 (Operand.tmp 22) (Operand.tmp 24) 4, type := 4, pos := "ref.go:113", after := #[{ on := 7, ground := Ground.data }, { on := 9, ground := Ground.data }, { on := 5, ground := Ground.guard }], guard := some (5, true) }) (v := ?_) rfl (by kernel_rfl) (by kernel_rfl) (by kernel_rfl) (fun _ _ _ h => h) (Or.inl ⟨by rfl, ?_⟩) (by assumption) ?_
          rotate_left
          · intro wS hSw; go_split_ands; go_simp; first | done | with_reducible rfl
          simp only [Act.put, List.setIfInBounds_toArray, List.set_cons_zero, List.set_cons_succ]
          refine wpAnyH_take (i := 11) (oi := { dst := some 26, op := Op.pick (Operand.tmp 20) (Operand.tmp 25) (Operand.const (Value.bool false)), type := 4, pos := "ref.go:113", after := #[{ on := 5, ground := Ground.data }, { on := 10, ground := Ground.data }], guard := none }) (v := ?_) rfl (by kernel_rfl) (by kernel_rfl) (by kernel_rfl) (fun _ _ _ h => h) (Or.inl ⟨by rfl, ?_⟩) (by assumption) ?_
          rotate_left
          · intro wS hSw; go_split_ands; go_simp; first | done | with_reducible rfl
          simp only [Act.put, List.setIfInBounds_toArray, List.set_cons_zero, List.set_cons_succ]
          refine wpAnyH_take (i := 12) (oi := { dst := some 27, op := Op.move (Operand.tmp 26), type := 4, pos := "ref.go:113", after := #[{ on := 11, ground := Ground.data }, { on := 9, ground := Ground.chain }], guard := none }) (v := ?_) rfl (by kernel_rfl) (by kernel_rfl) (by kernel_rfl) (fun _ _ _ h => h) (Or.inl ⟨by rfl, ?_⟩) (by assumption) ?_
          rotate_left
          · intro wS hSw; go_split_ands; go_simp; first | done | with_reducible rfl
          simp only [Act.put, List.setIfInBounds_toArray, List.set_cons_zero, List.set_cons_succ]
          refine wpAnyH_take (i := 13) (oi := { dst := some 28, op := Op.move (Operand.tmp 5), type := 3, pos := "ref.go:113", after := #[{ on := 12, ground := Ground.guard }], guard := some (12, true) }) (v := ?_) rfl (by kernel_rfl) (by kernel_rfl) (by kernel_rfl) (fun _ _ _ h => h) (Or.inl ⟨by rfl, ?_⟩) (by assumption) ?_
          rotate_left
          · intro wS hSw; go_split_ands; go_simp; first | done | with_reducible rfl
          simp only [Act.put, List.setIfInBounds_toArray, List.set_cons_zero, List.set_cons_succ]
          refine wpAnyH_take (i := 14) (oi := { dst := some 29, op := Op.fieldAddr 53 (Operand.tmp 3) 0, type := 0, pos := "ref.go:113", after := #[{ on := 12, ground := Ground.guard }], guard := some (12, true) }) (v := ?_) rfl (by kernel_rfl) (by kernel_rfl) (by kernel_rfl) (fun _ _ _ h => h) (Or.inl ⟨by rfl, ?_⟩) (by assumption) ?_
          rotate_left
          · intro wS hSw; go_split_ands; go_simp; first | done | with_reducible rfl
          simp only [Act.put, List.setIfInBounds_toArray, List.set_cons_zero, List.set_cons_succ]
          refine wpAnyH_take (i := 15) (oi := { dst := some 30, op := Op.load 3 (Operand.tmp 29), type := 3, pos := "ref.go:113", after := #[{ on := 14, ground := Ground.data }, { on := 12, ground := Ground.guard }], guard := some (12, true) }) (v := ?_) rfl (by kernel_rfl) (by kernel_rfl) (by kernel_rfl) (fun _ _ _ h => h) (Or.inl ⟨by rfl, ?_⟩) (by assumption) ?_
          rotate_left
          · intro wS hSw; go_split_ands; go_simp; first | done | with_reducible rfl
          simp only [Act.put, List.setIfInBounds_toArray, List.set_cons_zero, List.set_cons_succ]
          refine wpAnyH_take (i := 16) (oi := { dst := some 31, op := Op.binOp BinOp.eql 3 (Operand.tmp 28) (Operand.tmp 30) 3, type := 4, pos := "ref.go:113", after := #[{ on := 13, ground := Ground.data }, { on := 15, ground := Ground.data }, { on := 12, ground := Ground.guard }], guard := some (12, true) }) (v := ?_) rfl (by kernel_rfl) (by kernel_rfl) (by kernel_rfl) (fun _ _ _ h => h) (Or.inl ⟨by rfl, ?_⟩) (by assumption) ?_
          rotate_left
          · intro wS hSw; go_split_ands; go_simp; first | done | with_reducible rfl
          simp only [Act.put, List.setIfInBounds_toArray, List.set_cons_zero, List.set_cons_succ]
          refine wpAnyH_take (i := 17) (oi := { dst := some 32, op := Op.pick (Operand.tmp 27) (Operand.tmp 31) (Operand.const (Value.bool false)), type := 4, pos := "ref.go:113", after := #[{ on := 12, ground := Ground.data }, { on := 16, ground := Ground.data }], guard := none }) (v := ?_) rfl (by kernel_rfl) (by kernel_rfl) (by kernel_rfl) (fun _ _ _ h => h) (Or.inl ⟨by rfl, ?_⟩) (by assumption) ?_
          rotate_left
          · intro wS hSw; go_split_ands; go_simp; first | done | with_reducible rfl
          simp only [Act.put, List.setIfInBounds_toArray, List.set_cons_zero, List.set_cons_succ]
          refine wpAnyH_ready (rs := [18]) (by kernel_rfl) (by simp) ?_
          refine AllReadyH.cons (o := { dst := some 4, op := Op.assign (Operand.tmp 32), type := 4, pos := "ref.go:113", after := #[{ on := 17, ground := Ground.data }, { on := 12, ground := Ground.chain }, { on := 0, ground := Ground.phase }, { on := 1, ground := Ground.phase }, { on := 2, ground := Ground.phase }, { on := 3, ground := Ground.phase }, { on := 4, ground := Ground.phase }, { on := 5, ground := Ground.phase }, { on := 6, ground := Ground.phase }, { on := 7, ground := Ground.phase }, { on := 8, ground := Ground.phase }, { on := 9, ground := Ground.phase }, { on := 10, ground := Ground.phase }, { on := 11, ground := Ground.phase }, { on := 12, ground := Ground.phase }, { on := 13, ground := Ground.phase }, { on := 14, ground := Ground.phase }, { on := 15, ground := Ground.phase }, { on := 16, ground := Ground.phase }, { on := 17, ground := Ground.phase }], guard := none }) rfl (fun K hK => ?_) AllReadyH.nil
          go_simp
          refine hK.out _ _ ?_ (fun hHeld => ?_)
          · exact ⟨(hb7.cell (p := ⟨w.heap.size, 2, none⟩) (by simp <;> omega)).trans (by go_keep), (hb7.cell (p := ⟨w.heap.size, 3, none⟩) (by simp <;> omega)).trans (by go_keep), (hb7.cell (p := ⟨w.heap.size, 4, none⟩) (by simp <;> omega)).trans (by go_keep), (hb7.cell (p := ⟨w.heap.size + 1, 0, none⟩) (by simp <;> omega)).trans (by go_keep), (hb7.cell (p := ⟨w.heap.size + 1, 1, none⟩) (by simp <;> omega)).trans (by go_keep), (hb7.cell (p := ⟨w.heap.size + 1, 2, none⟩) (by simp <;> omega)).trans (by go_keep), (hb7.cell (p := ⟨w.heap.size + 1, 3, none⟩) (by simp <;> omega)).trans (by go_keep), (hb7.cell (p := ⟨w.heap.size + 1, 4, none⟩) (by simp <;> omega)).trans (by go_keep), (hb7.cell (p := ⟨w.heap.size + 1, 5, none⟩) (by simp <;> omega)).trans (by go_keep), (hb7.cell (p := ⟨w.heap.size + 1, 6, none⟩) (by simp <;> omega)).trans (by go_keep), (hb7.cell (p := ⟨w.heap.size + 1, 7, none⟩) (by simp <;> omega)).trans (by go_keep), (hb7.cell (p := ⟨w.heap.size + 1, 8, none⟩) (by simp <;> omega)).trans (by go_keep), (hb7.cell (p := ⟨w.heap.size + 1, 9, none⟩) (by simp <;> omega)).trans (by go_keep)⟩
          clear hK K
          try simp only [Act.put, List.setIfInBounds_toArray, List.set_cons_zero, List.set_cons_succ]
          refine wpAnyH_done (by kernel_rfl) ?_ _
          go_wp2
          go_ret
          exact ⟨by rw [E.out]; rfl, HB.drew.trans (hb7.mono HB.size)⟩
    case true =>
      have E := Lib.hid (show joinB ⟨ae, al, az, false, ac⟩ ⟨0, 1, p0, true, rb⟩ = false by unfold joinB endS; simp)
      have HB : Below w.heap.size w ((w.alloc (.cells #[.int .i64 ae, .int .i64 al, .int .i64 az, .bool false, .bool ac] 36)).alloc (.cells #[.int .i64 p0, .bool true, .int .i64 p2, .int .i64 p3, .int .i64 p4, .int .i64 p5, .int .i64 p6, .int .i64 p7, .int .i64 p8, .int .i64 p9] 53)) := ((Below.refl _ w).alloc (Nat.le_refl _) _).alloc (by simp) _
      clear KR
      go_enter Try.func28, Try.ntmps28
      go_wp2
      go_quiet (fail)
      go_wp2
      go_ret
      exact ⟨by rw [E.out]; rfl, below_drewN HB _⟩
  case true =>
    cases p1
    case false =>
      have E := Lib.hid (show joinB ⟨ae, al, az, true, ac⟩ ⟨0, 1, p0, false, rb⟩ = false by unfold joinB endS; simp)
      have HB : Below w.heap.size w ((w.alloc (.cells #[.int .i64 ae, .int .i64 al, .int .i64 az, .bool true, .bool ac] 36)).alloc (.cells #[.int .i64 p0, .bool false, .int .i64 p2, .int .i64 p3, .int .i64 p4, .int .i64 p5, .int .i64 p6, .int .i64 p7, .int .i64 p8, .int .i64 p9] 53)) := ((Below.refl _ w).alloc (Nat.le_refl _) _).alloc (by simp) _
      clear KR
      go_enter Try.func28, Try.ntmps28
      go_wp2
      go_quiet (fail)
      go_wp2
      go_ret
      exact ⟨by rw [E.out]; rfl, below_drewN HB _⟩
    case true =>
      cases ac
      case false =>
        cases rb
        case false =>
          by_cases hq : az + al = p0
          case pos =>
            have d : (az + al == p0) = true := beq_iff_eq.2 hq
            have E := Lib.hid (show joinB ⟨ae, al, az, true, false⟩ ⟨0, 1, p0, true, false⟩ = true by unfold joinB endS; simp [hq])
            have HB : Below w.heap.size w ((w.alloc (.cells #[.int .i64 ae, .int .i64 al, .int .i64 az, .bool true, .bool false] 36)).alloc (.cells #[.int .i64 p0, .bool true, .int .i64 p2, .int .i64 p3, .int .i64 p4, .int .i64 p5, .int .i64 p6, .int .i64 p7, .int .i64 p8, .int .i64 p9] 53)) := ((Below.refl _ w).alloc (Nat.le_refl _) _).alloc (by simp) _
            try clear hq
            go_enter Try.func28, Try.ntmps28
            go_wp2
            refine wp_region_held_drew (S := (fun W => W.cell? ⟨w.heap.size, 2, none⟩ = some (.int .i64 az) ∧ W.cell? ⟨w.heap.size, 3, none⟩ = some (.bool true) ∧ W.cell? ⟨w.heap.size, 4, none⟩ = some (.bool false) ∧ W.cell? ⟨w.heap.size + 1, 0, none⟩ = some (.int .i64 p0) ∧ W.cell? ⟨w.heap.size + 1, 1, none⟩ = some (.bool true) ∧ W.cell? ⟨w.heap.size + 1, 2, none⟩ = some (.int .i64 p2) ∧ W.cell? ⟨w.heap.size + 1, 3, none⟩ = some (.int .i64 p3) ∧ W.cell? ⟨w.heap.size + 1, 4, none⟩ = some (.int .i64 p4) ∧ W.cell? ⟨w.heap.size + 1, 5, none⟩ = some (.int .i64 p5) ∧ W.cell? ⟨w.heap.size + 1, 6, none⟩ = some (.int .i64 p6) ∧ W.cell? ⟨w.heap.size + 1, 7, none⟩ = some (.int .i64 p7) ∧ W.cell? ⟨w.heap.size + 1, 8, none⟩ = some (.int .i64 p8) ∧ W.cell? ⟨w.heap.size + 1, 9, none⟩ = some (.int .i64 p9))) (by kernel_rfl) ?_ (fun hHeld => ?_)
            · go_keep
            try dsimp only at hHeld
            refine wpAnyH_take (i := 0) (oi := { dst := some 15, op := Op.fieldAddr 36 (Operand.tmp 2) 3, type := 0, pos := "ref.go:113", after := #[], guard := none }) (v := ?_) rfl (by kernel_rfl) (by kernel_rfl) (by kernel_rfl) (fun _ _ _ h => h) (Or.inl ⟨by rfl, ?_⟩) (by assumption) ?_
            rotate_left
            · intro wS hSw; go_split_ands; go_simp; first | done | with_reducible rfl
            simp only [Act.put, List.setIfInBounds_toArray, List.set_cons_zero, List.set_cons_succ]
            refine wpAnyH_take (i := 1) (oi := { dst := some 16, op := Op.load 4 (Operand.tmp 15), type := 4, pos := "ref.go:113", after := #[{ on := 0, ground := Ground.data }], guard := none }) (v := ?_) rfl (by kernel_rfl) (by kernel_rfl) (by kernel_rfl) (fun _ _ _ h => h) (Or.inl ⟨by rfl, ?_⟩) (by assumption) ?_
            rotate_left
            · intro wS hSw; go_split_ands; go_simp; first | done | with_reducible rfl
            simp only [Act.put, List.setIfInBounds_toArray, List.set_cons_zero, List.set_cons_succ]
            refine wpAnyH_take (i := 2) (oi := { dst := some 17, op := Op.fieldAddr 53 (Operand.tmp 3) 1, type := 0, pos := "ref.go:113", after := #[], guard := none }) (v := ?_) rfl (by kernel_rfl) (by kernel_rfl) (by kernel_rfl) (fun _ _ _ h => h) (Or.inl ⟨by rfl, ?_⟩) (by assumption) ?_
            rotate_left
            · intro wS hSw; go_split_ands; go_simp; first | done | with_reducible rfl
            simp only [Act.put, List.setIfInBounds_toArray, List.set_cons_zero, List.set_cons_succ]
            refine wpAnyH_take (i := 3) (oi := { dst := some 18, op := Op.load 4 (Operand.tmp 17), type := 4, pos := "ref.go:113", after := #[{ on := 2, ground := Ground.data }], guard := none }) (v := ?_) rfl (by kernel_rfl) (by kernel_rfl) (by kernel_rfl) (fun _ _ _ h => h) (Or.inl ⟨by rfl, ?_⟩) (by assumption) ?_
            rotate_left
            · intro wS hSw; go_split_ands; go_simp; first | done | with_reducible rfl
            simp only [Act.put, List.setIfInBounds_toArray, List.set_cons_zero, List.set_cons_succ]
            refine wpAnyH_take (i := 4) (oi := { dst := some 19, op := Op.binOp BinOp.eql 4 (Operand.tmp 16) (Operand.tmp 18) 4, type := 4, pos := "ref.go:113", after := #[{ on := 1, ground := Ground.data }, { on := 3, ground := Ground.data }], guard := none }) (v := ?_) rfl (by kernel_rfl) (by kernel_rfl) (by kernel_rfl) (fun _ _ _ h => h) (Or.inl ⟨by rfl, ?_⟩) (by assumption) ?_
            rotate_left
            · intro wS hSw; go_split_ands; go_simp; first | done | with_reducible rfl
            simp only [Act.put, List.setIfInBounds_toArray, List.set_cons_zero, List.set_cons_succ]
            refine wpAnyH_take (i := 5) (oi := { dst := some 20, op := Op.move (Operand.tmp 19), type := 4, pos := "ref.go:113", after := #[{ on := 4, ground := Ground.data }], guard := none }) (v := ?_) rfl (by kernel_rfl) (by kernel_rfl) (by kernel_rfl) (fun _ _ _ h => h) (Or.inl ⟨by rfl, ?_⟩) (by assumption) ?_
            rotate_left
            · intro wS hSw; go_split_ands; go_simp; first | done | with_reducible rfl
            simp only [Act.put, List.setIfInBounds_toArray, List.set_cons_zero, List.set_cons_succ]
            refine wpAnyH_take (i := 6) (oi := { dst := some 21, op := Op.fieldAddr 36 (Operand.tmp 2) 4, type := 0, pos := "ref.go:113", after := #[{ on := 5, ground := Ground.guard }], guard := some (5, true) }) (v := ?_) rfl (by kernel_rfl) (by kernel_rfl) (by kernel_rfl) (fun _ _ _ h => h) (Or.inl ⟨by rfl, ?_⟩) (by assumption) ?_
            rotate_left
            · intro wS hSw; go_split_ands; go_simp; first | done | with_reducible rfl
            simp only [Act.put, List.setIfInBounds_toArray, List.set_cons_zero, List.set_cons_succ]
            refine wpAnyH_take (i := 7) (oi := { dst := some 22, op := Op.load 4 (Operand.tmp 21), type := 4, pos := "ref.go:113", after := #[{ on := 6, ground := Ground.data }, { on := 5, ground := Ground.guard }], guard := some (5, true) }) (v := ?_) rfl (by kernel_rfl) (by kernel_rfl) (by kernel_rfl) (fun _ _ _ h => h) (Or.inl ⟨by rfl, ?_⟩) (by assumption) ?_
            rotate_left
            · intro wS hSw; go_split_ands; go_simp; first | done | with_reducible rfl
            simp only [Act.put, List.setIfInBounds_toArray, List.set_cons_zero, List.set_cons_succ]
            refine wpAnyH_take (i := 8) (oi := { dst := some 23, op := Op.load 53 (Operand.tmp 3), type := 53, pos := "ref.go:113", after := #[{ on := 5, ground := Ground.guard }], guard := some (5, true) }) (v := ?_) rfl (by kernel_rfl) (by kernel_rfl) (by kernel_rfl) (fun _ _ _ h => h) (Or.inl ⟨by rfl, ?_⟩) (by assumption) ?_
            rotate_left
            · intro wS hSw; go_split_ands; go_simp; first | done | with_reducible rfl
            simp only [Act.put, List.setIfInBounds_toArray, List.set_cons_zero, List.set_cons_succ]
            refine wpAnyH_ready (rs := [9]) (by kernel_rfl) (by simp) ?_
            refine AllReadyH.cons (o := { dst := some 24, op := Op.call { callee := Callee.value (Operand.func 25), args := #[Operand.tmp 23], argTypes := #[53] }, type := 4, pos := "ref.go:113", after := #[{ on := 8, ground := Ground.data }, { on := 5, ground := Ground.chain }, { on := 5, ground := Ground.guard }], guard := some (5, true) }) rfl (fun K hK => ?_) AllReadyH.nil
            go_simp
            go_at_call 25; refine (KR _).mono ?_; rintro e w7 ⟨rfl, hb7⟩
            refine hK.out _ _ ?_ (fun hHeld => ?_)
            · exact ⟨(hb7.cell (p := ⟨w.heap.size, 2, none⟩) (by simp <;> omega)).trans (by go_keep), (hb7.cell (p := ⟨w.heap.size, 3, none⟩) (by simp <;> omega)).trans (by go_keep), (hb7.cell (p := ⟨w.heap.size, 4, none⟩) (by simp <;> omega)).trans (by go_keep), (hb7.cell (p := ⟨w.heap.size + 1, 0, none⟩) (by simp <;> omega)).trans (by go_keep), (hb7.cell (p := ⟨w.heap.size + 1, 1, none⟩) (by simp <;> omega)).trans (by go_keep), (hb7.cell (p := ⟨w.heap.size + 1, 2, none⟩) (by simp <;> omega)).trans (by go_keep), (hb7.cell (p := ⟨w.heap.size + 1, 3, none⟩) (by simp <;> omega)).trans (by go_keep), (hb7.cell (p := ⟨w.heap.size + 1, 4, none⟩) (by simp <;> omega)).trans (by go_keep), (hb7.cell (p := ⟨w.heap.size + 1, 5, none⟩) (by simp <;> omega)).trans (by go_keep), (hb7.cell (p := ⟨w.heap.size + 1, 6, none⟩) (by simp <;> omega)).trans (by go_keep), (hb7.cell (p := ⟨w.heap.size + 1, 7, none⟩) (by simp <;> omega)).trans (by go_keep), (hb7.cell (p := ⟨w.heap.size + 1, 8, none⟩) (by simp <;> omega)).trans (by go_keep), (hb7.cell (p := ⟨w.heap.size + 1, 9, none⟩) (by simp <;> omega)).trans (by go_keep)⟩
            clear hK K
            try simp only [Act.put, List.setIfInBounds_toArray, List.set_cons_zero, List.set_cons_succ]
            refine wpAnyH_take (i := 10) (oi := { dst := some 25, op := Op.binOp BinOp.eql 4 (Operand.tmp 22) (Operand.tmp 24) 4, type := 4, pos := "ref.go:113", after := #[{ on := 7, ground := Ground.data }, { on := 9, ground := Ground.data }, { on := 5, ground := Ground.guard }], guard := some (5, true) }) (v := ?_) rfl (by kernel_rfl) (by kernel_rfl) (by kernel_rfl) (fun _ _ _ h => h) (Or.inl ⟨by rfl, ?_⟩) (by assumption) ?_
            rotate_left
            · intro wS hSw; go_split_ands; go_simp; first | done | with_reducible rfl
            simp only [Act.put, List.setIfInBounds_toArray, List.set_cons_zero, List.set_cons_succ]
            refine wpAnyH_take (i := 11) (oi := { dst := some 26, op := Op.pick (Operand.tmp 20) (Operand.tmp 25) (Operand.const (Value.bool false)), type := 4, pos := "ref.go:113", after := #[{ on := 5, ground := Ground.data }, { on := 10, ground := Ground.data }], guard := none }) (v := ?_) rfl (by kernel_rfl) (by kernel_rfl) (by kernel_rfl) (fun _ _ _ h => h) (Or.inl ⟨by rfl, ?_⟩) (by assumption) ?_
            rotate_left
            · intro wS hSw; go_split_ands; go_simp; first | done | with_reducible rfl
            simp only [Act.put, List.setIfInBounds_toArray, List.set_cons_zero, List.set_cons_succ]
            refine wpAnyH_take (i := 12) (oi := { dst := some 27, op := Op.move (Operand.tmp 26), type := 4, pos := "ref.go:113", after := #[{ on := 11, ground := Ground.data }, { on := 9, ground := Ground.chain }], guard := none }) (v := ?_) rfl (by kernel_rfl) (by kernel_rfl) (by kernel_rfl) (fun _ _ _ h => h) (Or.inl ⟨by rfl, ?_⟩) (by assumption) ?_
            rotate_left
            · intro wS hSw; go_split_ands; go_simp; first | done | with_reducible rfl
            simp only [Act.put, List.setIfInBounds_toArray, List.set_cons_zero, List.set_cons_succ]
            refine wpAnyH_take (i := 13) (oi := { dst := some 28, op := Op.move (Operand.tmp 5), type := 3, pos := "ref.go:113", after := #[{ on := 12, ground := Ground.guard }], guard := some (12, true) }) (v := ?_) rfl (by kernel_rfl) (by kernel_rfl) (by kernel_rfl) (fun _ _ _ h => h) (Or.inl ⟨by rfl, ?_⟩) (by assumption) ?_
            rotate_left
            · intro wS hSw; go_split_ands; go_simp; first | done | with_reducible rfl
            simp only [Act.put, List.setIfInBounds_toArray, List.set_cons_zero, List.set_cons_succ]
            refine wpAnyH_take (i := 14) (oi := { dst := some 29, op := Op.fieldAddr 53 (Operand.tmp 3) 0, type := 0, pos := "ref.go:113", after := #[{ on := 12, ground := Ground.guard }], guard := some (12, true) }) (v := ?_) rfl (by kernel_rfl) (by kernel_rfl) (by kernel_rfl) (fun _ _ _ h => h) (Or.inl ⟨by rfl, ?_⟩) (by assumption) ?_
            rotate_left
            · intro wS hSw; go_split_ands; go_simp; first | done | with_reducible rfl
            simp only [Act.put, List.setIfInBounds_toArray, List.set_cons_zero, List.set_cons_succ]
            refine wpAnyH_take (i := 15) (oi := { dst := some 30, op := Op.load 3 (Operand.tmp 29), type := 3, pos := "ref.go:113", after := #[{ on := 14, ground := Ground.data }, { on := 12, ground := Ground.guard }], guard := some (12, true) }) (v := ?_) rfl (by kernel_rfl) (by kernel_rfl) (by kernel_rfl) (fun _ _ _ h => h) (Or.inl ⟨by rfl, ?_⟩) (by assumption) ?_
            rotate_left
            · intro wS hSw; go_split_ands; go_simp; first | done | with_reducible rfl
            simp only [Act.put, List.setIfInBounds_toArray, List.set_cons_zero, List.set_cons_succ]
            refine wpAnyH_take (i := 16) (oi := { dst := some 31, op := Op.binOp BinOp.eql 3 (Operand.tmp 28) (Operand.tmp 30) 3, type := 4, pos := "ref.go:113", after := #[{ on := 13, ground := Ground.data }, { on := 15, ground := Ground.data }, { on := 12, ground := Ground.guard }], guard := some (12, true) }) (v := ?_) rfl (by kernel_rfl) (by kernel_rfl) (by kernel_rfl) (fun _ _ _ h => h) (Or.inl ⟨by rfl, ?_⟩) (by assumption) ?_
            rotate_left
            · intro wS hSw; go_split_ands; go_simp; first | done | with_reducible rfl
            simp only [Act.put, List.setIfInBounds_toArray, List.set_cons_zero, List.set_cons_succ]
            refine wpAnyH_take (i := 17) (oi := { dst := some 32, op := Op.pick (Operand.tmp 27) (Operand.tmp 31) (Operand.const (Value.bool false)), type := 4, pos := "ref.go:113", after := #[{ on := 12, ground := Ground.data }, { on := 16, ground := Ground.data }], guard := none }) (v := ?_) rfl (by kernel_rfl) (by kernel_rfl) (by kernel_rfl) (fun _ _ _ h => h) (Or.inl ⟨by rfl, ?_⟩) (by assumption) ?_
            rotate_left
            · intro wS hSw; go_split_ands; go_simp; first | done | with_reducible rfl
            simp only [Act.put, List.setIfInBounds_toArray, List.set_cons_zero, List.set_cons_succ]
            refine wpAnyH_ready (rs := [18]) (by kernel_rfl) (by simp) ?_
            refine AllReadyH.cons (o := { dst := some 4, op := Op.assign (Operand.tmp 32), type := 4, pos := "ref.go:113", after := #[{ on := 17, ground := Ground.data }, { on := 12, ground := Ground.chain }, { on := 0, ground := Ground.phase }, { on := 1, ground := Ground.phase }, { on := 2, ground := Ground.phase }, { on := 3, ground := Ground.phase }, { on := 4, ground := Ground.phase }, { on := 5, ground := Ground.phase }, { on := 6, ground := Ground.phase }, { on := 7, ground := Ground.phase }, { on := 8, ground := Ground.phase }, { on := 9, ground := Ground.phase }, { on := 10, ground := Ground.phase }, { on := 11, ground := Ground.phase }, { on := 12, ground := Ground.phase }, { on := 13, ground := Ground.phase }, { on := 14, ground := Ground.phase }, { on := 15, ground := Ground.phase }, { on := 16, ground := Ground.phase }, { on := 17, ground := Ground.phase }], guard := none }) rfl (fun K hK => ?_) AllReadyH.nil
            go_simp
            refine hK.out _ _ ?_ (fun hHeld => ?_)
            · exact ⟨(hb7.cell (p := ⟨w.heap.size, 2, none⟩) (by simp <;> omega)).trans (by go_keep), (hb7.cell (p := ⟨w.heap.size, 3, none⟩) (by simp <;> omega)).trans (by go_keep), (hb7.cell (p := ⟨w.heap.size, 4, none⟩) (by simp <;> omega)).trans (by go_keep), (hb7.cell (p := ⟨w.heap.size + 1, 0, none⟩) (by simp <;> omega)).trans (by go_keep), (hb7.cell (p := ⟨w.heap.size + 1, 1, none⟩) (by simp <;> omega)).trans (by go_keep), (hb7.cell (p := ⟨w.heap.size + 1, 2, none⟩) (by simp <;> omega)).trans (by go_keep), (hb7.cell (p := ⟨w.heap.size + 1, 3, none⟩) (by simp <;> omega)).trans (by go_keep), (hb7.cell (p := ⟨w.heap.size + 1, 4, none⟩) (by simp <;> omega)).trans (by go_keep), (hb7.cell (p := ⟨w.heap.size + 1, 5, none⟩) (by simp <;> omega)).trans (by go_keep), (hb7.cell (p := ⟨w.heap.size + 1, 6, none⟩) (by simp <;> omega)).trans (by go_keep), (hb7.cell (p := ⟨w.heap.size + 1, 7, none⟩) (by simp <;> omega)).trans (by go_keep), (hb7.cell (p := ⟨w.heap.size + 1, 8, none⟩) (by simp <;> omega)).trans (by go_keep), (hb7.cell (p := ⟨w.heap.size + 1, 9, none⟩) (by simp <;> omega)).trans (by go_keep)⟩
            clear hK K
            try simp only [Act.put, List.setIfInBounds_toArray, List.set_cons_zero, List.set_cons_succ]
            refine wpAnyH_done (by kernel_rfl) ?_ _
            go_wp2
            go_ret
            exact ⟨by rw [E.out]; rfl, HB.drew.trans (hb7.mono HB.size)⟩
          have d : (az + al == p0) = false := beq_eq_false_iff_ne.2 hq
          have E := Lib.hid (show joinB ⟨ae, al, az, true, false⟩ ⟨0, 1, p0, true, false⟩ = false by unfold joinB endS; simp [hq])
          have HB : Below w.heap.size w ((w.alloc (.cells #[.int .i64 ae, .int .i64 al, .int .i64 az, .bool true, .bool false] 36)).alloc (.cells #[.int .i64 p0, .bool true, .int .i64 p2, .int .i64 p3, .int .i64 p4, .int .i64 p5, .int .i64 p6, .int .i64 p7, .int .i64 p8, .int .i64 p9] 53)) := ((Below.refl _ w).alloc (Nat.le_refl _) _).alloc (by simp) _
          try clear hq
          go_enter Try.func28, Try.ntmps28
          go_wp2
          refine wp_region_held_drew (S := (fun W => W.cell? ⟨w.heap.size, 2, none⟩ = some (.int .i64 az) ∧ W.cell? ⟨w.heap.size, 3, none⟩ = some (.bool true) ∧ W.cell? ⟨w.heap.size, 4, none⟩ = some (.bool false) ∧ W.cell? ⟨w.heap.size + 1, 0, none⟩ = some (.int .i64 p0) ∧ W.cell? ⟨w.heap.size + 1, 1, none⟩ = some (.bool true) ∧ W.cell? ⟨w.heap.size + 1, 2, none⟩ = some (.int .i64 p2) ∧ W.cell? ⟨w.heap.size + 1, 3, none⟩ = some (.int .i64 p3) ∧ W.cell? ⟨w.heap.size + 1, 4, none⟩ = some (.int .i64 p4) ∧ W.cell? ⟨w.heap.size + 1, 5, none⟩ = some (.int .i64 p5) ∧ W.cell? ⟨w.heap.size + 1, 6, none⟩ = some (.int .i64 p6) ∧ W.cell? ⟨w.heap.size + 1, 7, none⟩ = some (.int .i64 p7) ∧ W.cell? ⟨w.heap.size + 1, 8, none⟩ = some (.int .i64 p8) ∧ W.cell? ⟨w.heap.size + 1, 9, none⟩ = some (.int .i64 p9))) (by kernel_rfl) ?_ (fun hHeld => ?_)
          · go_keep
          try dsimp only at hHeld
          refine wpAnyH_take (i := 0) (oi := { dst := some 15, op := Op.fieldAddr 36 (Operand.tmp 2) 3, type := 0, pos := "ref.go:113", after := #[], guard := none }) (v := ?_) rfl (by kernel_rfl) (by kernel_rfl) (by kernel_rfl) (fun _ _ _ h => h) (Or.inl ⟨by rfl, ?_⟩) (by assumption) ?_
          rotate_left
          · intro wS hSw; go_split_ands; go_simp; first | done | with_reducible rfl
          simp only [Act.put, List.setIfInBounds_toArray, List.set_cons_zero, List.set_cons_succ]
          refine wpAnyH_take (i := 1) (oi := { dst := some 16, op := Op.load 4 (Operand.tmp 15), type := 4, pos := "ref.go:113", after := #[{ on := 0, ground := Ground.data }], guard := none }) (v := ?_) rfl (by kernel_rfl) (by kernel_rfl) (by kernel_rfl) (fun _ _ _ h => h) (Or.inl ⟨by rfl, ?_⟩) (by assumption) ?_
          rotate_left
          · intro wS hSw; go_split_ands; go_simp; first | done | with_reducible rfl
          simp only [Act.put, List.setIfInBounds_toArray, List.set_cons_zero, List.set_cons_succ]
          refine wpAnyH_take (i := 2) (oi := { dst := some 17, op := Op.fieldAddr 53 (Operand.tmp 3) 1, type := 0, pos := "ref.go:113", after := #[], guard := none }) (v := ?_) rfl (by kernel_rfl) (by kernel_rfl) (by kernel_rfl) (fun _ _ _ h => h) (Or.inl ⟨by rfl, ?_⟩) (by assumption) ?_
          rotate_left
          · intro wS hSw; go_split_ands; go_simp; first | done | with_reducible rfl
          simp only [Act.put, List.setIfInBounds_toArray, List.set_cons_zero, List.set_cons_succ]
          refine wpAnyH_take (i := 3) (oi := { dst := some 18, op := Op.load 4 (Operand.tmp 17), type := 4, pos := "ref.go:113", after := #[{ on := 2, ground := Ground.data }], guard := none }) (v := ?_) rfl (by kernel_rfl) (by kernel_rfl) (by kernel_rfl) (fun _ _ _ h => h) (Or.inl ⟨by rfl, ?_⟩) (by assumption) ?_
          rotate_left
          · intro wS hSw; go_split_ands; go_simp; first | done | with_reducible rfl
          simp only [Act.put, List.setIfInBounds_toArray, List.set_cons_zero, List.set_cons_succ]
          refine wpAnyH_take (i := 4) (oi := { dst := some 19, op := Op.binOp BinOp.eql 4 (Operand.tmp 16) (Operand.tmp 18) 4, type := 4, pos := "ref.go:113", after := #[{ on := 1, ground := Ground.data }, { on := 3, ground := Ground.data }], guard := none }) (v := ?_) rfl (by kernel_rfl) (by kernel_rfl) (by kernel_rfl) (fun _ _ _ h => h) (Or.inl ⟨by rfl, ?_⟩) (by assumption) ?_
          rotate_left
          · intro wS hSw; go_split_ands; go_simp; first | done | with_reducible rfl
          simp only [Act.put, List.setIfInBounds_toArray, List.set_cons_zero, List.set_cons_succ]
          refine wpAnyH_take (i := 5) (oi := { dst := some 20, op := Op.move (Operand.tmp 19), type := 4, pos := "ref.go:113", after := #[{ on := 4, ground := Ground.data }], guard := none }) (v := ?_) rfl (by kernel_rfl) (by kernel_rfl) (by kernel_rfl) (fun _ _ _ h => h) (Or.inl ⟨by rfl, ?_⟩) (by assumption) ?_
          rotate_left
          · intro wS hSw; go_split_ands; go_simp; first | done | with_reducible rfl
          simp only [Act.put, List.setIfInBounds_toArray, List.set_cons_zero, List.set_cons_succ]
          refine wpAnyH_take (i := 6) (oi := { dst := some 21, op := Op.fieldAddr 36 (Operand.tmp 2) 4, type := 0, pos := "ref.go:113", after := #[{ on := 5, ground := Ground.guard }], guard := some (5, true) }) (v := ?_) rfl (by kernel_rfl) (by kernel_rfl) (by kernel_rfl) (fun _ _ _ h => h) (Or.inl ⟨by rfl, ?_⟩) (by assumption) ?_
          rotate_left
          · intro wS hSw; go_split_ands; go_simp; first | done | with_reducible rfl
          simp only [Act.put, List.setIfInBounds_toArray, List.set_cons_zero, List.set_cons_succ]
          refine wpAnyH_take (i := 7) (oi := { dst := some 22, op := Op.load 4 (Operand.tmp 21), type := 4, pos := "ref.go:113", after := #[{ on := 6, ground := Ground.data }, { on := 5, ground := Ground.guard }], guard := some (5, true) }) (v := ?_) rfl (by kernel_rfl) (by kernel_rfl) (by kernel_rfl) (fun _ _ _ h => h) (Or.inl ⟨by rfl, ?_⟩) (by assumption) ?_
          rotate_left
          · intro wS hSw; go_split_ands; go_simp; first | done | with_reducible rfl
          simp only [Act.put, List.setIfInBounds_toArray, List.set_cons_zero, List.set_cons_succ]
          refine wpAnyH_take (i := 8) (oi := { dst := some 23, op := Op.load 53 (Operand.tmp 3), type := 53, pos := "ref.go:113", after := #[{ on := 5, ground := Ground.guard }], guard := some (5, true) }) (v := ?_) rfl (by kernel_rfl) (by kernel_rfl) (by kernel_rfl) (fun _ _ _ h => h) (Or.inl ⟨by rfl, ?_⟩) (by assumption) ?_
          rotate_left
          · intro wS hSw; go_split_ands; go_simp; first | done | with_reducible rfl
          simp only [Act.put, List.setIfInBounds_toArray, List.set_cons_zero, List.set_cons_succ]
          refine wpAnyH_ready (rs := [9]) (by kernel_rfl) (by simp) ?_
          refine AllReadyH.cons (o := { dst := some 24, op := Op.call { callee := Callee.value (Operand.func 25), args := #[Operand.tmp 23], argTypes := #[53] }, type := 4, pos := "ref.go:113", after := #[{ on := 8, ground := Ground.data }, { on := 5, ground := Ground.chain }, { on := 5, ground := Ground.guard }], guard := some (5, true) }) rfl (fun K hK => ?_) AllReadyH.nil
          go_simp
          go_at_call 25; refine (KR _).mono ?_; rintro e w7 ⟨rfl, hb7⟩
          refine hK.out _ _ ?_ (fun hHeld => ?_)
          · exact ⟨(hb7.cell (p := ⟨w.heap.size, 2, none⟩) (by simp <;> omega)).trans (by go_keep), (hb7.cell (p := ⟨w.heap.size, 3, none⟩) (by simp <;> omega)).trans (by go_keep), (hb7.cell (p := ⟨w.heap.size, 4, none⟩) (by simp <;> omega)).trans (by go_keep), (hb7.cell (p := ⟨w.heap.size + 1, 0, none⟩) (by simp <;> omega)).trans (by go_keep), (hb7.cell (p := ⟨w.heap.size + 1, 1, none⟩) (by simp <;> omega)).trans (by go_keep), (hb7.cell (p := ⟨w.heap.size + 1, 2, none⟩) (by simp <;> omega)).trans (by go_keep), (hb7.cell (p := ⟨w.heap.size + 1, 3, none⟩) (by simp <;> omega)).trans (by go_keep), (hb7.cell (p := ⟨w.heap.size + 1, 4, none⟩) (by simp <;> omega)).trans (by go_keep), (hb7.cell (p := ⟨w.heap.size + 1, 5, none⟩) (by simp <;> omega)).trans (by go_keep), (hb7.cell (p := ⟨w.heap.size + 1, 6, none⟩) (by simp <;> omega)).trans (by go_keep), (hb7.cell (p := ⟨w.heap.size + 1, 7, none⟩) (by simp <;> omega)).trans (by go_keep), (hb7.cell (p := ⟨w.heap.size + 1, 8, none⟩) (by simp <;> omega)).trans (by go_keep), (hb7.cell (p := ⟨w.heap.size + 1, 9, none⟩) (by simp <;> omega)).trans (by go_keep)⟩
          clear hK K
          try simp only [Act.put, List.setIfInBounds_toArray, List.set_cons_zero, List.set_cons_succ]
          refine wpAnyH_take (i := 10) (oi := { dst := some 25, op := Op.binOp BinOp.eql 4 (Operand.tmp 22) (Operand.tmp 24) 4, type := 4, pos := "ref.go:113", after := #[{ on := 7, ground := Ground.data }, { on := 9, ground := Ground.data }, { on := 5, ground := Ground.guard }], guard := some (5, true) }) (v := ?_) rfl (by kernel_rfl) (by kernel_rfl) (by kernel_rfl) (fun _ _ _ h => h) (Or.inl ⟨by rfl, ?_⟩) (by assumption) ?_
          rotate_left
          · intro wS hSw; go_split_ands; go_simp; first | done | with_reducible rfl
          simp only [Act.put, List.setIfInBounds_toArray, List.set_cons_zero, List.set_cons_succ]
          refine wpAnyH_take (i := 11) (oi := { dst := some 26, op := Op.pick (Operand.tmp 20) (Operand.tmp 25) (Operand.const (Value.bool false)), type := 4, pos := "ref.go:113", after := #[{ on := 5, ground := Ground.data }, { on := 10, ground := Ground.data }], guard := none }) (v := ?_) rfl (by kernel_rfl) (by kernel_rfl) (by kernel_rfl) (fun _ _ _ h => h) (Or.inl ⟨by rfl, ?_⟩) (by assumption) ?_
          rotate_left
          · intro wS hSw; go_split_ands; go_simp; first | done | with_reducible rfl
          simp only [Act.put, List.setIfInBounds_toArray, List.set_cons_zero, List.set_cons_succ]
          refine wpAnyH_take (i := 12) (oi := { dst := some 27, op := Op.move (Operand.tmp 26), type := 4, pos := "ref.go:113", after := #[{ on := 11, ground := Ground.data }, { on := 9, ground := Ground.chain }], guard := none }) (v := ?_) rfl (by kernel_rfl) (by kernel_rfl) (by kernel_rfl) (fun _ _ _ h => h) (Or.inl ⟨by rfl, ?_⟩) (by assumption) ?_
          rotate_left
          · intro wS hSw; go_split_ands; go_simp; first | done | with_reducible rfl
          simp only [Act.put, List.setIfInBounds_toArray, List.set_cons_zero, List.set_cons_succ]
          refine wpAnyH_take (i := 13) (oi := { dst := some 28, op := Op.move (Operand.tmp 5), type := 3, pos := "ref.go:113", after := #[{ on := 12, ground := Ground.guard }], guard := some (12, true) }) (v := ?_) rfl (by kernel_rfl) (by kernel_rfl) (by kernel_rfl) (fun _ _ _ h => h) (Or.inl ⟨by rfl, ?_⟩) (by assumption) ?_
          rotate_left
          · intro wS hSw; go_split_ands; go_simp; first | done | with_reducible rfl
          simp only [Act.put, List.setIfInBounds_toArray, List.set_cons_zero, List.set_cons_succ]
          refine wpAnyH_take (i := 14) (oi := { dst := some 29, op := Op.fieldAddr 53 (Operand.tmp 3) 0, type := 0, pos := "ref.go:113", after := #[{ on := 12, ground := Ground.guard }], guard := some (12, true) }) (v := ?_) rfl (by kernel_rfl) (by kernel_rfl) (by kernel_rfl) (fun _ _ _ h => h) (Or.inl ⟨by rfl, ?_⟩) (by assumption) ?_
          rotate_left
          · intro wS hSw; go_split_ands; go_simp; first | done | with_reducible rfl
          simp only [Act.put, List.setIfInBounds_toArray, List.set_cons_zero, List.set_cons_succ]
          refine wpAnyH_take (i := 15) (oi := { dst := some 30, op := Op.load 3 (Operand.tmp 29), type := 3, pos := "ref.go:113", after := #[{ on := 14, ground := Ground.data }, { on := 12, ground := Ground.guard }], guard := some (12, true) }) (v := ?_) rfl (by kernel_rfl) (by kernel_rfl) (by kernel_rfl) (fun _ _ _ h => h) (Or.inl ⟨by rfl, ?_⟩) (by assumption) ?_
          rotate_left
          · intro wS hSw; go_split_ands; go_simp; first | done | with_reducible rfl
          simp only [Act.put, List.setIfInBounds_toArray, List.set_cons_zero, List.set_cons_succ]
          refine wpAnyH_take (i := 16) (oi := { dst := some 31, op := Op.binOp BinOp.eql 3 (Operand.tmp 28) (Operand.tmp 30) 3, type := 4, pos := "ref.go:113", after := #[{ on := 13, ground := Ground.data }, { on := 15, ground := Ground.data }, { on := 12, ground := Ground.guard }], guard := some (12, true) }) (v := ?_) rfl (by kernel_rfl) (by kernel_rfl) (by kernel_rfl) (fun _ _ _ h => h) (Or.inl ⟨by rfl, ?_⟩) (by assumption) ?_
          rotate_left
          · intro wS hSw; go_split_ands; go_simp; first | done | with_reducible rfl
          simp only [Act.put, List.setIfInBounds_toArray, List.set_cons_zero, List.set_cons_succ]
          refine wpAnyH_take (i := 17) (oi := { dst := some 32, op := Op.pick (Operand.tmp 27) (Operand.tmp 31) (Operand.const (Value.bool false)), type := 4, pos := "ref.go:113", after := #[{ on := 12, ground := Ground.data }, { on := 16, ground := Ground.data }], guard := none }) (v := ?_) rfl (by kernel_rfl) (by kernel_rfl) (by kernel_rfl) (fun _ _ _ h => h) (Or.inl ⟨by rfl, ?_⟩) (by assumption) ?_
          rotate_left
          · intro wS hSw; go_split_ands; go_simp; first | done | with_reducible rfl
          simp only [Act.put, List.setIfInBounds_toArray, List.set_cons_zero, List.set_cons_succ]
          refine wpAnyH_ready (rs := [18]) (by kernel_rfl) (by simp) ?_
          refine AllReadyH.cons (o := { dst := some 4, op := Op.assign (Operand.tmp 32), type := 4, pos := "ref.go:113", after := #[{ on := 17, ground := Ground.data }, { on := 12, ground := Ground.chain }, { on := 0, ground := Ground.phase }, { on := 1, ground := Ground.phase }, { on := 2, ground := Ground.phase }, { on := 3, ground := Ground.phase }, { on := 4, ground := Ground.phase }, { on := 5, ground := Ground.phase }, { on := 6, ground := Ground.phase }, { on := 7, ground := Ground.phase }, { on := 8, ground := Ground.phase }, { on := 9, ground := Ground.phase }, { on := 10, ground := Ground.phase }, { on := 11, ground := Ground.phase }, { on := 12, ground := Ground.phase }, { on := 13, ground := Ground.phase }, { on := 14, ground := Ground.phase }, { on := 15, ground := Ground.phase }, { on := 16, ground := Ground.phase }, { on := 17, ground := Ground.phase }], guard := none }) rfl (fun K hK => ?_) AllReadyH.nil
          go_simp
          refine hK.out _ _ ?_ (fun hHeld => ?_)
          · exact ⟨(hb7.cell (p := ⟨w.heap.size, 2, none⟩) (by simp <;> omega)).trans (by go_keep), (hb7.cell (p := ⟨w.heap.size, 3, none⟩) (by simp <;> omega)).trans (by go_keep), (hb7.cell (p := ⟨w.heap.size, 4, none⟩) (by simp <;> omega)).trans (by go_keep), (hb7.cell (p := ⟨w.heap.size + 1, 0, none⟩) (by simp <;> omega)).trans (by go_keep), (hb7.cell (p := ⟨w.heap.size + 1, 1, none⟩) (by simp <;> omega)).trans (by go_keep), (hb7.cell (p := ⟨w.heap.size + 1, 2, none⟩) (by simp <;> omega)).trans (by go_keep), (hb7.cell (p := ⟨w.heap.size + 1, 3, none⟩) (by simp <;> omega)).trans (by go_keep), (hb7.cell (p := ⟨w.heap.size + 1, 4, none⟩) (by simp <;> omega)).trans (by go_keep), (hb7.cell (p := ⟨w.heap.size + 1, 5, none⟩) (by simp <;> omega)).trans (by go_keep), (hb7.cell (p := ⟨w.heap.size + 1, 6, none⟩) (by simp <;> omega)).trans (by go_keep), (hb7.cell (p := ⟨w.heap.size + 1, 7, none⟩) (by simp <;> omega)).trans (by go_keep), (hb7.cell (p := ⟨w.heap.size + 1, 8, none⟩) (by simp <;> omega)).trans (by go_keep), (hb7.cell (p := ⟨w.heap.size + 1, 9, none⟩) (by simp <;> omega)).trans (by go_keep)⟩
          clear hK K
          try simp only [Act.put, List.setIfInBounds_toArray, List.set_cons_zero, List.set_cons_succ]
          refine wpAnyH_done (by kernel_rfl) ?_ _
          go_wp2
          go_ret
          exact ⟨by rw [E.out]; rfl, HB.drew.trans (hb7.mono HB.size)⟩
        case true =>
          have E := Lib.hid (show joinB ⟨ae, al, az, true, false⟩ ⟨0, 1, p0, true, true⟩ = false by unfold joinB endS; simp)
          have HB : Below w.heap.size w ((w.alloc (.cells #[.int .i64 ae, .int .i64 al, .int .i64 az, .bool true, .bool false] 36)).alloc (.cells #[.int .i64 p0, .bool true, .int .i64 p2, .int .i64 p3, .int .i64 p4, .int .i64 p5, .int .i64 p6, .int .i64 p7, .int .i64 p8, .int .i64 p9] 53)) := ((Below.refl _ w).alloc (Nat.le_refl _) _).alloc (by simp) _
          try clear hq
          go_enter Try.func28, Try.ntmps28
          go_wp2
          refine wp_region_held_drew (S := (fun W => W.cell? ⟨w.heap.size, 2, none⟩ = some (.int .i64 az) ∧ W.cell? ⟨w.heap.size, 3, none⟩ = some (.bool true) ∧ W.cell? ⟨w.heap.size, 4, none⟩ = some (.bool false) ∧ W.cell? ⟨w.heap.size + 1, 0, none⟩ = some (.int .i64 p0) ∧ W.cell? ⟨w.heap.size + 1, 1, none⟩ = some (.bool true) ∧ W.cell? ⟨w.heap.size + 1, 2, none⟩ = some (.int .i64 p2) ∧ W.cell? ⟨w.heap.size + 1, 3, none⟩ = some (.int .i64 p3) ∧ W.cell? ⟨w.heap.size + 1, 4, none⟩ = some (.int .i64 p4) ∧ W.cell? ⟨w.heap.size + 1, 5, none⟩ = some (.int .i64 p5) ∧ W.cell? ⟨w.heap.size + 1, 6, none⟩ = some (.int .i64 p6) ∧ W.cell? ⟨w.heap.size + 1, 7, none⟩ = some (.int .i64 p7) ∧ W.cell? ⟨w.heap.size + 1, 8, none⟩ = some (.int .i64 p8) ∧ W.cell? ⟨w.heap.size + 1, 9, none⟩ = some (.int .i64 p9))) (by kernel_rfl) ?_ (fun hHeld => ?_)
          · go_keep
          try dsimp only at hHeld
          refine wpAnyH_take (i := 0) (oi := { dst := some 15, op := Op.fieldAddr 36 (Operand.tmp 2) 3, type := 0, pos := "ref.go:113", after := #[], guard := none }) (v := ?_) rfl (by kernel_rfl) (by kernel_rfl) (by kernel_rfl) (fun _ _ _ h => h) (Or.inl ⟨by rfl, ?_⟩) (by assumption) ?_
          rotate_left
          · intro wS hSw; go_split_ands; go_simp; first | done | with_reducible rfl
          simp only [Act.put, List.setIfInBounds_toArray, List.set_cons_zero, List.set_cons_succ]
          refine wpAnyH_take (i := 1) (oi := { dst := some 16, op := Op.load 4 (Operand.tmp 15), type := 4, pos := "ref.go:113", after := #[{ on := 0, ground := Ground.data }], guard := none }) (v := ?_) rfl (by kernel_rfl) (by kernel_rfl) (by kernel_rfl) (fun _ _ _ h => h) (Or.inl ⟨by rfl, ?_⟩) (by assumption) ?_
          rotate_left
          · intro wS hSw; go_split_ands; go_simp; first | done | with_reducible rfl
          simp only [Act.put, List.setIfInBounds_toArray, List.set_cons_zero, List.set_cons_succ]
          refine wpAnyH_take (i := 2) (oi := { dst := some 17, op := Op.fieldAddr 53 (Operand.tmp 3) 1, type := 0, pos := "ref.go:113", after := #[], guard := none }) (v := ?_) rfl (by kernel_rfl) (by kernel_rfl) (by kernel_rfl) (fun _ _ _ h => h) (Or.inl ⟨by rfl, ?_⟩) (by assumption) ?_
          rotate_left
          · intro wS hSw; go_split_ands; go_simp; first | done | with_reducible rfl
          simp only [Act.put, List.setIfInBounds_toArray, List.set_cons_zero, List.set_cons_succ]
          refine wpAnyH_take (i := 3) (oi := { dst := some 18, op := Op.load 4 (Operand.tmp 17), type := 4, pos := "ref.go:113", after := #[{ on := 2, ground := Ground.data }], guard := none }) (v := ?_) rfl (by kernel_rfl) (by kernel_rfl) (by kernel_rfl) (fun _ _ _ h => h) (Or.inl ⟨by rfl, ?_⟩) (by assumption) ?_
          rotate_left
          · intro wS hSw; go_split_ands; go_simp; first | done | with_reducible rfl
          simp only [Act.put, List.setIfInBounds_toArray, List.set_cons_zero, List.set_cons_succ]
          refine wpAnyH_take (i := 4) (oi := { dst := some 19, op := Op.binOp BinOp.eql 4 (Operand.tmp 16) (Operand.tmp 18) 4, type := 4, pos := "ref.go:113", after := #[{ on := 1, ground := Ground.data }, { on := 3, ground := Ground.data }], guard := none }) (v := ?_) rfl (by kernel_rfl) (by kernel_rfl) (by kernel_rfl) (fun _ _ _ h => h) (Or.inl ⟨by rfl, ?_⟩) (by assumption) ?_
          rotate_left
          · intro wS hSw; go_split_ands; go_simp; first | done | with_reducible rfl
          simp only [Act.put, List.setIfInBounds_toArray, List.set_cons_zero, List.set_cons_succ]
          refine wpAnyH_take (i := 5) (oi := { dst := some 20, op := Op.move (Operand.tmp 19), type := 4, pos := "ref.go:113", after := #[{ on := 4, ground := Ground.data }], guard := none }) (v := ?_) rfl (by kernel_rfl) (by kernel_rfl) (by kernel_rfl) (fun _ _ _ h => h) (Or.inl ⟨by rfl, ?_⟩) (by assumption) ?_
          rotate_left
          · intro wS hSw; go_split_ands; go_simp; first | done | with_reducible rfl
          simp only [Act.put, List.setIfInBounds_toArray, List.set_cons_zero, List.set_cons_succ]
          refine wpAnyH_take (i := 6) (oi := { dst := some 21, op := Op.fieldAddr 36 (Operand.tmp 2) 4, type := 0, pos := "ref.go:113", after := #[{ on := 5, ground := Ground.guard }], guard := some (5, true) }) (v := ?_) rfl (by kernel_rfl) (by kernel_rfl) (by kernel_rfl) (fun _ _ _ h => h) (Or.inl ⟨by rfl, ?_⟩) (by assumption) ?_
          rotate_left
          · intro wS hSw; go_split_ands; go_simp; first | done | with_reducible rfl
          simp only [Act.put, List.setIfInBounds_toArray, List.set_cons_zero, List.set_cons_succ]
          refine wpAnyH_take (i := 7) (oi := { dst := some 22, op := Op.load 4 (Operand.tmp 21), type := 4, pos := "ref.go:113", after := #[{ on := 6, ground := Ground.data }, { on := 5, ground := Ground.guard }], guard := some (5, true) }) (v := ?_) rfl (by kernel_rfl) (by kernel_rfl) (by kernel_rfl) (fun _ _ _ h => h) (Or.inl ⟨by rfl, ?_⟩) (by assumption) ?_
          rotate_left
          · intro wS hSw; go_split_ands; go_simp; first | done | with_reducible rfl
          simp only [Act.put, List.setIfInBounds_toArray, List.set_cons_zero, List.set_cons_succ]
          refine wpAnyH_take (i := 8) (oi := { dst := some 23, op := Op.load 53 (Operand.tmp 3), type := 53, pos := "ref.go:113", after := #[{ on := 5, ground := Ground.guard }], guard := some (5, true) }) (v := ?_) rfl (by kernel_rfl) (by kernel_rfl) (by kernel_rfl) (fun _ _ _ h => h) (Or.inl ⟨by rfl, ?_⟩) (by assumption) ?_
          rotate_left
          · intro wS hSw; go_split_ands; go_simp; first | done | with_reducible rfl
          simp only [Act.put, List.setIfInBounds_toArray, List.set_cons_zero, List.set_cons_succ]
          refine wpAnyH_ready (rs := [9]) (by kernel_rfl) (by simp) ?_
          refine AllReadyH.cons (o := { dst := some 24, op := Op.call { callee := Callee.value (Operand.func 25), args := #[Operand.tmp 23], argTypes := #[53] }, type := 4, pos := "ref.go:113", after := #[{ on := 8, ground := Ground.data }, { on := 5, ground := Ground.chain }, { on := 5, ground := Ground.guard }], guard := some (5, true) }) rfl (fun K hK => ?_) AllReadyH.nil
          go_simp
          go_at_call 25; refine (KR _).mono ?_; rintro e w7 ⟨rfl, hb7⟩
          refine hK.out _ _ ?_ (fun hHeld => ?_)
          · exact ⟨(hb7.cell (p := ⟨w.heap.size, 2, none⟩) (by simp <;> omega)).trans (by go_keep), (hb7.cell (p := ⟨w.heap.size, 3, none⟩) (by simp <;> omega)).trans (by go_keep), (hb7.cell (p := ⟨w.heap.size, 4, none⟩) (by simp <;> omega)).trans (by go_keep), (hb7.cell (p := ⟨w.heap.size + 1, 0, none⟩) (by simp <;> omega)).trans (by go_keep), (hb7.cell (p := ⟨w.heap.size + 1, 1, none⟩) (by simp <;> omega)).trans (by go_keep), (hb7.cell (p := ⟨w.heap.size + 1, 2, none⟩) (by simp <;> omega)).trans (by go_keep), (hb7.cell (p := ⟨w.heap.size + 1, 3, none⟩) (by simp <;> omega)).trans (by go_keep), (hb7.cell (p := ⟨w.heap.size + 1, 4, none⟩) (by simp <;> omega)).trans (by go_keep), (hb7.cell (p := ⟨w.heap.size + 1, 5, none⟩) (by simp <;> omega)).trans (by go_keep), (hb7.cell (p := ⟨w.heap.size + 1, 6, none⟩) (by simp <;> omega)).trans (by go_keep), (hb7.cell (p := ⟨w.heap.size + 1, 7, none⟩) (by simp <;> omega)).trans (by go_keep), (hb7.cell (p := ⟨w.heap.size + 1, 8, none⟩) (by simp <;> omega)).trans (by go_keep), (hb7.cell (p := ⟨w.heap.size + 1, 9, none⟩) (by simp <;> omega)).trans (by go_keep)⟩
          clear hK K
          try simp only [Act.put, List.setIfInBounds_toArray, List.set_cons_zero, List.set_cons_succ]
          refine wpAnyH_take (i := 10) (oi := { dst := some 25, op := Op.binOp BinOp.eql 4 (Operand.tmp 22) (Operand.tmp 24) 4, type := 4, pos := "ref.go:113", after := #[{ on := 7, ground := Ground.data }, { on := 9, ground := Ground.data }, { on := 5, ground := Ground.guard }], guard := some (5, true) }) (v := ?_) rfl (by kernel_rfl) (by kernel_rfl) (by kernel_rfl) (fun _ _ _ h => h) (Or.inl ⟨by rfl, ?_⟩) (by assumption) ?_
          rotate_left
          · intro wS hSw; go_split_ands; go_simp; first | done | with_reducible rfl
          simp only [Act.put, List.setIfInBounds_toArray, List.set_cons_zero, List.set_cons_succ]
          refine wpAnyH_take (i := 11) (oi := { dst := some 26, op := Op.pick (Operand.tmp 20) (Operand.tmp 25) (Operand.const (Value.bool false)), type := 4, pos := "ref.go:113", after := #[{ on := 5, ground := Ground.data }, { on := 10, ground := Ground.data }], guard := none }) (v := ?_) rfl (by kernel_rfl) (by kernel_rfl) (by kernel_rfl) (fun _ _ _ h => h) (Or.inl ⟨by rfl, ?_⟩) (by assumption) ?_
          rotate_left
          · intro wS hSw; go_split_ands; go_simp; first | done | with_reducible rfl
          simp only [Act.put, List.setIfInBounds_toArray, List.set_cons_zero, List.set_cons_succ]
          refine wpAnyH_take (i := 12) (oi := { dst := some 27, op := Op.move (Operand.tmp 26), type := 4, pos := "ref.go:113", after := #[{ on := 11, ground := Ground.data }, { on := 9, ground := Ground.chain }], guard := none }) (v := ?_) rfl (by kernel_rfl) (by kernel_rfl) (by kernel_rfl) (fun _ _ _ h => h) (Or.inl ⟨by rfl, ?_⟩) (by assumption) ?_
          rotate_left
          · intro wS hSw; go_split_ands; go_simp; first | done | with_reducible rfl
          simp only [Act.put, List.setIfInBounds_toArray, List.set_cons_zero, List.set_cons_succ]
          refine wpAnyH_take (i := 13) (oi := { dst := some 28, op := Op.move (Operand.tmp 5), type := 3, pos := "ref.go:113", after := #[{ on := 12, ground := Ground.guard }], guard := some (12, true) }) (v := undef) rfl (by kernel_rfl) (by kernel_rfl) (by kernel_rfl) (fun _ _ _ h => h) (Or.inr ⟨by rfl, rfl⟩) (by assumption) ?_
          simp only [Act.put, List.setIfInBounds_toArray, List.set_cons_zero, List.set_cons_succ]
          refine wpAnyH_take (i := 14) (oi := { dst := some 29, op := Op.fieldAddr 53 (Operand.tmp 3) 0, type := 0, pos := "ref.go:113", after := #[{ on := 12, ground := Ground.guard }], guard := some (12, true) }) (v := undef) rfl (by kernel_rfl) (by kernel_rfl) (by kernel_rfl) (fun _ _ _ h => h) (Or.inr ⟨by rfl, rfl⟩) (by assumption) ?_
          simp only [Act.put, List.setIfInBounds_toArray, List.set_cons_zero, List.set_cons_succ]
          refine wpAnyH_take (i := 15) (oi := { dst := some 30, op := Op.load 3 (Operand.tmp 29), type := 3, pos := "ref.go:113", after := #[{ on := 14, ground := Ground.data }, { on := 12, ground := Ground.guard }], guard := some (12, true) }) (v := undef) rfl (by kernel_rfl) (by kernel_rfl) (by kernel_rfl) (fun _ _ _ h => h) (Or.inr ⟨by rfl, rfl⟩) (by assumption) ?_
          simp only [Act.put, List.setIfInBounds_toArray, List.set_cons_zero, List.set_cons_succ]
          refine wpAnyH_take (i := 16) (oi := { dst := some 31, op := Op.binOp BinOp.eql 3 (Operand.tmp 28) (Operand.tmp 30) 3, type := 4, pos := "ref.go:113", after := #[{ on := 13, ground := Ground.data }, { on := 15, ground := Ground.data }, { on := 12, ground := Ground.guard }], guard := some (12, true) }) (v := undef) rfl (by kernel_rfl) (by kernel_rfl) (by kernel_rfl) (fun _ _ _ h => h) (Or.inr ⟨by rfl, rfl⟩) (by assumption) ?_
          simp only [Act.put, List.setIfInBounds_toArray, List.set_cons_zero, List.set_cons_succ]
          refine wpAnyH_take (i := 17) (oi := { dst := some 32, op := Op.pick (Operand.tmp 27) (Operand.tmp 31) (Operand.const (Value.bool false)), type := 4, pos := "ref.go:113", after := #[{ on := 12, ground := Ground.data }, { on := 16, ground := Ground.data }], guard := none }) (v := ?_) rfl (by kernel_rfl) (by kernel_rfl) (by kernel_rfl) (fun _ _ _ h => h) (Or.inl ⟨by rfl, ?_⟩) (by assumption) ?_
          rotate_left
          · intro wS hSw; go_split_ands; go_simp; first | done | with_reducible rfl
          simp only [Act.put, List.setIfInBounds_toArray, List.set_cons_zero, List.set_cons_succ]
          refine wpAnyH_ready (rs := [18]) (by kernel_rfl) (by simp) ?_
          refine AllReadyH.cons (o := { dst := some 4, op := Op.assign (Operand.tmp 32), type := 4, pos := "ref.go:113", after := #[{ on := 17, ground := Ground.data }, { on := 12, ground := Ground.chain }, { on := 0, ground := Ground.phase }, { on := 1, ground := Ground.phase }, { on := 2, ground := Ground.phase }, { on := 3, ground := Ground.phase }, { on := 4, ground := Ground.phase }, { on := 5, ground := Ground.phase }, { on := 6, ground := Ground.phase }, { on := 7, ground := Ground.phase }, { on := 8, ground := Ground.phase }, { on := 9, ground := Ground.phase }, { on := 10, ground := Ground.phase }, { on := 11, ground := Ground.phase }, { on := 12, ground := Ground.phase }, { on := 13, ground := Ground.phase }, { on := 14, ground := Ground.phase }, { on := 15, ground := Ground.phase }, { on := 16, ground := Ground.phase }, { on := 17, ground := Ground.phase }], guard := none }) rfl (fun K hK => ?_) AllReadyH.nil
          go_simp
          refine hK.out _ _ ?_ (fun hHeld => ?_)
          · exact ⟨(hb7.cell (p := ⟨w.heap.size, 2, none⟩) (by simp <;> omega)).trans (by go_keep), (hb7.cell (p := ⟨w.heap.size, 3, none⟩) (by simp <;> omega)).trans (by go_keep), (hb7.cell (p := ⟨w.heap.size, 4, none⟩) (by simp <;> omega)).trans (by go_keep), (hb7.cell (p := ⟨w.heap.size + 1, 0, none⟩) (by simp <;> omega)).trans (by go_keep), (hb7.cell (p := ⟨w.heap.size + 1, 1, none⟩) (by simp <;> omega)).trans (by go_keep), (hb7.cell (p := ⟨w.heap.size + 1, 2, none⟩) (by simp <;> omega)).trans (by go_keep), (hb7.cell (p := ⟨w.heap.size + 1, 3, none⟩) (by simp <;> omega)).trans (by go_keep), (hb7.cell (p := ⟨w.heap.size + 1, 4, none⟩) (by simp <;> omega)).trans (by go_keep), (hb7.cell (p := ⟨w.heap.size + 1, 5, none⟩) (by simp <;> omega)).trans (by go_keep), (hb7.cell (p := ⟨w.heap.size + 1, 6, none⟩) (by simp <;> omega)).trans (by go_keep), (hb7.cell (p := ⟨w.heap.size + 1, 7, none⟩) (by simp <;> omega)).trans (by go_keep), (hb7.cell (p := ⟨w.heap.size + 1, 8, none⟩) (by simp <;> omega)).trans (by go_keep), (hb7.cell (p := ⟨w.heap.size + 1, 9, none⟩) (by simp <;> omega)).trans (by go_keep)⟩
          clear hK K
          try simp only [Act.put, List.setIfInBounds_toArray, List.set_cons_zero, List.set_cons_succ]
          refine wpAnyH_done (by kernel_rfl) ?_ _
          go_wp2
          go_ret
          exact ⟨by rw [E.out]; rfl, HB.drew.trans (hb7.mono HB.size)⟩
      case true =>
        cases rb
        case false =>
          have E := Lib.hid (show joinB ⟨ae, al, az, true, true⟩ ⟨0, 1, p0, true, false⟩ = false by unfold joinB endS; simp)
          have HB : Below w.heap.size w ((w.alloc (.cells #[.int .i64 ae, .int .i64 al, .int .i64 az, .bool true, .bool true] 36)).alloc (.cells #[.int .i64 p0, .bool true, .int .i64 p2, .int .i64 p3, .int .i64 p4, .int .i64 p5, .int .i64 p6, .int .i64 p7, .int .i64 p8, .int .i64 p9] 53)) := ((Below.refl _ w).alloc (Nat.le_refl _) _).alloc (by simp) _
          try clear hq
          go_enter Try.func28, Try.ntmps28
          go_wp2
          refine wp_region_held_drew (S := (fun W => W.cell? ⟨w.heap.size, 2, none⟩ = some (.int .i64 az) ∧ W.cell? ⟨w.heap.size, 3, none⟩ = some (.bool true) ∧ W.cell? ⟨w.heap.size, 4, none⟩ = some (.bool true) ∧ W.cell? ⟨w.heap.size + 1, 0, none⟩ = some (.int .i64 p0) ∧ W.cell? ⟨w.heap.size + 1, 1, none⟩ = some (.bool true) ∧ W.cell? ⟨w.heap.size + 1, 2, none⟩ = some (.int .i64 p2) ∧ W.cell? ⟨w.heap.size + 1, 3, none⟩ = some (.int .i64 p3) ∧ W.cell? ⟨w.heap.size + 1, 4, none⟩ = some (.int .i64 p4) ∧ W.cell? ⟨w.heap.size + 1, 5, none⟩ = some (.int .i64 p5) ∧ W.cell? ⟨w.heap.size + 1, 6, none⟩ = some (.int .i64 p6) ∧ W.cell? ⟨w.heap.size + 1, 7, none⟩ = some (.int .i64 p7) ∧ W.cell? ⟨w.heap.size + 1, 8, none⟩ = some (.int .i64 p8) ∧ W.cell? ⟨w.heap.size + 1, 9, none⟩ = some (.int .i64 p9))) (by kernel_rfl) ?_ (fun hHeld => ?_)
          · go_keep
          try dsimp only at hHeld
          refine wpAnyH_take (i := 0) (oi := { dst := some 15, op := Op.fieldAddr 36 (Operand.tmp 2) 3, type := 0, pos := "ref.go:113", after := #[], guard := none }) (v := ?_) rfl (by kernel_rfl) (by kernel_rfl) (by kernel_rfl) (fun _ _ _ h => h) (Or.inl ⟨by rfl, ?_⟩) (by assumption) ?_
          rotate_left
          · intro wS hSw; go_split_ands; go_simp; first | done | with_reducible rfl
          simp only [Act.put, List.setIfInBounds_toArray, List.set_cons_zero, List.set_cons_succ]
          refine wpAnyH_take (i := 1) (oi := { dst := some 16, op := Op.load 4 (Operand.tmp 15), type := 4, pos := "ref.go:113", after := #[{ on := 0, ground := Ground.data }], guard := none }) (v := ?_) rfl (by kernel_rfl) (by kernel_rfl) (by kernel_rfl) (fun _ _ _ h => h) (Or.inl ⟨by rfl, ?_⟩) (by assumption) ?_
          rotate_left
          · intro wS hSw; go_split_ands; go_simp; first | done | with_reducible rfl
          simp only [Act.put, List.setIfInBounds_toArray, List.set_cons_zero, List.set_cons_succ]
          refine wpAnyH_take (i := 2) (oi := { dst := some 17, op := Op.fieldAddr 53 (Operand.tmp 3) 1, type := 0, pos := "ref.go:113", after := #[], guard := none }) (v := ?_) rfl (by kernel_rfl) (by kernel_rfl) (by kernel_rfl) (fun _ _ _ h => h) (Or.inl ⟨by rfl, ?_⟩) (by assumption) ?_
          rotate_left
          · intro wS hSw; go_split_ands; go_simp; first | done | with_reducible rfl
          simp only [Act.put, List.setIfInBounds_toArray, List.set_cons_zero, List.set_cons_succ]
          refine wpAnyH_take (i := 3) (oi := { dst := some 18, op := Op.load 4 (Operand.tmp 17), type := 4, pos := "ref.go:113", after := #[{ on := 2, ground := Ground.data }], guard := none }) (v := ?_) rfl (by kernel_rfl) (by kernel_rfl) (by kernel_rfl) (fun _ _ _ h => h) (Or.inl ⟨by rfl, ?_⟩) (by assumption) ?_
          rotate_left
          · intro wS hSw; go_split_ands; go_simp; first | done | with_reducible rfl
          simp only [Act.put, List.setIfInBounds_toArray, List.set_cons_zero, List.set_cons_succ]
          refine wpAnyH_take (i := 4) (oi := { dst := some 19, op := Op.binOp BinOp.eql 4 (Operand.tmp 16) (Operand.tmp 18) 4, type := 4, pos := "ref.go:113", after := #[{ on := 1, ground := Ground.data }, { on := 3, ground := Ground.data }], guard := none }) (v := ?_) rfl (by kernel_rfl) (by kernel_rfl) (by kernel_rfl) (fun _ _ _ h => h) (Or.inl ⟨by rfl, ?_⟩) (by assumption) ?_
          rotate_left
          · intro wS hSw; go_split_ands; go_simp; first | done | with_reducible rfl
          simp only [Act.put, List.setIfInBounds_toArray, List.set_cons_zero, List.set_cons_succ]
          refine wpAnyH_take (i := 5) (oi := { dst := some 20, op := Op.move (Operand.tmp 19), type := 4, pos := "ref.go:113", after := #[{ on := 4, ground := Ground.data }], guard := none }) (v := ?_) rfl (by kernel_rfl) (by kernel_rfl) (by kernel_rfl) (fun _ _ _ h => h) (Or.inl ⟨by rfl, ?_⟩) (by assumption) ?_
          rotate_left
          · intro wS hSw; go_split_ands; go_simp; first | done | with_reducible rfl
          simp only [Act.put, List.setIfInBounds_toArray, List.set_cons_zero, List.set_cons_succ]
          refine wpAnyH_take (i := 6) (oi := { dst := some 21, op := Op.fieldAddr 36 (Operand.tmp 2) 4, type := 0, pos := "ref.go:113", after := #[{ on := 5, ground := Ground.guard }], guard := some (5, true) }) (v := ?_) rfl (by kernel_rfl) (by kernel_rfl) (by kernel_rfl) (fun _ _ _ h => h) (Or.inl ⟨by rfl, ?_⟩) (by assumption) ?_
          rotate_left
          · intro wS hSw; go_split_ands; go_simp; first | done | with_reducible rfl
          simp only [Act.put, List.setIfInBounds_toArray, List.set_cons_zero, List.set_cons_succ]
          refine wpAnyH_take (i := 7) (oi := { dst := some 22, op := Op.load 4 (Operand.tmp 21), type := 4, pos := "ref.go:113", after := #[{ on := 6, ground := Ground.data }, { on := 5, ground := Ground.guard }], guard := some (5, true) }) (v := ?_) rfl (by kernel_rfl) (by kernel_rfl) (by kernel_rfl) (fun _ _ _ h => h) (Or.inl ⟨by rfl, ?_⟩) (by assumption) ?_
          rotate_left
          · intro wS hSw; go_split_ands; go_simp; first | done | with_reducible rfl
          simp only [Act.put, List.setIfInBounds_toArray, List.set_cons_zero, List.set_cons_succ]
          refine wpAnyH_take (i := 8) (oi := { dst := some 23, op := Op.load 53 (Operand.tmp 3), type := 53, pos := "ref.go:113", after := #[{ on := 5, ground := Ground.guard }], guard := some (5, true) }) (v := ?_) rfl (by kernel_rfl) (by kernel_rfl) (by kernel_rfl) (fun _ _ _ h => h) (Or.inl ⟨by rfl, ?_⟩) (by assumption) ?_
          rotate_left
          · intro wS hSw; go_split_ands; go_simp; first | done | with_reducible rfl
          simp only [Act.put, List.setIfInBounds_toArray, List.set_cons_zero, List.set_cons_succ]
          refine wpAnyH_ready (rs := [9]) (by kernel_rfl) (by simp) ?_
          refine AllReadyH.cons (o := { dst := some 24, op := Op.call { callee := Callee.value (Operand.func 25), args := #[Operand.tmp 23], argTypes := #[53] }, type := 4, pos := "ref.go:113", after := #[{ on := 8, ground := Ground.data }, { on := 5, ground := Ground.chain }, { on := 5, ground := Ground.guard }], guard := some (5, true) }) rfl (fun K hK => ?_) AllReadyH.nil
          go_simp
          go_at_call 25; refine (KR _).mono ?_; rintro e w7 ⟨rfl, hb7⟩
          refine hK.out _ _ ?_ (fun hHeld => ?_)
          · exact ⟨(hb7.cell (p := ⟨w.heap.size, 2, none⟩) (by simp <;> omega)).trans (by go_keep), (hb7.cell (p := ⟨w.heap.size, 3, none⟩) (by simp <;> omega)).trans (by go_keep), (hb7.cell (p := ⟨w.heap.size, 4, none⟩) (by simp <;> omega)).trans (by go_keep), (hb7.cell (p := ⟨w.heap.size + 1, 0, none⟩) (by simp <;> omega)).trans (by go_keep), (hb7.cell (p := ⟨w.heap.size + 1, 1, none⟩) (by simp <;> omega)).trans (by go_keep), (hb7.cell (p := ⟨w.heap.size + 1, 2, none⟩) (by simp <;> omega)).trans (by go_keep), (hb7.cell (p := ⟨w.heap.size + 1, 3, none⟩) (by simp <;> omega)).trans (by go_keep), (hb7.cell (p := ⟨w.heap.size + 1, 4, none⟩) (by simp <;> omega)).trans (by go_keep), (hb7.cell (p := ⟨w.heap.size + 1, 5, none⟩) (by simp <;> omega)).trans (by go_keep), (hb7.cell (p := ⟨w.heap.size + 1, 6, none⟩) (by simp <;> omega)).trans (by go_keep), (hb7.cell (p := ⟨w.heap.size + 1, 7, none⟩) (by simp <;> omega)).trans (by go_keep), (hb7.cell (p := ⟨w.heap.size + 1, 8, none⟩) (by simp <;> omega)).trans (by go_keep), (hb7.cell (p := ⟨w.heap.size + 1, 9, none⟩) (by simp <;> omega)).trans (by go_keep)⟩
          clear hK K
          try simp only [Act.put, List.setIfInBounds_toArray, List.set_cons_zero, List.set_cons_succ]
          refine wpAnyH_take (i := 10) (oi := { dst := some 25, op := Op.binOp BinOp.eql 4 (Operand.tmp 22) (Operand.tmp 24) 4, type := 4, pos := "ref.go:113", after := #[{ on := 7, ground := Ground.data }, { on := 9, ground := Ground.data }, { on := 5, ground := Ground.guard }], guard := some (5, true) }) (v := ?_) rfl (by kernel_rfl) (by kernel_rfl) (by kernel_rfl) (fun _ _ _ h => h) (Or.inl ⟨by rfl, ?_⟩) (by assumption) ?_
          rotate_left
          · intro wS hSw; go_split_ands; go_simp; first | done | with_reducible rfl
          simp only [Act.put, List.setIfInBounds_toArray, List.set_cons_zero, List.set_cons_succ]
          refine wpAnyH_take (i := 11) (oi := { dst := some 26, op := Op.pick (Operand.tmp 20) (Operand.tmp 25) (Operand.const (Value.bool false)), type := 4, pos := "ref.go:113", after := #[{ on := 5, ground := Ground.data }, { on := 10, ground := Ground.data }], guard := none }) (v := ?_) rfl (by kernel_rfl) (by kernel_rfl) (by kernel_rfl) (fun _ _ _ h => h) (Or.inl ⟨by rfl, ?_⟩) (by assumption) ?_
          rotate_left
          · intro wS hSw; go_split_ands; go_simp; first | done | with_reducible rfl
          simp only [Act.put, List.setIfInBounds_toArray, List.set_cons_zero, List.set_cons_succ]
          refine wpAnyH_take (i := 12) (oi := { dst := some 27, op := Op.move (Operand.tmp 26), type := 4, pos := "ref.go:113", after := #[{ on := 11, ground := Ground.data }, { on := 9, ground := Ground.chain }], guard := none }) (v := ?_) rfl (by kernel_rfl) (by kernel_rfl) (by kernel_rfl) (fun _ _ _ h => h) (Or.inl ⟨by rfl, ?_⟩) (by assumption) ?_
          rotate_left
          · intro wS hSw; go_split_ands; go_simp; first | done | with_reducible rfl
          simp only [Act.put, List.setIfInBounds_toArray, List.set_cons_zero, List.set_cons_succ]
          refine wpAnyH_take (i := 13) (oi := { dst := some 28, op := Op.move (Operand.tmp 5), type := 3, pos := "ref.go:113", after := #[{ on := 12, ground := Ground.guard }], guard := some (12, true) }) (v := undef) rfl (by kernel_rfl) (by kernel_rfl) (by kernel_rfl) (fun _ _ _ h => h) (Or.inr ⟨by rfl, rfl⟩) (by assumption) ?_
          simp only [Act.put, List.setIfInBounds_toArray, List.set_cons_zero, List.set_cons_succ]
          refine wpAnyH_take (i := 14) (oi := { dst := some 29, op := Op.fieldAddr 53 (Operand.tmp 3) 0, type := 0, pos := "ref.go:113", after := #[{ on := 12, ground := Ground.guard }], guard := some (12, true) }) (v := undef) rfl (by kernel_rfl) (by kernel_rfl) (by kernel_rfl) (fun _ _ _ h => h) (Or.inr ⟨by rfl, rfl⟩) (by assumption) ?_
          simp only [Act.put, List.setIfInBounds_toArray, List.set_cons_zero, List.set_cons_succ]
          refine wpAnyH_take (i := 15) (oi := { dst := some 30, op := Op.load 3 (Operand.tmp 29), type := 3, pos := "ref.go:113", after := #[{ on := 14, ground := Ground.data }, { on := 12, ground := Ground.guard }], guard := some (12, true) }) (v := undef) rfl (by kernel_rfl) (by kernel_rfl) (by kernel_rfl) (fun _ _ _ h => h) (Or.inr ⟨by rfl, rfl⟩) (by assumption) ?_
          simp only [Act.put, List.setIfInBounds_toArray, List.set_cons_zero, List.set_cons_succ]
          refine wpAnyH_take (i := 16) (oi := { dst := some 31, op := Op.binOp BinOp.eql 3 (Operand.tmp 28) (Operand.tmp 30) 3, type := 4, pos := "ref.go:113", after := #[{ on := 13, ground := Ground.data }, { on := 15, ground := Ground.data }, { on := 12, ground := Ground.guard }], guard := some (12, true) }) (v := undef) rfl (by kernel_rfl) (by kernel_rfl) (by kernel_rfl) (fun _ _ _ h => h) (Or.inr ⟨by rfl, rfl⟩) (by assumption) ?_
          simp only [Act.put, List.setIfInBounds_toArray, List.set_cons_zero, List.set_cons_succ]
          refine wpAnyH_take (i := 17) (oi := { dst := some 32, op := Op.pick (Operand.tmp 27) (Operand.tmp 31) (Operand.const (Value.bool false)), type := 4, pos := "ref.go:113", after := #[{ on := 12, ground := Ground.data }, { on := 16, ground := Ground.data }], guard := none }) (v := ?_) rfl (by kernel_rfl) (by kernel_rfl) (by kernel_rfl) (fun _ _ _ h => h) (Or.inl ⟨by rfl, ?_⟩) (by assumption) ?_
          rotate_left
          · intro wS hSw; go_split_ands; go_simp; first | done | with_reducible rfl
          simp only [Act.put, List.setIfInBounds_toArray, List.set_cons_zero, List.set_cons_succ]
          refine wpAnyH_ready (rs := [18]) (by kernel_rfl) (by simp) ?_
          refine AllReadyH.cons (o := { dst := some 4, op := Op.assign (Operand.tmp 32), type := 4, pos := "ref.go:113", after := #[{ on := 17, ground := Ground.data }, { on := 12, ground := Ground.chain }, { on := 0, ground := Ground.phase }, { on := 1, ground := Ground.phase }, { on := 2, ground := Ground.phase }, { on := 3, ground := Ground.phase }, { on := 4, ground := Ground.phase }, { on := 5, ground := Ground.phase }, { on := 6, ground := Ground.phase }, { on := 7, ground := Ground.phase }, { on := 8, ground := Ground.phase }, { on := 9, ground := Ground.phase }, { on := 10, ground := Ground.phase }, { on := 11, ground := Ground.phase }, { on := 12, ground := Ground.phase }, { on := 13, ground := Ground.phase }, { on := 14, ground := Ground.phase }, { on := 15, ground := Ground.phase }, { on := 16, ground := Ground.phase }, { on := 17, ground := Ground.phase }], guard := none }) rfl (fun K hK => ?_) AllReadyH.nil
          go_simp
          refine hK.out _ _ ?_ (fun hHeld => ?_)
          · exact ⟨(hb7.cell (p := ⟨w.heap.size, 2, none⟩) (by simp <;> omega)).trans (by go_keep), (hb7.cell (p := ⟨w.heap.size, 3, none⟩) (by simp <;> omega)).trans (by go_keep), (hb7.cell (p := ⟨w.heap.size, 4, none⟩) (by simp <;> omega)).trans (by go_keep), (hb7.cell (p := ⟨w.heap.size + 1, 0, none⟩) (by simp <;> omega)).trans (by go_keep), (hb7.cell (p := ⟨w.heap.size + 1, 1, none⟩) (by simp <;> omega)).trans (by go_keep), (hb7.cell (p := ⟨w.heap.size + 1, 2, none⟩) (by simp <;> omega)).trans (by go_keep), (hb7.cell (p := ⟨w.heap.size + 1, 3, none⟩) (by simp <;> omega)).trans (by go_keep), (hb7.cell (p := ⟨w.heap.size + 1, 4, none⟩) (by simp <;> omega)).trans (by go_keep), (hb7.cell (p := ⟨w.heap.size + 1, 5, none⟩) (by simp <;> omega)).trans (by go_keep), (hb7.cell (p := ⟨w.heap.size + 1, 6, none⟩) (by simp <;> omega)).trans (by go_keep), (hb7.cell (p := ⟨w.heap.size + 1, 7, none⟩) (by simp <;> omega)).trans (by go_keep), (hb7.cell (p := ⟨w.heap.size + 1, 8, none⟩) (by simp <;> omega)).trans (by go_keep), (hb7.cell (p := ⟨w.heap.size + 1, 9, none⟩) (by simp <;> omega)).trans (by go_keep)⟩
          clear hK K
          try simp only [Act.put, List.setIfInBounds_toArray, List.set_cons_zero, List.set_cons_succ]
          refine wpAnyH_done (by kernel_rfl) ?_ _
          go_wp2
          go_ret
          exact ⟨by rw [E.out]; rfl, HB.drew.trans (hb7.mono HB.size)⟩
        case true =>
          by_cases hq : az + al = p0
          case pos =>
            have d : (az + al == p0) = true := beq_iff_eq.2 hq
            have E := Lib.hid (show joinB ⟨ae, al, az, true, true⟩ ⟨0, 1, p0, true, true⟩ = true by unfold joinB endS; simp [hq])
            have HB : Below w.heap.size w ((w.alloc (.cells #[.int .i64 ae, .int .i64 al, .int .i64 az, .bool true, .bool true] 36)).alloc (.cells #[.int .i64 p0, .bool true, .int .i64 p2, .int .i64 p3, .int .i64 p4, .int .i64 p5, .int .i64 p6, .int .i64 p7, .int .i64 p8, .int .i64 p9] 53)) := ((Below.refl _ w).alloc (Nat.le_refl _) _).alloc (by simp) _
            try clear hq
            go_enter Try.func28, Try.ntmps28
            go_wp2
            refine wp_region_held_drew (S := (fun W => W.cell? ⟨w.heap.size, 2, none⟩ = some (.int .i64 az) ∧ W.cell? ⟨w.heap.size, 3, none⟩ = some (.bool true) ∧ W.cell? ⟨w.heap.size, 4, none⟩ = some (.bool true) ∧ W.cell? ⟨w.heap.size + 1, 0, none⟩ = some (.int .i64 p0) ∧ W.cell? ⟨w.heap.size + 1, 1, none⟩ = some (.bool true) ∧ W.cell? ⟨w.heap.size + 1, 2, none⟩ = some (.int .i64 p2) ∧ W.cell? ⟨w.heap.size + 1, 3, none⟩ = some (.int .i64 p3) ∧ W.cell? ⟨w.heap.size + 1, 4, none⟩ = some (.int .i64 p4) ∧ W.cell? ⟨w.heap.size + 1, 5, none⟩ = some (.int .i64 p5) ∧ W.cell? ⟨w.heap.size + 1, 6, none⟩ = some (.int .i64 p6) ∧ W.cell? ⟨w.heap.size + 1, 7, none⟩ = some (.int .i64 p7) ∧ W.cell? ⟨w.heap.size + 1, 8, none⟩ = some (.int .i64 p8) ∧ W.cell? ⟨w.heap.size + 1, 9, none⟩ = some (.int .i64 p9))) (by kernel_rfl) ?_ (fun hHeld => ?_)
            · go_keep
            try dsimp only at hHeld
            refine wpAnyH_take (i := 0) (oi := { dst := some 15, op := Op.fieldAddr 36 (Operand.tmp 2) 3, type := 0, pos := "ref.go:113", after := #[], guard := none }) (v := ?_) rfl (by kernel_rfl) (by kernel_rfl) (by kernel_rfl) (fun _ _ _ h => h) (Or.inl ⟨by rfl, ?_⟩) (by assumption) ?_
            rotate_left
            · intro wS hSw; go_split_ands; go_simp; first | done | with_reducible rfl
            simp only [Act.put, List.setIfInBounds_toArray, List.set_cons_zero, List.set_cons_succ]
            refine wpAnyH_take (i := 1) (oi := { dst := some 16, op := Op.load 4 (Operand.tmp 15), type := 4, pos := "ref.go:113", after := #[{ on := 0, ground := Ground.data }], guard := none }) (v := ?_) rfl (by kernel_rfl) (by kernel_rfl) (by kernel_rfl) (fun _ _ _ h => h) (Or.inl ⟨by rfl, ?_⟩) (by assumption) ?_
            rotate_left
            · intro wS hSw; go_split_ands; go_simp; first | done | with_reducible rfl
            simp only [Act.put, List.setIfInBounds_toArray, List.set_cons_zero, List.set_cons_succ]
            refine wpAnyH_take (i := 2) (oi := { dst := some 17, op := Op.fieldAddr 53 (Operand.tmp 3) 1, type := 0, pos := "ref.go:113", after := #[], guard := none }) (v := ?_) rfl (by kernel_rfl) (by kernel_rfl) (by kernel_rfl) (fun _ _ _ h => h) (Or.inl ⟨by rfl, ?_⟩) (by assumption) ?_
            rotate_left
            · intro wS hSw; go_split_ands; go_simp; first | done | with_reducible rfl
            simp only [Act.put, List.setIfInBounds_toArray, List.set_cons_zero, List.set_cons_succ]
            refine wpAnyH_take (i := 3) (oi := { dst := some 18, op := Op.load 4 (Operand.tmp 17), type := 4, pos := "ref.go:113", after := #[{ on := 2, ground := Ground.data }], guard := none }) (v := ?_) rfl (by kernel_rfl) (by kernel_rfl) (by kernel_rfl) (fun _ _ _ h => h) (Or.inl ⟨by rfl, ?_⟩) (by assumption) ?_
            rotate_left
            · intro wS hSw; go_split_ands; go_simp; first | done | with_reducible rfl
            simp only [Act.put, List.setIfInBounds_toArray, List.set_cons_zero, List.set_cons_succ]
            refine wpAnyH_take (i := 4) (oi := { dst := some 19, op := Op.binOp BinOp.eql 4 (Operand.tmp 16) (Operand.tmp 18) 4, type := 4, pos := "ref.go:113", after := #[{ on := 1, ground := Ground.data }, { on := 3, ground := Ground.data }], guard := none }) (v := ?_) rfl (by kernel_rfl) (by kernel_rfl) (by kernel_rfl) (fun _ _ _ h => h) (Or.inl ⟨by rfl, ?_⟩) (by assumption) ?_
            rotate_left
            · intro wS hSw; go_split_ands; go_simp; first | done | with_reducible rfl
            simp only [Act.put, List.setIfInBounds_toArray, List.set_cons_zero, List.set_cons_succ]
            refine wpAnyH_take (i := 5) (oi := { dst := some 20, op := Op.move (Operand.tmp 19), type := 4, pos := "ref.go:113", after := #[{ on := 4, ground := Ground.data }], guard := none }) (v := ?_) rfl (by kernel_rfl) (by kernel_rfl) (by kernel_rfl) (fun _ _ _ h => h) (Or.inl ⟨by rfl, ?_⟩) (by assumption) ?_
            rotate_left
            · intro wS hSw; go_split_ands; go_simp; first | done | with_reducible rfl
            simp only [Act.put, List.setIfInBounds_toArray, List.set_cons_zero, List.set_cons_succ]
            refine wpAnyH_take (i := 6) (oi := { dst := some 21, op := Op.fieldAddr 36 (Operand.tmp 2) 4, type := 0, pos := "ref.go:113", after := #[{ on := 5, ground := Ground.guard }], guard := some (5, true) }) (v := ?_) rfl (by kernel_rfl) (by kernel_rfl) (by kernel_rfl) (fun _ _ _ h => h) (Or.inl ⟨by rfl, ?_⟩) (by assumption) ?_
            rotate_left
            · intro wS hSw; go_split_ands; go_simp; first | done | with_reducible rfl
            simp only [Act.put, List.setIfInBounds_toArray, List.set_cons_zero, List.set_cons_succ]
            refine wpAnyH_take (i := 7) (oi := { dst := some 22, op := Op.load 4 (Operand.tmp 21), type := 4, pos := "ref.go:113", after := #[{ on := 6, ground := Ground.data }, { on := 5, ground := Ground.guard }], guard := some (5, true) }) (v := ?_) rfl (by kernel_rfl) (by kernel_rfl) (by kernel_rfl) (fun _ _ _ h => h) (Or.inl ⟨by rfl, ?_⟩) (by assumption) ?_
            rotate_left
            · intro wS hSw; go_split_ands; go_simp; first | done | with_reducible rfl
            simp only [Act.put, List.setIfInBounds_toArray, List.set_cons_zero, List.set_cons_succ]
            refine wpAnyH_take (i := 8) (oi := { dst := some 23, op := Op.load 53 (Operand.tmp 3), type := 53, pos := "ref.go:113", after := #[{ on := 5, ground := Ground.guard }], guard := some (5, true) }) (v := ?_) rfl (by kernel_rfl) (by kernel_rfl) (by kernel_rfl) (fun _ _ _ h => h) (Or.inl ⟨by rfl, ?_⟩) (by assumption) ?_
            rotate_left
            · intro wS hSw; go_split_ands; go_simp; first | done | with_reducible rfl
            simp only [Act.put, List.setIfInBounds_toArray, List.set_cons_zero, List.set_cons_succ]
            refine wpAnyH_ready (rs := [9]) (by kernel_rfl) (by simp) ?_
            refine AllReadyH.cons (o := { dst := some 24, op := Op.call { callee := Callee.value (Operand.func 25), args := #[Operand.tmp 23], argTypes := #[53] }, type := 4, pos := "ref.go:113", after := #[{ on := 8, ground := Ground.data }, { on := 5, ground := Ground.chain }, { on := 5, ground := Ground.guard }], guard := some (5, true) }) rfl (fun K hK => ?_) AllReadyH.nil
            go_simp
            go_at_call 25; refine (KR _).mono ?_; rintro e w7 ⟨rfl, hb7⟩
            refine hK.out _ _ ?_ (fun hHeld => ?_)
            · exact ⟨(hb7.cell (p := ⟨w.heap.size, 2, none⟩) (by simp <;> omega)).trans (by go_keep), (hb7.cell (p := ⟨w.heap.size, 3, none⟩) (by simp <;> omega)).trans (by go_keep), (hb7.cell (p := ⟨w.heap.size, 4, none⟩) (by simp <;> omega)).trans (by go_keep), (hb7.cell (p := ⟨w.heap.size + 1, 0, none⟩) (by simp <;> omega)).trans (by go_keep), (hb7.cell (p := ⟨w.heap.size + 1, 1, none⟩) (by simp <;> omega)).trans (by go_keep), (hb7.cell (p := ⟨w.heap.size + 1, 2, none⟩) (by simp <;> omega)).trans (by go_keep), (hb7.cell (p := ⟨w.heap.size + 1, 3, none⟩) (by simp <;> omega)).trans (by go_keep), (hb7.cell (p := ⟨w.heap.size + 1, 4, none⟩) (by simp <;> omega)).trans (by go_keep), (hb7.cell (p := ⟨w.heap.size + 1, 5, none⟩) (by simp <;> omega)).trans (by go_keep), (hb7.cell (p := ⟨w.heap.size + 1, 6, none⟩) (by simp <;> omega)).trans (by go_keep), (hb7.cell (p := ⟨w.heap.size + 1, 7, none⟩) (by simp <;> omega)).trans (by go_keep), (hb7.cell (p := ⟨w.heap.size + 1, 8, none⟩) (by simp <;> omega)).trans (by go_keep), (hb7.cell (p := ⟨w.heap.size + 1, 9, none⟩) (by simp <;> omega)).trans (by go_keep)⟩
            clear hK K
            try simp only [Act.put, List.setIfInBounds_toArray, List.set_cons_zero, List.set_cons_succ]
            refine wpAnyH_take (i := 10) (oi := { dst := some 25, op := Op.binOp BinOp.eql 4 (Operand.tmp 22) (Operand.tmp 24) 4, type := 4, pos := "ref.go:113", after := #[{ on := 7, ground := Ground.data }, { on := 9, ground := Ground.data }, { on := 5, ground := Ground.guard }], guard := some (5, true) }) (v := ?_) rfl (by kernel_rfl) (by kernel_rfl) (by kernel_rfl) (fun _ _ _ h => h) (Or.inl ⟨by rfl, ?_⟩) (by assumption) ?_
            rotate_left
            · intro wS hSw; go_split_ands; go_simp; first | done | with_reducible rfl
            simp only [Act.put, List.setIfInBounds_toArray, List.set_cons_zero, List.set_cons_succ]
            refine wpAnyH_take (i := 11) (oi := { dst := some 26, op := Op.pick (Operand.tmp 20) (Operand.tmp 25) (Operand.const (Value.bool false)), type := 4, pos := "ref.go:113", after := #[{ on := 5, ground := Ground.data }, { on := 10, ground := Ground.data }], guard := none }) (v := ?_) rfl (by kernel_rfl) (by kernel_rfl) (by kernel_rfl) (fun _ _ _ h => h) (Or.inl ⟨by rfl, ?_⟩) (by assumption) ?_
            rotate_left
            · intro wS hSw; go_split_ands; go_simp; first | done | with_reducible rfl
            simp only [Act.put, List.setIfInBounds_toArray, List.set_cons_zero, List.set_cons_succ]
            refine wpAnyH_take (i := 12) (oi := { dst := some 27, op := Op.move (Operand.tmp 26), type := 4, pos := "ref.go:113", after := #[{ on := 11, ground := Ground.data }, { on := 9, ground := Ground.chain }], guard := none }) (v := ?_) rfl (by kernel_rfl) (by kernel_rfl) (by kernel_rfl) (fun _ _ _ h => h) (Or.inl ⟨by rfl, ?_⟩) (by assumption) ?_
            rotate_left
            · intro wS hSw; go_split_ands; go_simp; first | done | with_reducible rfl
            simp only [Act.put, List.setIfInBounds_toArray, List.set_cons_zero, List.set_cons_succ]
            refine wpAnyH_take (i := 13) (oi := { dst := some 28, op := Op.move (Operand.tmp 5), type := 3, pos := "ref.go:113", after := #[{ on := 12, ground := Ground.guard }], guard := some (12, true) }) (v := ?_) rfl (by kernel_rfl) (by kernel_rfl) (by kernel_rfl) (fun _ _ _ h => h) (Or.inl ⟨by rfl, ?_⟩) (by assumption) ?_
            rotate_left
            · intro wS hSw; go_split_ands; go_simp; first | done | with_reducible rfl
            simp only [Act.put, List.setIfInBounds_toArray, List.set_cons_zero, List.set_cons_succ]
            refine wpAnyH_take (i := 14) (oi := { dst := some 29, op := Op.fieldAddr 53 (Operand.tmp 3) 0, type := 0, pos := "ref.go:113", after := #[{ on := 12, ground := Ground.guard }], guard := some (12, true) }) (v := ?_) rfl (by kernel_rfl) (by kernel_rfl) (by kernel_rfl) (fun _ _ _ h => h) (Or.inl ⟨by rfl, ?_⟩) (by assumption) ?_
            rotate_left
            · intro wS hSw; go_split_ands; go_simp; first | done | with_reducible rfl
            simp only [Act.put, List.setIfInBounds_toArray, List.set_cons_zero, List.set_cons_succ]
            refine wpAnyH_take (i := 15) (oi := { dst := some 30, op := Op.load 3 (Operand.tmp 29), type := 3, pos := "ref.go:113", after := #[{ on := 14, ground := Ground.data }, { on := 12, ground := Ground.guard }], guard := some (12, true) }) (v := ?_) rfl (by kernel_rfl) (by kernel_rfl) (by kernel_rfl) (fun _ _ _ h => h) (Or.inl ⟨by rfl, ?_⟩) (by assumption) ?_
            rotate_left
            · intro wS hSw; go_split_ands; go_simp; first | done | with_reducible rfl
            simp only [Act.put, List.setIfInBounds_toArray, List.set_cons_zero, List.set_cons_succ]
            refine wpAnyH_take (i := 16) (oi := { dst := some 31, op := Op.binOp BinOp.eql 3 (Operand.tmp 28) (Operand.tmp 30) 3, type := 4, pos := "ref.go:113", after := #[{ on := 13, ground := Ground.data }, { on := 15, ground := Ground.data }, { on := 12, ground := Ground.guard }], guard := some (12, true) }) (v := ?_) rfl (by kernel_rfl) (by kernel_rfl) (by kernel_rfl) (fun _ _ _ h => h) (Or.inl ⟨by rfl, ?_⟩) (by assumption) ?_
            rotate_left
            · intro wS hSw; go_split_ands; go_simp; first | done | with_reducible rfl
            simp only [Act.put, List.setIfInBounds_toArray, List.set_cons_zero, List.set_cons_succ]
            refine wpAnyH_take (i := 17) (oi := { dst := some 32, op := Op.pick (Operand.tmp 27) (Operand.tmp 31) (Operand.const (Value.bool false)), type := 4, pos := "ref.go:113", after := #[{ on := 12, ground := Ground.data }, { on := 16, ground := Ground.data }], guard := none }) (v := ?_) rfl (by kernel_rfl) (by kernel_rfl) (by kernel_rfl) (fun _ _ _ h => h) (Or.inl ⟨by rfl, ?_⟩) (by assumption) ?_
            rotate_left
            · intro wS hSw; go_split_ands; go_simp; first | done | with_reducible rfl
            simp only [Act.put, List.setIfInBounds_toArray, List.set_cons_zero, List.set_cons_succ]
            refine wpAnyH_ready (rs := [18]) (by kernel_rfl) (by simp) ?_
            refine AllReadyH.cons (o := { dst := some 4, op := Op.assign (Operand.tmp 32), type := 4, pos := "ref.go:113", after := #[{ on := 17, ground := Ground.data }, { on := 12, ground := Ground.chain }, { on := 0, ground := Ground.phase }, { on := 1, ground := Ground.phase }, { on := 2, ground := Ground.phase }, { on := 3, ground := Ground.phase }, { on := 4, ground := Ground.phase }, { on := 5, ground := Ground.phase }, { on := 6, ground := Ground.phase }, { on := 7, ground := Ground.phase }, { on := 8, ground := Ground.phase }, { on := 9, ground := Ground.phase }, { on := 10, ground := Ground.phase }, { on := 11, ground := Ground.phase }, { on := 12, ground := Ground.phase }, { on := 13, ground := Ground.phase }, { on := 14, ground := Ground.phase }, { on := 15, ground := Ground.phase }, { on := 16, ground := Ground.phase }, { on := 17, ground := Ground.phase }], guard := none }) rfl (fun K hK => ?_) AllReadyH.nil
            go_simp
            refine hK.out _ _ ?_ (fun hHeld => ?_)
            · exact ⟨(hb7.cell (p := ⟨w.heap.size, 2, none⟩) (by simp <;> omega)).trans (by go_keep), (hb7.cell (p := ⟨w.heap.size, 3, none⟩) (by simp <;> omega)).trans (by go_keep), (hb7.cell (p := ⟨w.heap.size, 4, none⟩) (by simp <;> omega)).trans (by go_keep), (hb7.cell (p := ⟨w.heap.size + 1, 0, none⟩) (by simp <;> omega)).trans (by go_keep), (hb7.cell (p := ⟨w.heap.size + 1, 1, none⟩) (by simp <;> omega)).trans (by go_keep), (hb7.cell (p := ⟨w.heap.size + 1, 2, none⟩) (by simp <;> omega)).trans (by go_keep), (hb7.cell (p := ⟨w.heap.size + 1, 3, none⟩) (by simp <;> omega)).trans (by go_keep), (hb7.cell (p := ⟨w.heap.size + 1, 4, none⟩) (by simp <;> omega)).trans (by go_keep), (hb7.cell (p := ⟨w.heap.size + 1, 5, none⟩) (by simp <;> omega)).trans (by go_keep), (hb7.cell (p := ⟨w.heap.size + 1, 6, none⟩) (by simp <;> omega)).trans (by go_keep), (hb7.cell (p := ⟨w.heap.size + 1, 7, none⟩) (by simp <;> omega)).trans (by go_keep), (hb7.cell (p := ⟨w.heap.size + 1, 8, none⟩) (by simp <;> omega)).trans (by go_keep), (hb7.cell (p := ⟨w.heap.size + 1, 9, none⟩) (by simp <;> omega)).trans (by go_keep)⟩
            clear hK K
            try simp only [Act.put, List.setIfInBounds_toArray, List.set_cons_zero, List.set_cons_succ]
            refine wpAnyH_done (by kernel_rfl) ?_ _
            go_wp2
            go_ret
            exact ⟨by rw [E.out]; rfl, HB.drew.trans (hb7.mono HB.size)⟩
          have d : (az + al == p0) = false := beq_eq_false_iff_ne.2 hq
          have E := Lib.hid (show joinB ⟨ae, al, az, true, true⟩ ⟨0, 1, p0, true, true⟩ = false by unfold joinB endS; simp [hq])
          have HB : Below w.heap.size w ((w.alloc (.cells #[.int .i64 ae, .int .i64 al, .int .i64 az, .bool true, .bool true] 36)).alloc (.cells #[.int .i64 p0, .bool true, .int .i64 p2, .int .i64 p3, .int .i64 p4, .int .i64 p5, .int .i64 p6, .int .i64 p7, .int .i64 p8, .int .i64 p9] 53)) := ((Below.refl _ w).alloc (Nat.le_refl _) _).alloc (by simp) _
          try clear hq
          go_enter Try.func28, Try.ntmps28
          go_wp2
          refine wp_region_held_drew (S := (fun W => W.cell? ⟨w.heap.size, 2, none⟩ = some (.int .i64 az) ∧ W.cell? ⟨w.heap.size, 3, none⟩ = some (.bool true) ∧ W.cell? ⟨w.heap.size, 4, none⟩ = some (.bool true) ∧ W.cell? ⟨w.heap.size + 1, 0, none⟩ = some (.int .i64 p0) ∧ W.cell? ⟨w.heap.size + 1, 1, none⟩ = some (.bool true) ∧ W.cell? ⟨w.heap.size + 1, 2, none⟩ = some (.int .i64 p2) ∧ W.cell? ⟨w.heap.size + 1, 3, none⟩ = some (.int .i64 p3) ∧ W.cell? ⟨w.heap.size + 1, 4, none⟩ = some (.int .i64 p4) ∧ W.cell? ⟨w.heap.size + 1, 5, none⟩ = some (.int .i64 p5) ∧ W.cell? ⟨w.heap.size + 1, 6, none⟩ = some (.int .i64 p6) ∧ W.cell? ⟨w.heap.size + 1, 7, none⟩ = some (.int .i64 p7) ∧ W.cell? ⟨w.heap.size + 1, 8, none⟩ = some (.int .i64 p8) ∧ W.cell? ⟨w.heap.size + 1, 9, none⟩ = some (.int .i64 p9))) (by kernel_rfl) ?_ (fun hHeld => ?_)
          · go_keep
          try dsimp only at hHeld
          refine wpAnyH_take (i := 0) (oi := { dst := some 15, op := Op.fieldAddr 36 (Operand.tmp 2) 3, type := 0, pos := "ref.go:113", after := #[], guard := none }) (v := ?_) rfl (by kernel_rfl) (by kernel_rfl) (by kernel_rfl) (fun _ _ _ h => h) (Or.inl ⟨by rfl, ?_⟩) (by assumption) ?_
          rotate_left
          · intro wS hSw; go_split_ands; go_simp; first | done | with_reducible rfl
          simp only [Act.put, List.setIfInBounds_toArray, List.set_cons_zero, List.set_cons_succ]
          refine wpAnyH_take (i := 1) (oi := { dst := some 16, op := Op.load 4 (Operand.tmp 15), type := 4, pos := "ref.go:113", after := #[{ on := 0, ground := Ground.data }], guard := none }) (v := ?_) rfl (by kernel_rfl) (by kernel_rfl) (by kernel_rfl) (fun _ _ _ h => h) (Or.inl ⟨by rfl, ?_⟩) (by assumption) ?_
          rotate_left
          · intro wS hSw; go_split_ands; go_simp; first | done | with_reducible rfl
          simp only [Act.put, List.setIfInBounds_toArray, List.set_cons_zero, List.set_cons_succ]
          refine wpAnyH_take (i := 2) (oi := { dst := some 17, op := Op.fieldAddr 53 (Operand.tmp 3) 1, type := 0, pos := "ref.go:113", after := #[], guard := none }) (v := ?_) rfl (by kernel_rfl) (by kernel_rfl) (by kernel_rfl) (fun _ _ _ h => h) (Or.inl ⟨by rfl, ?_⟩) (by assumption) ?_
          rotate_left
          · intro wS hSw; go_split_ands; go_simp; first | done | with_reducible rfl
          simp only [Act.put, List.setIfInBounds_toArray, List.set_cons_zero, List.set_cons_succ]
          refine wpAnyH_take (i := 3) (oi := { dst := some 18, op := Op.load 4 (Operand.tmp 17), type := 4, pos := "ref.go:113", after := #[{ on := 2, ground := Ground.data }], guard := none }) (v := ?_) rfl (by kernel_rfl) (by kernel_rfl) (by kernel_rfl) (fun _ _ _ h => h) (Or.inl ⟨by rfl, ?_⟩) (by assumption) ?_
          rotate_left
          · intro wS hSw; go_split_ands; go_simp; first | done | with_reducible rfl
          simp only [Act.put, List.setIfInBounds_toArray, List.set_cons_zero, List.set_cons_succ]
          refine wpAnyH_take (i := 4) (oi := { dst := some 19, op := Op.binOp BinOp.eql 4 (Operand.tmp 16) (Operand.tmp 18) 4, type := 4, pos := "ref.go:113", after := #[{ on := 1, ground := Ground.data }, { on := 3, ground := Ground.data }], guard := none }) (v := ?_) rfl (by kernel_rfl) (by kernel_rfl) (by kernel_rfl) (fun _ _ _ h => h) (Or.inl ⟨by rfl, ?_⟩) (by assumption) ?_
          rotate_left
          · intro wS hSw; go_split_ands; go_simp; first | done | with_reducible rfl
          simp only [Act.put, List.setIfInBounds_toArray, List.set_cons_zero, List.set_cons_succ]
          refine wpAnyH_take (i := 5) (oi := { dst := some 20, op := Op.move (Operand.tmp 19), type := 4, pos := "ref.go:113", after := #[{ on := 4, ground := Ground.data }], guard := none }) (v := ?_) rfl (by kernel_rfl) (by kernel_rfl) (by kernel_rfl) (fun _ _ _ h => h) (Or.inl ⟨by rfl, ?_⟩) (by assumption) ?_
          rotate_left
          · intro wS hSw; go_split_ands; go_simp; first | done | with_reducible rfl
          simp only [Act.put, List.setIfInBounds_toArray, List.set_cons_zero, List.set_cons_succ]
          refine wpAnyH_take (i := 6) (oi := { dst := some 21, op := Op.fieldAddr 36 (Operand.tmp 2) 4, type := 0, pos := "ref.go:113", after := #[{ on := 5, ground := Ground.guard }], guard := some (5, true) }) (v := ?_) rfl (by kernel_rfl) (by kernel_rfl) (by kernel_rfl) (fun _ _ _ h => h) (Or.inl ⟨by rfl, ?_⟩) (by assumption) ?_
          rotate_left
          · intro wS hSw; go_split_ands; go_simp; first | done | with_reducible rfl
          simp only [Act.put, List.setIfInBounds_toArray, List.set_cons_zero, List.set_cons_succ]
          refine wpAnyH_take (i := 7) (oi := { dst := some 22, op := Op.load 4 (Operand.tmp 21), type := 4, pos := "ref.go:113", after := #[{ on := 6, ground := Ground.data }, { on := 5, ground := Ground.guard }], guard := some (5, true) }) (v := ?_) rfl (by kernel_rfl) (by kernel_rfl) (by kernel_rfl) (fun _ _ _ h => h) (Or.inl ⟨by rfl, ?_⟩) (by assumption) ?_
          rotate_left
          · intro wS hSw; go_split_ands; go_simp; first | done | with_reducible rfl
          simp only [Act.put, List.setIfInBounds_toArray, List.set_cons_zero, List.set_cons_succ]
          refine wpAnyH_take (i := 8) (oi := { dst := some 23, op := Op.load 53 (Operand.tmp 3), type := 53, pos := "ref.go:113", after := #[{ on := 5, ground := Ground.guard }], guard := some (5, true) }) (v := ?_) rfl (by kernel_rfl) (by kernel_rfl) (by kernel_rfl) (fun _ _ _ h => h) (Or.inl ⟨by rfl, ?_⟩) (by assumption) ?_
          rotate_left
          · intro wS hSw; go_split_ands; go_simp; first | done | with_reducible rfl
          simp only [Act.put, List.setIfInBounds_toArray, List.set_cons_zero, List.set_cons_succ]
          refine wpAnyH_ready (rs := [9]) (by kernel_rfl) (by simp) ?_
          refine AllReadyH.cons (o := { dst := some 24, op := Op.call { callee := Callee.value (Operand.func 25), args := #[Operand.tmp 23], argTypes := #[53] }, type := 4, pos := "ref.go:113", after := #[{ on := 8, ground := Ground.data }, { on := 5, ground := Ground.chain }, { on := 5, ground := Ground.guard }], guard := some (5, true) }) rfl (fun K hK => ?_) AllReadyH.nil
          go_simp
          go_at_call 25; refine (KR _).mono ?_; rintro e w7 ⟨rfl, hb7⟩
          refine hK.out _ _ ?_ (fun hHeld => ?_)
          · exact ⟨(hb7.cell (p := ⟨w.heap.size, 2, none⟩) (by simp <;> omega)).trans (by go_keep), (hb7.cell (p := ⟨w.heap.size, 3, none⟩) (by simp <;> omega)).trans (by go_keep), (hb7.cell (p := ⟨w.heap.size, 4, none⟩) (by simp <;> omega)).trans (by go_keep), (hb7.cell (p := ⟨w.heap.size + 1, 0, none⟩) (by simp <;> omega)).trans (by go_keep), (hb7.cell (p := ⟨w.heap.size + 1, 1, none⟩) (by simp <;> omega)).trans (by go_keep), (hb7.cell (p := ⟨w.heap.size + 1, 2, none⟩) (by simp <;> omega)).trans (by go_keep), (hb7.cell (p := ⟨w.heap.size + 1, 3, none⟩) (by simp <;> omega)).trans (by go_keep), (hb7.cell (p := ⟨w.heap.size + 1, 4, none⟩) (by simp <;> omega)).trans (by go_keep), (hb7.cell (p := ⟨w.heap.size + 1, 5, none⟩) (by simp <;> omega)).trans (by go_keep), (hb7.cell (p := ⟨w.heap.size + 1, 6, none⟩) (by simp <;> omega)).trans (by go_keep), (hb7.cell (p := ⟨w.heap.size + 1, 7, none⟩) (by simp <;> omega)).trans (by go_keep), (hb7.cell (p := ⟨w.heap.size + 1, 8, none⟩) (by simp <;> omega)).trans (by go_keep), (hb7.cell (p := ⟨w.heap.size + 1, 9, none⟩) (by simp <;> omega)).trans (by go_keep)⟩
          clear hK K
          try simp only [Act.put, List.setIfInBounds_toArray, List.set_cons_zero, List.set_cons_succ]
          refine wpAnyH_take (i := 10) (oi := { dst := some 25, op := Op.binOp BinOp.eql 4 (Operand.tmp 22) (Operand.tmp 24) 4, type := 4, pos := "ref.go:113", after := #[{ on := 7, ground := Ground.data }, { on := 9, ground := Ground.data }, { on := 5, ground := Ground.guard }], guard := some (5, true) }) (v := ?_) rfl (by kernel_rfl) (by kernel_rfl) (by kernel_rfl) (fun _ _ _ h => h) (Or.inl ⟨by rfl, ?_⟩) (by assumption) ?_
          rotate_left
          · intro wS hSw; go_split_ands; go_simp; first | done | with_reducible rfl
          simp only [Act.put, List.setIfInBounds_toArray, List.set_cons_zero, List.set_cons_succ]
          refine wpAnyH_take (i := 11) (oi := { dst := some 26, op := Op.pick (Operand.tmp 20) (Operand.tmp 25) (Operand.const (Value.bool false)), type := 4, pos := "ref.go:113", after := #[{ on := 5, ground := Ground.data }, { on := 10, ground := Ground.data }], guard := none }) (v := ?_) rfl (by kernel_rfl) (by kernel_rfl) (by kernel_rfl) (fun _ _ _ h => h) (Or.inl ⟨by rfl, ?_⟩) (by assumption) ?_
          rotate_left
          · intro wS hSw; go_split_ands; go_simp; first | done | with_reducible rfl
          simp only [Act.put, List.setIfInBounds_toArray, List.set_cons_zero, List.set_cons_succ]
          refine wpAnyH_take (i := 12) (oi := { dst := some 27, op := Op.move (Operand.tmp 26), type := 4, pos := "ref.go:113", after := #[{ on := 11, ground := Ground.data }, { on := 9, ground := Ground.chain }], guard := none }) (v := ?_) rfl (by kernel_rfl) (by kernel_rfl) (by kernel_rfl) (fun _ _ _ h => h) (Or.inl ⟨by rfl, ?_⟩) (by assumption) ?_
          rotate_left
          · intro wS hSw; go_split_ands; go_simp; first | done | with_reducible rfl
          simp only [Act.put, List.setIfInBounds_toArray, List.set_cons_zero, List.set_cons_succ]
          refine wpAnyH_take (i := 13) (oi := { dst := some 28, op := Op.move (Operand.tmp 5), type := 3, pos := "ref.go:113", after := #[{ on := 12, ground := Ground.guard }], guard := some (12, true) }) (v := ?_) rfl (by kernel_rfl) (by kernel_rfl) (by kernel_rfl) (fun _ _ _ h => h) (Or.inl ⟨by rfl, ?_⟩) (by assumption) ?_
          rotate_left
          · intro wS hSw; go_split_ands; go_simp; first | done | with_reducible rfl
          simp only [Act.put, List.setIfInBounds_toArray, List.set_cons_zero, List.set_cons_succ]
          refine wpAnyH_take (i := 14) (oi := { dst := some 29, op := Op.fieldAddr 53 (Operand.tmp 3) 0, type := 0, pos := "ref.go:113", after := #[{ on := 12, ground := Ground.guard }], guard := some (12, true) }) (v := ?_) rfl (by kernel_rfl) (by kernel_rfl) (by kernel_rfl) (fun _ _ _ h => h) (Or.inl ⟨by rfl, ?_⟩) (by assumption) ?_
          rotate_left
          · intro wS hSw; go_split_ands; go_simp; first | done | with_reducible rfl
          simp only [Act.put, List.setIfInBounds_toArray, List.set_cons_zero, List.set_cons_succ]
          refine wpAnyH_take (i := 15) (oi := { dst := some 30, op := Op.load 3 (Operand.tmp 29), type := 3, pos := "ref.go:113", after := #[{ on := 14, ground := Ground.data }, { on := 12, ground := Ground.guard }], guard := some (12, true) }) (v := ?_) rfl (by kernel_rfl) (by kernel_rfl) (by kernel_rfl) (fun _ _ _ h => h) (Or.inl ⟨by rfl, ?_⟩) (by assumption) ?_
          rotate_left
          · intro wS hSw; go_split_ands; go_simp; first | done | with_reducible rfl
          simp only [Act.put, List.setIfInBounds_toArray, List.set_cons_zero, List.set_cons_succ]
          refine wpAnyH_take (i := 16) (oi := { dst := some 31, op := Op.binOp BinOp.eql 3 (Operand.tmp 28) (Operand.tmp 30) 3, type := 4, pos := "ref.go:113", after := #[{ on := 13, ground := Ground.data }, { on := 15, ground := Ground.data }, { on := 12, ground := Ground.guard }], guard := some (12, true) }) (v := ?_) rfl (by kernel_rfl) (by kernel_rfl) (by kernel_rfl) (fun _ _ _ h => h) (Or.inl ⟨by rfl, ?_⟩) (by assumption) ?_
          rotate_left
          · intro wS hSw; go_split_ands; go_simp; first | done | with_reducible rfl
          simp only [Act.put, List.setIfInBounds_toArray, List.set_cons_zero, List.set_cons_succ]
          refine wpAnyH_take (i := 17) (oi := { dst := some 32, op := Op.pick (Operand.tmp 27) (Operand.tmp 31) (Operand.const (Value.bool false)), type := 4, pos := "ref.go:113", after := #[{ on := 12, ground := Ground.data }, { on := 16, ground := Ground.data }], guard := none }) (v := ?_) rfl (by kernel_rfl) (by kernel_rfl) (by kernel_rfl) (fun _ _ _ h => h) (Or.inl ⟨by rfl, ?_⟩) (by assumption) ?_
          rotate_left
          · intro wS hSw; go_split_ands; go_simp; first | done | with_reducible rfl
          simp only [Act.put, List.setIfInBounds_toArray, List.set_cons_zero, List.set_cons_succ]
          refine wpAnyH_ready (rs := [18]) (by kernel_rfl) (by simp) ?_
          refine AllReadyH.cons (o := { dst := some 4, op := Op.assign (Operand.tmp 32), type := 4, pos := "ref.go:113", after := #[{ on := 17, ground := Ground.data }, { on := 12, ground := Ground.chain }, { on := 0, ground := Ground.phase }, { on := 1, ground := Ground.phase }, { on := 2, ground := Ground.phase }, { on := 3, ground := Ground.phase }, { on := 4, ground := Ground.phase }, { on := 5, ground := Ground.phase }, { on := 6, ground := Ground.phase }, { on := 7, ground := Ground.phase }, { on := 8, ground := Ground.phase }, { on := 9, ground := Ground.phase }, { on := 10, ground := Ground.phase }, { on := 11, ground := Ground.phase }, { on := 12, ground := Ground.phase }, { on := 13, ground := Ground.phase }, { on := 14, ground := Ground.phase }, { on := 15, ground := Ground.phase }, { on := 16, ground := Ground.phase }, { on := 17, ground := Ground.phase }], guard := none }) rfl (fun K hK => ?_) AllReadyH.nil
          go_simp
          refine hK.out _ _ ?_ (fun hHeld => ?_)
          · exact ⟨(hb7.cell (p := ⟨w.heap.size, 2, none⟩) (by simp <;> omega)).trans (by go_keep), (hb7.cell (p := ⟨w.heap.size, 3, none⟩) (by simp <;> omega)).trans (by go_keep), (hb7.cell (p := ⟨w.heap.size, 4, none⟩) (by simp <;> omega)).trans (by go_keep), (hb7.cell (p := ⟨w.heap.size + 1, 0, none⟩) (by simp <;> omega)).trans (by go_keep), (hb7.cell (p := ⟨w.heap.size + 1, 1, none⟩) (by simp <;> omega)).trans (by go_keep), (hb7.cell (p := ⟨w.heap.size + 1, 2, none⟩) (by simp <;> omega)).trans (by go_keep), (hb7.cell (p := ⟨w.heap.size + 1, 3, none⟩) (by simp <;> omega)).trans (by go_keep), (hb7.cell (p := ⟨w.heap.size + 1, 4, none⟩) (by simp <;> omega)).trans (by go_keep), (hb7.cell (p := ⟨w.heap.size + 1, 5, none⟩) (by simp <;> omega)).trans (by go_keep), (hb7.cell (p := ⟨w.heap.size + 1, 6, none⟩) (by simp <;> omega)).trans (by go_keep), (hb7.cell (p := ⟨w.heap.size + 1, 7, none⟩) (by simp <;> omega)).trans (by go_keep), (hb7.cell (p := ⟨w.heap.size + 1, 8, none⟩) (by simp <;> omega)).trans (by go_keep), (hb7.cell (p := ⟨w.heap.size + 1, 9, none⟩) (by simp <;> omega)).trans (by go_keep)⟩
          clear hK K
          try simp only [Act.put, List.setIfInBounds_toArray, List.set_cons_zero, List.set_cons_succ]
          refine wpAnyH_done (by kernel_rfl) ?_ _
          go_wp2
          go_ret
          exact ⟨by rw [E.out]; rfl, HB.drew.trans (hb7.mono HB.size)⟩
end Go.Proofs.Ytjkclplnflaplaa
