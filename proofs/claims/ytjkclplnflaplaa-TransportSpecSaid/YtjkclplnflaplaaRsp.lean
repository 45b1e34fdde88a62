/-
  The reference's Spans puts the samples together one by one. Conditions: the orders lie as a list, few samples or a number that is not allowed.
-/
import Derived.Test.YtjkclplnflaplaaRsg
import Derived.Test.YtjkclplnflaplaaUnt
import Derived.Test.YtjkclplnflaplaaSpans
namespace Go.Proofs.Ytjkclplnflaplaa
open Go.RowKit
attribute [local go_sem] Oper.semAt_some

theorem results_tmp2 {fn : Func} {t u : Tmp} (h : fn.results = #[.tmp t, .tmp u]) (tmps : Array Value) (P : Program) (w : World) :
    (results fn tmps).run P w = .ok (.tuple #[tmps.getD t undef, tmps.getD u undef]) w := by simp [results, h]

def RspW (w1 : World) (l : List Ord) (n : Int) (ov mv : Value) (wr : World) : Prop :=
  ∃ (m : Nat) (acc : List Sp), mv = .int .i64 m ∧ (m : Int) ≤ n ∧ Hid (acc = rAcc l m) ∧ wr.ownsRow w1.heap.size 36 5 ov acc.length (flat5 acc) ∧ Below w1.heap.size w1 wr

set_option maxRecDepth 20000 in
set_option maxHeartbeats 1500000 in
theorem rspans_t (A : Option Addr) (c : Nat) (l : List Ord) (n : Int) (w : World) (hn : l.length ≤ 1000000000) (h : SlAt w A l) (hfew : n ≤ 200 ∨ 1099511627776 < n) :
    Calls Try.prog 17 #[.slice A l.length c, .int .i64 n] w (SpansIs w (gSpans l n)) := by
  have KC := rcheck_t A c l w hn h
  by_cases hc : gCheck l = 0
  case neg =>
    have E := Lib.hid (show gSpans l n = ([], gCheck l) by unfold gSpans; rw [if_pos hc])
    have d : (gCheck l != 0) = true := bne_iff_ne.2 hc
    clear hc
    go_enter Try.func17, Try.ntmps17
    go_wp2_with (go_at_call 13; refine KC.mono ?_; rintro e w1 ⟨rfl, hw1⟩)
    refine bodyPost_ret (results_tmp2 rfl _ _ _) rfl ?_
    rw [E.out]
    exact ⟨none, 0, rfl, fun h0 => absurd h0 (by simp), hw1⟩
  have hg := good_of_check hc
  have hle := len_of_check hc
  have HC := Lib.hid hc
  rw [hc] at KC
  by_cases r1 : n < 0
  · have E := Lib.hid (show gSpans l n = ([], 1) by unfold gSpans; rw [if_neg (not_not_intro hc), if_pos (.inl r1)])
    have d : decide (n < 0) = true := decide_eq_true r1
    clear hc r1
    go_enter Try.func17, Try.ntmps17
    go_wp2_with (go_at_call 13; refine KC.mono ?_; rintro e w1 ⟨rfl, hw1⟩)
    refine bodyPost_ret (results_tmp2 rfl _ _ _) rfl ?_
    rw [E.out]
    exact ⟨none, 0, rfl, fun h0 => absurd h0 (by simp), hw1⟩
  have d : decide (n < 0) = false := decide_eq_false r1
  by_cases r2 : 1099511627776 < n
  · have E := Lib.hid (show gSpans l n = ([], 1) by unfold gSpans; rw [if_neg (not_not_intro hc), if_pos (.inr r2)])
    have d2 : decide (1099511627776 < n) = true := decide_eq_true r2
    clear hc r2
    go_enter Try.func17, Try.ntmps17
    go_wp2_with (go_at_call 13; refine KC.mono ?_; rintro e w1 ⟨rfl, hw1⟩)
    refine bodyPost_ret (results_tmp2 rfl _ _ _) rfl ?_
    rw [E.out]
    exact ⟨none, 0, rfl, fun h0 => absurd h0 (by simp), hw1⟩
  have d2 : decide (1099511627776 < n) = false := decide_eq_false r2
  have HG := Lib.hid hg
  have t0 : 0 ≤ n := by omega
  have t1 : n ≤ 200 := by omega
  have E := Lib.hid (show gSpans l n = (rAcc l n.toNat, 0) by
    have := gSpans_r hc n.toNat (by omega)
    rw [show ((n.toNat : Nat) : Int) = n by omega] at this
    exact this)
  obtain ⟨i0, hi0, hz0, hz1, hz2⟩ := info_parts info36
  clear hc hg r1 r2 hfew
  go_enter Try.func17, Try.ntmps17
  go_wp2_with (fail)
  go_at_call 13
  refine KC.mono ?_
  rintro e w1 ⟨rfl, hw1⟩
  have h1 := h.below hw1
  have ow := World.ownsRow_lit (base := w1.heap.size) (e := 36) (size := 5) w1 #[] 0 (Nat.le_refl _) (by simp [maxLen]) rfl
  have hal : Below w1.heap.size w1 (w1.alloc (.cells #[] 36)) := (Below.refl _ _).alloc (Nat.le_refl _) _
  clear KC
  go_wp2_with (fail)
  go_loopw [7, 8] (fun ov mv wr => RspW w1 l n ov mv wr) (fun _ mv _ => (n - intOf mv).toNat)
  case atStart => exact ⟨0, [], rfl, by omega, Lib.hid rfl, ow, hal⟩
  case round =>
    clear ow hal
    obtain ⟨m, acc, rfl, hmn, HACC, hown, hwr⟩ := hrel
    by_cases hlt : (m : Int) < n
    case neg =>
      have hmn2 : n.toNat = m := by omega
      have E3 := Lib.hid (show gSpans l n = (acc, 0) by rw [E.out, hmn2, HACC.out])
      obtain ⟨V, cp, rfl⟩ := own_slice hown
      have hS := own_SpAt hown
      clear hmn2
      go_wp2_with (fail)
      refine bodyPost_ret (results_tmp2 rfl _ _ _) rfl ?_
      rw [E3.out]
      exact ⟨V, cp, rfl, hS.2, hw1.trans (hwr.mono hw1.size)⟩
    have hfine := rAcc_fine HG.out m (by omega)
    rw [← HACC.out] at hfine
    have hcnt := hfine.chain.count
    have l1 := h1.below hwr
    have KA := at_t A c l m wr hle HG.out l1 (by omega) (by omega)
    obtain ⟨V, cp, rfl⟩ := own_slice hown
    have hsz := hwr.size
    go_wp2_with (fail)
    go_at_call 24
    refine KA.mono ?_
    rintro e w5 ⟨r, hs, rfl, hw5⟩
    have KR := fun W => rrec_t r W
    have hsu : uS l m = ⟨m, 1, r.pos, r.roll, recR r⟩ := by
      unfold uS
      rw [hs.pos, hs.roll, hs.rec_]
    have hjj : ∀ a : Sp, joinB a ⟨0, 1, r.pos, r.roll, recR r⟩ = joinB a (uS l m) := fun a => by rw [hsu]; rfl
    have HSU := Lib.hid hsu
    obtain ⟨rb, hrb⟩ : ∃ x, x = recR r := ⟨_, rfl⟩
    rw [← hrb] at KR
    have KG := fun (a : Sp) W h0 h1 h2 h3 => goes_t a r W h0 h1 h2 h3
    simp only [hjj] at KG
    have HRB := Lib.hid hrb
    clear hs hrb hjj hsu KA
    obtain ⟨p0, p1, p2, p3, p4, p5, p6, p7, p8, p9⟩ := r
    unfold rsv rsc at KR KG ⊢
    dsimp only at KR KG ⊢
    have hown5 := row_keep5 hown hw5
    have hwr5 := hwr.trans (hw5.mono hwr.size)
    have hsz5 := hwr5.size
    have nB : Blk (w5.alloc (.cells #[.int .i64 p0, .bool p1, .int .i64 p2, .int .i64 p3, .int .i64 p4, .int .i64 p5, .int .i64 p6, .int .i64 p7, .int .i64 p8, .int .i64 p9] 53)) w5.heap.size 53 (rsc ⟨p0, p1, p2, p3, p4, p5, p6, p7, p8, p9⟩) := Blk.new w5 53 _
    have hown6 := hown5.alloc (.cells #[.int .i64 p0, .bool p1, .int .i64 p2, .int .i64 p3, .int .i64 p4, .int .i64 p5, .int .i64 p6, .int .i64 p7, .int .i64 p8, .int .i64 p9] 53)
    have hwr6 := hwr5.alloc hsz5 (.cells #[.int .i64 p0, .bool p1, .int .i64 p2, .int .i64 p3, .int .i64 p4, .int .i64 p5, .int .i64 p6, .int .i64 p7, .int .i64 p8, .int .i64 p9] 53)
    clear hown hw5 hwr hown5 l1
    by_cases hemp : acc = []
    · subst hemp
      simp only [List.length_nil] at hown6 ⊢
      have HN := Lib.hid (show [uS l m] = rAcc l (m + 1) by
        show _ = stepU (rAcc l m) (uS l m)
        rw [← HACC.out, stepU_new (.inl rfl)]
        rfl)
      clear KG hcnt hfine
      go_wp2_with (fail)
      refine wp_region_held_drew (S := (fun W => W.cell? ⟨w5.heap.size, 0, none⟩ = some (.int .i64 p0) ∧ W.cell? ⟨w5.heap.size, 1, none⟩ = some (.bool p1) ∧ W.cell? ⟨w5.heap.size, 2, none⟩ = some (.int .i64 p2) ∧ W.cell? ⟨w5.heap.size, 3, none⟩ = some (.int .i64 p3) ∧ W.cell? ⟨w5.heap.size, 4, none⟩ = some (.int .i64 p4) ∧ W.cell? ⟨w5.heap.size, 5, none⟩ = some (.int .i64 p5) ∧ W.cell? ⟨w5.heap.size, 6, none⟩ = some (.int .i64 p6) ∧ W.cell? ⟨w5.heap.size, 7, none⟩ = some (.int .i64 p7) ∧ W.cell? ⟨w5.heap.size, 8, none⟩ = some (.int .i64 p8) ∧ W.cell? ⟨w5.heap.size, 9, none⟩ = some (.int .i64 p9))) (by kernel_rfl) ?_ (fun hHeld => ?_)
      · go_keep
      try dsimp only at hHeld
      refine wpAnyH_take (i := 0) (oi := { dst := some 34, op := Op.move (Operand.tmp 10), type := 3, pos := "ref.go:129", after := #[], guard := none }) (v := ?_) rfl (by kernel_rfl) (by kernel_rfl) (by kernel_rfl) (fun _ _ _ h => h) (Or.inl ⟨by rfl, ?_⟩) (by assumption) ?_
      rotate_left
      · intro wS hSw; go_split_ands; go_simp; first | done | with_reducible rfl
      simp only [Act.put, List.setIfInBounds_toArray, List.set_cons_zero, List.set_cons_succ]
      refine wpAnyH_take (i := 1) (oi := { dst := some 35, op := Op.binOp BinOp.geq 3 (Operand.tmp 34) (Operand.const (Value.int IntKind.i64 0)) 3, type := 4, pos := "ref.go:129", after := #[{ on := 0, ground := Ground.data }], guard := none }) (v := ?_) rfl (by kernel_rfl) (by kernel_rfl) (by kernel_rfl) (fun _ _ _ h => h) (Or.inl ⟨by rfl, ?_⟩) (by assumption) ?_
      rotate_left
      · intro wS hSw; go_split_ands; go_simp; first | done | with_reducible rfl
      simp only [Act.put, List.setIfInBounds_toArray, List.set_cons_zero, List.set_cons_succ]
      refine wpAnyH_take (i := 2) (oi := { dst := some 36, op := Op.move (Operand.tmp 35), type := 4, pos := "ref.go:129", after := #[{ on := 1, ground := Ground.data }], guard := none }) (v := ?_) rfl (by kernel_rfl) (by kernel_rfl) (by kernel_rfl) (fun _ _ _ h => h) (Or.inl ⟨by rfl, ?_⟩) (by assumption) ?_
      rotate_left
      · intro wS hSw; go_split_ands; go_simp; first | done | with_reducible rfl
      simp only [Act.put, List.setIfInBounds_toArray, List.set_cons_zero, List.set_cons_succ]
      refine wpAnyH_take (i := 3) (oi := { dst := some 37, op := Op.move (Operand.tmp 7), type := 29, pos := "ref.go:129", after := #[{ on := 2, ground := Ground.guard }], guard := some (2, true) }) (v := undef) rfl (by kernel_rfl) (by kernel_rfl) (by kernel_rfl) (fun _ _ _ h => h) (Or.inr ⟨by rfl, rfl⟩) (by assumption) ?_
      simp only [Act.put, List.setIfInBounds_toArray, List.set_cons_zero, List.set_cons_succ]
      refine wpAnyH_take (i := 4) (oi := { dst := some 38, op := Op.move (Operand.tmp 10), type := 3, pos := "ref.go:129", after := #[{ on := 2, ground := Ground.guard }], guard := some (2, true) }) (v := undef) rfl (by kernel_rfl) (by kernel_rfl) (by kernel_rfl) (fun _ _ _ h => h) (Or.inr ⟨by rfl, rfl⟩) (by assumption) ?_
      simp only [Act.put, List.setIfInBounds_toArray, List.set_cons_zero, List.set_cons_succ]
      refine wpAnyH_take (i := 5) (oi := { dst := some 39, op := Op.indexAddr 29 (Operand.tmp 37) (Operand.tmp 38), type := 0, pos := "ref.go:129", after := #[{ on := 3, ground := Ground.data }, { on := 4, ground := Ground.data }, { on := 2, ground := Ground.guard }], guard := some (2, true) }) (v := undef) rfl (by kernel_rfl) (by kernel_rfl) (by kernel_rfl) (fun _ _ _ h => h) (Or.inr ⟨by rfl, rfl⟩) (by assumption) ?_
      simp only [Act.put, List.setIfInBounds_toArray, List.set_cons_zero, List.set_cons_succ]
      refine wpAnyH_take (i := 6) (oi := { dst := some 40, op := Op.load 36 (Operand.tmp 39), type := 36, pos := "ref.go:129", after := #[{ on := 5, ground := Ground.data }, { on := 2, ground := Ground.guard }], guard := some (2, true) }) (v := undef) rfl (by kernel_rfl) (by kernel_rfl) (by kernel_rfl) (fun _ _ _ h => h) (Or.inr ⟨by rfl, rfl⟩) (by assumption) ?_
      simp only [Act.put, List.setIfInBounds_toArray, List.set_cons_zero, List.set_cons_succ]
      refine wpAnyH_take (i := 7) (oi := { dst := some 41, op := Op.load 53 (Operand.tmp 9), type := 53, pos := "ref.go:129", after := #[{ on := 2, ground := Ground.guard }], guard := some (2, true) }) (v := undef) rfl (by kernel_rfl) (by kernel_rfl) (by kernel_rfl) (fun _ _ _ h => h) (Or.inr ⟨by rfl, rfl⟩) (by assumption) ?_
      simp only [Act.put, List.setIfInBounds_toArray, List.set_cons_zero, List.set_cons_succ]
      refine wpAnyH_take (i := 8) (oi := { dst := some 42, op := Op.call { callee := Callee.value (Operand.func 28), args := #[Operand.tmp 40, Operand.tmp 41], argTypes := #[36, 53] }, type := 4, pos := "ref.go:129", after := #[{ on := 6, ground := Ground.data }, { on := 7, ground := Ground.data }, { on := 2, ground := Ground.chain }, { on := 2, ground := Ground.guard }], guard := some (2, true) }) (v := undef) rfl (by kernel_rfl) (by kernel_rfl) (by kernel_rfl) (fun _ _ _ h => h) (Or.inr ⟨by rfl, rfl⟩) (by assumption) ?_
      simp only [Act.put, List.setIfInBounds_toArray, List.set_cons_zero, List.set_cons_succ]
      refine wpAnyH_take (i := 9) (oi := { dst := some 43, op := Op.pick (Operand.tmp 36) (Operand.tmp 42) (Operand.const (Value.bool false)), type := 4, pos := "ref.go:129", after := #[{ on := 2, ground := Ground.data }, { on := 8, ground := Ground.data }], guard := none }) (v := ?_) rfl (by kernel_rfl) (by kernel_rfl) (by kernel_rfl) (fun _ _ _ h => h) (Or.inl ⟨by rfl, ?_⟩) (by assumption) ?_
      rotate_left
      · intro wS hSw; go_split_ands; go_simp; first | done | with_reducible rfl
      simp only [Act.put, List.setIfInBounds_toArray, List.set_cons_zero, List.set_cons_succ]
      refine wpAnyH_done (by kernel_rfl) ?_ _
      go_wp2_with (fail)
      refine wp_region_held_drew (S := (fun W => W.cell? ⟨w5.heap.size, 0, none⟩ = some (.int .i64 p0) ∧ W.cell? ⟨w5.heap.size, 1, none⟩ = some (.bool p1) ∧ W.cell? ⟨w5.heap.size, 2, none⟩ = some (.int .i64 p2) ∧ W.cell? ⟨w5.heap.size, 3, none⟩ = some (.int .i64 p3) ∧ W.cell? ⟨w5.heap.size, 4, none⟩ = some (.int .i64 p4) ∧ W.cell? ⟨w5.heap.size, 5, none⟩ = some (.int .i64 p5) ∧ W.cell? ⟨w5.heap.size, 6, none⟩ = some (.int .i64 p6) ∧ W.cell? ⟨w5.heap.size, 7, none⟩ = some (.int .i64 p7) ∧ W.cell? ⟨w5.heap.size, 8, none⟩ = some (.int .i64 p8) ∧ W.cell? ⟨w5.heap.size, 9, none⟩ = some (.int .i64 p9))) (by kernel_rfl) ?_ (fun hHeld => ?_)
      · go_keep
      try dsimp only at hHeld
      refine wpAnyH_take (i := 0) (oi := { dst := some 52, op := Op.move (Operand.tmp 7), type := 29, pos := "ref.go:132", after := #[], guard := none }) (v := ?_) rfl (by kernel_rfl) (by kernel_rfl) (by kernel_rfl) (fun _ _ _ h => h) (Or.inl ⟨by rfl, ?_⟩) (by assumption) ?_
      rotate_left
      · intro wS hSw; go_split_ands; go_simp; first | done | with_reducible rfl
      simp only [Act.put, List.setIfInBounds_toArray, List.set_cons_zero, List.set_cons_succ]
      refine wpAnyH_take (i := 1) (oi := { dst := some 53, op := Op.move (Operand.tmp 8), type := 3, pos := "ref.go:132", after := #[], guard := none }) (v := ?_) rfl (by kernel_rfl) (by kernel_rfl) (by kernel_rfl) (fun _ _ _ h => h) (Or.inl ⟨by rfl, ?_⟩) (by assumption) ?_
      rotate_left
      · intro wS hSw; go_split_ands; go_simp; first | done | with_reducible rfl
      simp only [Act.put, List.setIfInBounds_toArray, List.set_cons_zero, List.set_cons_succ]
      refine wpAnyH_take (i := 2) (oi := { dst := some 54, op := Op.fieldAddr 53 (Operand.tmp 9) 0, type := 0, pos := "ref.go:132", after := #[], guard := none }) (v := ?_) rfl (by kernel_rfl) (by kernel_rfl) (by kernel_rfl) (fun _ _ _ h => h) (Or.inl ⟨by rfl, ?_⟩) (by assumption) ?_
      rotate_left
      · intro wS hSw; go_split_ands; go_simp; first | done | with_reducible rfl
      simp only [Act.put, List.setIfInBounds_toArray, List.set_cons_zero, List.set_cons_succ]
      refine wpAnyH_take (i := 3) (oi := { dst := some 55, op := Op.load 3 (Operand.tmp 54), type := 3, pos := "ref.go:132", after := #[{ on := 2, ground := Ground.data }], guard := none }) (v := ?_) rfl (by kernel_rfl) (by kernel_rfl) (by kernel_rfl) (fun _ _ _ h => h) (Or.inl ⟨by rfl, ?_⟩) (by assumption) ?_
      rotate_left
      · intro wS hSw; go_split_ands; go_simp; first | done | with_reducible rfl
      simp only [Act.put, List.setIfInBounds_toArray, List.set_cons_zero, List.set_cons_succ]
      refine wpAnyH_take (i := 4) (oi := { dst := some 56, op := Op.fieldAddr 53 (Operand.tmp 9) 1, type := 0, pos := "ref.go:132", after := #[], guard := none }) (v := ?_) rfl (by kernel_rfl) (by kernel_rfl) (by kernel_rfl) (fun _ _ _ h => h) (Or.inl ⟨by rfl, ?_⟩) (by assumption) ?_
      rotate_left
      · intro wS hSw; go_split_ands; go_simp; first | done | with_reducible rfl
      simp only [Act.put, List.setIfInBounds_toArray, List.set_cons_zero, List.set_cons_succ]
      refine wpAnyH_take (i := 5) (oi := { dst := some 57, op := Op.load 4 (Operand.tmp 56), type := 4, pos := "ref.go:132", after := #[{ on := 4, ground := Ground.data }], guard := none }) (v := ?_) rfl (by kernel_rfl) (by kernel_rfl) (by kernel_rfl) (fun _ _ _ h => h) (Or.inl ⟨by rfl, ?_⟩) (by assumption) ?_
      rotate_left
      · intro wS hSw; go_split_ands; go_simp; first | done | with_reducible rfl
      simp only [Act.put, List.setIfInBounds_toArray, List.set_cons_zero, List.set_cons_succ]
      refine wpAnyH_take (i := 6) (oi := { dst := some 58, op := Op.load 53 (Operand.tmp 9), type := 53, pos := "ref.go:132", after := #[], guard := none }) (v := ?_) rfl (by kernel_rfl) (by kernel_rfl) (by kernel_rfl) (fun _ _ _ h => h) (Or.inl ⟨by rfl, ?_⟩) (by assumption) ?_
      rotate_left
      · intro wS hSw; go_split_ands; go_simp; first | done | with_reducible rfl
      simp only [Act.put, List.setIfInBounds_toArray, List.set_cons_zero, List.set_cons_succ]
      refine wpAnyH_ready (rs := [7]) (by kernel_rfl) (by simp) ?_
      refine AllReadyH.cons (o := { dst := some 59, op := Op.call { callee := Callee.value (Operand.func 25), args := #[Operand.tmp 58], argTypes := #[53] }, type := 4, pos := "ref.go:132", after := #[{ on := 6, ground := Ground.data }], guard := none }) rfl (fun K hK => ?_) AllReadyH.nil
      go_simp
      go_at_call 25; refine (KR _).mono ?_; rintro e w8 ⟨rfl, hb8⟩
      refine hK.out _ _ ?_ (fun hHeld => ?_)
      · exact ⟨(hb8.cell (p := ⟨w5.heap.size, 0, none⟩) (by simp <;> omega)).trans (by go_keep), (hb8.cell (p := ⟨w5.heap.size, 1, none⟩) (by simp <;> omega)).trans (by go_keep), (hb8.cell (p := ⟨w5.heap.size, 2, none⟩) (by simp <;> omega)).trans (by go_keep), (hb8.cell (p := ⟨w5.heap.size, 3, none⟩) (by simp <;> omega)).trans (by go_keep), (hb8.cell (p := ⟨w5.heap.size, 4, none⟩) (by simp <;> omega)).trans (by go_keep), (hb8.cell (p := ⟨w5.heap.size, 5, none⟩) (by simp <;> omega)).trans (by go_keep), (hb8.cell (p := ⟨w5.heap.size, 6, none⟩) (by simp <;> omega)).trans (by go_keep), (hb8.cell (p := ⟨w5.heap.size, 7, none⟩) (by simp <;> omega)).trans (by go_keep), (hb8.cell (p := ⟨w5.heap.size, 8, none⟩) (by simp <;> omega)).trans (by go_keep), (hb8.cell (p := ⟨w5.heap.size, 9, none⟩) (by simp <;> omega)).trans (by go_keep)⟩
      clear hK K
      try simp only [Act.put, List.setIfInBounds_toArray, List.set_cons_zero, List.set_cons_succ]
      refine wpAnyH_take (i := 8) (oi := { dst := some 60, op := Op.build 36 #[(0, Operand.tmp 53), (1, Operand.const (Value.int IntKind.i64 1)), (2, Operand.tmp 55), (3, Operand.tmp 57), (4, Operand.tmp 59)], type := 36, pos := "ref.go:132", after := #[{ on := 1, ground := Ground.data }, { on := 3, ground := Ground.data }, { on := 5, ground := Ground.data }, { on := 7, ground := Ground.data }], guard := none }) (v := ?_) rfl (by kernel_rfl) (by kernel_rfl) (by kernel_rfl) (fun _ _ _ h => h) (Or.inl ⟨by rfl, ?_⟩) (by assumption) ?_
      rotate_left
      · intro wS hSw; go_split_ands; go_simp; first | done | with_reducible rfl
      simp only [Act.put, List.setIfInBounds_toArray, List.set_cons_zero, List.set_cons_succ]
      refine wpAnyH_ready (rs := [9]) (by kernel_rfl) (by simp) ?_
      refine AllReadyH.cons (o := { dst := some 61, op := Op.buildSlice 29 1 #[(0, Operand.tmp 60)], type := 29, pos := "ref.go:132", after := #[{ on := 8, ground := Ground.data }], guard := none }) rfl (fun K hK => ?_) AllReadyH.nil
      go_simp
      refine hK.out _ _ ?_ (fun hHeld => ?_)
      · go_keep
      clear hK K
      try simp only [Act.put, List.setIfInBounds_toArray, List.set_cons_zero, List.set_cons_succ]
      refine wpAnyH_ready (rs := [10]) (by kernel_rfl) (by simp) ?_
      refine AllReadyH.cons (o := { dst := some 62, op := Op.call { callee := Callee.builtin Builtin.append, args := #[Operand.tmp 52, Operand.tmp 61], argTypes := #[29, 29] }, type := 29, pos := "ref.go:132", after := #[{ on := 0, ground := Ground.data }, { on := 9, ground := Ground.data }, { on := 7, ground := Ground.chain }], guard := none }) rfl (fun K hK => ?_) AllReadyH.nil
      rw [if_pos (by rfl)]
      have c8 : Below (w5.alloc (.cells #[.int .i64 p0, .bool p1, .int .i64 p2, .int .i64 p3, .int .i64 p4, .int .i64 p5, .int .i64 p6, .int .i64 p7, .int .i64 p8, .int .i64 p9] 53)).heap.size (w5.alloc (.cells #[.int .i64 p0, .bool p1, .int .i64 p2, .int .i64 p3, .int .i64 p4, .int .i64 p5, .int .i64 p6, .int .i64 p7, .int .i64 p8, .int .i64 p9] 53)) w8 := by
        refine Below.trans (Below.drew (Below.drew (Below.refl _ _))) (hb8.mono ?_)
        simp
      have hown8 := row_keep5 hown6 c8
      have nB8 := Blk.below nB c8 nB.lt
      have hwr8 := hwr6.trans (c8.mono hwr6.size)
      have hsz8 := hwr8.size
      have hys : (⟨m, 1, p0, p1, rb⟩ : Sp) = uS l m := by rw [HSU.out, HRB.out]
      refine wp_append_own _ (.tmp 52) (.tmp 61) 29 rfl w1.heap.size 36 i0 (.agg #[.int .i64 0, .int .i64 0, .int .i64 0, .bool false, .bool false]) 5 32 Try.underlying29 hi0 hz0 hz1 hz2 rfl (by decide) _ 0 [] rfl (hown8.alloc _) ⟨w8.heap.size, 0, none⟩ 1 1 (spc ⟨m, 1, p0, p1, rb⟩).toList rfl rfl (fun j u hh => cell_new5 (W := w8) ⟨m, 1, p0, p1, rb⟩ rfl j u hh) (spc_one _) (by simp [maxLen] <;> omega) (by omega) (by simp <;> omega) ?_
      intro v9 w9 hown9 hgrow9 _
      obtain ⟨V9, cp9, rfl⟩ := own_slice hown9
      have nB9 : Blk w9 w5.heap.size 53 (rsc ⟨p0, p1, p2, p3, p4, p5, p6, p7, p8, p9⟩) := (Keep.grown (may := fun r => r ≠ w5.heap.size) (Keep.refl _ _) hgrow9 (fun k hk _ => fun h => (row_ne5 hown8 nB8 (by decide)) (h ▸ hk))).block _ (by simp; have := nB8.lt; omega) (fun h => h rfl) |>.trans (nB8.alloc _)
      have hwr9 := (hwr8.alloc hsz8 _).grown hgrow9 (by simp; omega) (fun k hk => (hown8.lt k hk).1)
      refine hK.out _ _ ?_ (fun hHeld => ?_)
      · exact ⟨nB9.cell 0, nB9.cell 1, nB9.cell 2, nB9.cell 3, nB9.cell 4, nB9.cell 5, nB9.cell 6, nB9.cell 7, nB9.cell 8, nB9.cell 9⟩
      clear hK K
      try simp only [Act.put, List.setIfInBounds_toArray, List.set_cons_zero, List.set_cons_succ]
      refine wpAnyH_ready (rs := [11]) (by kernel_rfl) (by simp) ?_
      refine AllReadyH.cons (o := { dst := some 7, op := Op.assign (Operand.tmp 62), type := 29, pos := "ref.go:132", after := #[{ on := 10, ground := Ground.data }, { on := 10, ground := Ground.chain }, { on := 0, ground := Ground.phase }, { on := 1, ground := Ground.phase }, { on := 2, ground := Ground.phase }, { on := 3, ground := Ground.phase }, { on := 4, ground := Ground.phase }, { on := 5, ground := Ground.phase }, { on := 6, ground := Ground.phase }, { on := 7, ground := Ground.phase }, { on := 8, ground := Ground.phase }, { on := 9, ground := Ground.phase }, { on := 10, ground := Ground.phase }], guard := none }) rfl (fun K hK => ?_) AllReadyH.nil
      go_simp
      refine hK.out _ _ ?_ (fun hHeld => ?_)
      · exact ⟨nB9.cell 0, nB9.cell 1, nB9.cell 2, nB9.cell 3, nB9.cell 4, nB9.cell 5, nB9.cell 6, nB9.cell 7, nB9.cell 8, nB9.cell 9⟩
      clear hK K
      try simp only [Act.put, List.setIfInBounds_toArray, List.set_cons_zero, List.set_cons_succ]
      refine wpAnyH_done (by kernel_rfl) ?_ _
      have hfl : ([] ++ (spc ⟨m, 1, p0, p1, rb⟩).toList) = flat5 ([] ++ [uS l m]) := by rw [← hys]; simp [flat5]
      rw [hfl] at hown9
      have HO9 := Lib.hid hown9
      clear hown9 hfl hys hHeld
      go_wp2_with (fail)
      go_roundw
      case rel => exact ⟨m + 1, _, by go_num, by omega, HN, by exact HO9.out, hwr9⟩
      case measure => simp [intOf]; omega
    · obtain ⟨q, hq⟩ : ∃ q, acc.length = q + 1 := ⟨acc.length - 1, by have := List.length_pos_iff.2 hemp; omega⟩
      obtain ⟨⟨pe, pl, ps, pr, pc⟩, hp⟩ : ∃ x, x = lastP acc := ⟨_, rfl⟩
      have hpm : (⟨pe, pl, ps, pr, pc⟩ : Sp) ∈ acc := by
        rw [hp, last_split hemp]
        have hz : lastP (acc.dropLast ++ [lastP acc]) = lastP acc := lastP_snoc _ _
        rw [hz]
        simp
      have hbd := hfine.chain.mem hpm
      dsimp only at hbd
      have KG2 := fun W => KG ⟨pe, pl, ps, pr, pc⟩ W (by dsimp only; omega) (by dsimp only; omega) (by dsimp only; omega) (by dsimp only; omega)
      obtain ⟨J, hJ⟩ : ∃ x, x = joinB ⟨pe, pl, ps, pr, pc⟩ (uS l m) := ⟨_, rfl⟩
      rw [← hJ] at KG2
      unfold spv spc at KG2
      dsimp only at KG2
      obtain ⟨g, hg, _⟩ : ∃ g, V = some ⟨g, 0, none⟩ ∧ w1.heap.size ≤ g := by
        rcases hown6.2 with ⟨h1, _⟩ | ⟨g, cap, cur, hv, hb, hh, _⟩
        · injection h1 with _ hx _
          omega
        · exact ⟨g, by injection hv, hb⟩
      subst hg
      have qc : ∀ i, i < 5 → (w5.alloc (.cells #[.int .i64 p0, .bool p1, .int .i64 p2, .int .i64 p3, .int .i64 p4, .int .i64 p5, .int .i64 p6, .int .i64 p7, .int .i64 p8, .int .i64 p9] 53)).cell? ⟨g, q * 5 + i, none⟩ = (spc ⟨pe, pl, ps, pr, pc⟩)[i]? := fun i hi => by
        rw [hown6.cellAt (q * 5 + i) (by omega), flat5_get acc q (by omega) i hi]
        congr 2
        rw [hp]
        conv => lhs; rw [last_split hemp]
        have h2 : acc.dropLast.length = q := by rw [List.length_dropLast]; omega
        simp [List.getD, List.getElem?_append, h2]
      have q0 : (w5.alloc (.cells #[.int .i64 p0, .bool p1, .int .i64 p2, .int .i64 p3, .int .i64 p4, .int .i64 p5, .int .i64 p6, .int .i64 p7, .int .i64 p8, .int .i64 p9] 53)).cell? ⟨g, q * 5, none⟩ = some (.int .i64 pe) := qc 0 (by omega)
      have q1 : (w5.alloc (.cells #[.int .i64 p0, .bool p1, .int .i64 p2, .int .i64 p3, .int .i64 p4, .int .i64 p5, .int .i64 p6, .int .i64 p7, .int .i64 p8, .int .i64 p9] 53)).cell? ⟨g, q * 5 + 1, none⟩ = some (.int .i64 pl) := qc 1 (by omega)
      have q2 : (w5.alloc (.cells #[.int .i64 p0, .bool p1, .int .i64 p2, .int .i64 p3, .int .i64 p4, .int .i64 p5, .int .i64 p6, .int .i64 p7, .int .i64 p8, .int .i64 p9] 53)).cell? ⟨g, q * 5 + 2, none⟩ = some (.int .i64 ps) := qc 2 (by omega)
      have q3 : (w5.alloc (.cells #[.int .i64 p0, .bool p1, .int .i64 p2, .int .i64 p3, .int .i64 p4, .int .i64 p5, .int .i64 p6, .int .i64 p7, .int .i64 p8, .int .i64 p9] 53)).cell? ⟨g, q * 5 + 3, none⟩ = some (.bool pr) := qc 3 (by omega)
      have q4 : (w5.alloc (.cells #[.int .i64 p0, .bool p1, .int .i64 p2, .int .i64 p3, .int .i64 p4, .int .i64 p5, .int .i64 p6, .int .i64 p7, .int .i64 p8, .int .i64 p9] 53)).cell? ⟨g, q * 5 + 4, none⟩ = some (.bool pc) := qc 4 (by omega)
      have hgl := (hown6.lt g rfl).2
      have hgl : g < w5.heap.size + 1 := by simpa using hgl
      have hgB : g ≠ w5.heap.size := fun h => by
        subst h
        rcases hown6.2 with ⟨h1, _⟩ | ⟨g2, cap, cur, hv, hb, hh, _⟩
        · injection h1 with _ hx _
          omega
        · have hg2 : w5.heap.size = g2 := by
            have : (some ⟨w5.heap.size, 0, none⟩ : Option Addr) = some ⟨g2, 0, none⟩ := by injection hv
            simpa using this
          subst hg2
          exact (Blk.ne (t := 36) (t' := 53) hh nB (by decide)) rfl
      rw [hq] at hown6 ⊢
      have hqn : (q : Int) < 1000 := by omega
      have hqq : (q : Int) < (q : Int) + 1 := by omega
      have HP := Lib.hid hp
      have HQ := Lib.hid hq
      have HEMP := Lib.hid hemp
      have HJ := Lib.hid hJ
      clear hp hq hemp hJ qc hfine KG hpm
      go_wp2_with (fail)
      refine wp_region_held_drew (S := (fun W => W.cell? ⟨g, q * 5, none⟩ = some (.int .i64 pe) ∧ W.cell? ⟨g, q * 5 + 1, none⟩ = some (.int .i64 pl) ∧ W.cell? ⟨g, q * 5 + 2, none⟩ = some (.int .i64 ps) ∧ W.cell? ⟨g, q * 5 + 3, none⟩ = some (.bool pr) ∧ W.cell? ⟨g, q * 5 + 4, none⟩ = some (.bool pc) ∧ W.cell? ⟨w5.heap.size, 0, none⟩ = some (.int .i64 p0) ∧ W.cell? ⟨w5.heap.size, 1, none⟩ = some (.bool p1) ∧ W.cell? ⟨w5.heap.size, 2, none⟩ = some (.int .i64 p2) ∧ W.cell? ⟨w5.heap.size, 3, none⟩ = some (.int .i64 p3) ∧ W.cell? ⟨w5.heap.size, 4, none⟩ = some (.int .i64 p4) ∧ W.cell? ⟨w5.heap.size, 5, none⟩ = some (.int .i64 p5) ∧ W.cell? ⟨w5.heap.size, 6, none⟩ = some (.int .i64 p6) ∧ W.cell? ⟨w5.heap.size, 7, none⟩ = some (.int .i64 p7) ∧ W.cell? ⟨w5.heap.size, 8, none⟩ = some (.int .i64 p8) ∧ W.cell? ⟨w5.heap.size, 9, none⟩ = some (.int .i64 p9))) (by kernel_rfl) ?_ (fun hHeld => ?_)
      · go_keep
      try dsimp only at hHeld
      refine wpAnyH_take (i := 0) (oi := { dst := some 34, op := Op.move (Operand.tmp 10), type := 3, pos := "ref.go:129", after := #[], guard := none }) (v := ?_) rfl (by kernel_rfl) (by kernel_rfl) (by kernel_rfl) (fun _ _ _ h => h) (Or.inl ⟨by rfl, ?_⟩) (by assumption) ?_
      rotate_left
      · intro wS hSw; go_split_ands; go_simp; first | done | with_reducible rfl
      simp only [Act.put, List.setIfInBounds_toArray, List.set_cons_zero, List.set_cons_succ]
      refine wpAnyH_take (i := 1) (oi := { dst := some 35, op := Op.binOp BinOp.geq 3 (Operand.tmp 34) (Operand.const (Value.int IntKind.i64 0)) 3, type := 4, pos := "ref.go:129", after := #[{ on := 0, ground := Ground.data }], guard := none }) (v := ?_) rfl (by kernel_rfl) (by kernel_rfl) (by kernel_rfl) (fun _ _ _ h => h) (Or.inl ⟨by rfl, ?_⟩) (by assumption) ?_
      rotate_left
      · intro wS hSw; go_split_ands; go_simp; first | done | with_reducible rfl
      simp only [Act.put, List.setIfInBounds_toArray, List.set_cons_zero, List.set_cons_succ]
      refine wpAnyH_take (i := 2) (oi := { dst := some 36, op := Op.move (Operand.tmp 35), type := 4, pos := "ref.go:129", after := #[{ on := 1, ground := Ground.data }], guard := none }) (v := ?_) rfl (by kernel_rfl) (by kernel_rfl) (by kernel_rfl) (fun _ _ _ h => h) (Or.inl ⟨by rfl, ?_⟩) (by assumption) ?_
      rotate_left
      · intro wS hSw; go_split_ands; go_simp; first | done | with_reducible rfl
      simp only [Act.put, List.setIfInBounds_toArray, List.set_cons_zero, List.set_cons_succ]
      refine wpAnyH_take (i := 3) (oi := { dst := some 37, op := Op.move (Operand.tmp 7), type := 29, pos := "ref.go:129", after := #[{ on := 2, ground := Ground.guard }], guard := some (2, true) }) (v := ?_) rfl (by kernel_rfl) (by kernel_rfl) (by kernel_rfl) (fun _ _ _ h => h) (Or.inl ⟨by rfl, ?_⟩) (by assumption) ?_
      rotate_left
      · intro wS hSw; go_split_ands; go_simp; first | done | with_reducible rfl
      simp only [Act.put, List.setIfInBounds_toArray, List.set_cons_zero, List.set_cons_succ]
      refine wpAnyH_take (i := 4) (oi := { dst := some 38, op := Op.move (Operand.tmp 10), type := 3, pos := "ref.go:129", after := #[{ on := 2, ground := Ground.guard }], guard := some (2, true) }) (v := ?_) rfl (by kernel_rfl) (by kernel_rfl) (by kernel_rfl) (fun _ _ _ h => h) (Or.inl ⟨by rfl, ?_⟩) (by assumption) ?_
      rotate_left
      · intro wS hSw; go_split_ands; go_simp; first | done | with_reducible rfl
      simp only [Act.put, List.setIfInBounds_toArray, List.set_cons_zero, List.set_cons_succ]
      refine wpAnyH_take (i := 5) (oi := { dst := some 39, op := Op.indexAddr 29 (Operand.tmp 37) (Operand.tmp 38), type := 0, pos := "ref.go:129", after := #[{ on := 3, ground := Ground.data }, { on := 4, ground := Ground.data }, { on := 2, ground := Ground.guard }], guard := some (2, true) }) (v := ?_) rfl (by kernel_rfl) (by kernel_rfl) (by kernel_rfl) (fun _ _ _ h => h) (Or.inl ⟨by rfl, ?_⟩) (by assumption) ?_
      rotate_left
      · intro wS hSw; go_split_ands; go_simp; first | done | with_reducible rfl
      simp only [Act.put, List.setIfInBounds_toArray, List.set_cons_zero, List.set_cons_succ]
      refine wpAnyH_take (i := 6) (oi := { dst := some 40, op := Op.load 36 (Operand.tmp 39), type := 36, pos := "ref.go:129", after := #[{ on := 5, ground := Ground.data }, { on := 2, ground := Ground.guard }], guard := some (2, true) }) (v := ?_) rfl (by kernel_rfl) (by kernel_rfl) (by kernel_rfl) (fun _ _ _ h => h) (Or.inl ⟨by rfl, ?_⟩) (by assumption) ?_
      rotate_left
      · intro wS hSw; go_split_ands; go_simp; first | done | with_reducible rfl
      simp only [Act.put, List.setIfInBounds_toArray, List.set_cons_zero, List.set_cons_succ]
      refine wpAnyH_take (i := 7) (oi := { dst := some 41, op := Op.load 53 (Operand.tmp 9), type := 53, pos := "ref.go:129", after := #[{ on := 2, ground := Ground.guard }], guard := some (2, true) }) (v := ?_) rfl (by kernel_rfl) (by kernel_rfl) (by kernel_rfl) (fun _ _ _ h => h) (Or.inl ⟨by rfl, ?_⟩) (by assumption) ?_
      rotate_left
      · intro wS hSw; go_split_ands; go_simp; first | done | with_reducible rfl
      simp only [Act.put, List.setIfInBounds_toArray, List.set_cons_zero, List.set_cons_succ]
      refine wpAnyH_ready (rs := [8]) (by kernel_rfl) (by simp) ?_
      refine AllReadyH.cons (o := { dst := some 42, op := Op.call { callee := Callee.value (Operand.func 28), args := #[Operand.tmp 40, Operand.tmp 41], argTypes := #[36, 53] }, type := 4, pos := "ref.go:129", after := #[{ on := 6, ground := Ground.data }, { on := 7, ground := Ground.data }, { on := 2, ground := Ground.chain }, { on := 2, ground := Ground.guard }], guard := some (2, true) }) rfl (fun K hK => ?_) AllReadyH.nil
      go_simp
      go_at_call 28; refine (KG2 _).mono ?_; rintro e w7 ⟨rfl, hb7⟩
      refine hK.out _ _ ?_ (fun hHeld => ?_)
      · exact ⟨(hb7.cell (p := ⟨g, q * 5, none⟩) (by simp <;> omega)).trans (by go_keep), (hb7.cell (p := ⟨g, q * 5 + 1, none⟩) (by simp <;> omega)).trans (by go_keep), (hb7.cell (p := ⟨g, q * 5 + 2, none⟩) (by simp <;> omega)).trans (by go_keep), (hb7.cell (p := ⟨g, q * 5 + 3, none⟩) (by simp <;> omega)).trans (by go_keep), (hb7.cell (p := ⟨g, q * 5 + 4, none⟩) (by simp <;> omega)).trans (by go_keep), (hb7.cell (p := ⟨w5.heap.size, 0, none⟩) (by simp <;> omega)).trans (by go_keep), (hb7.cell (p := ⟨w5.heap.size, 1, none⟩) (by simp <;> omega)).trans (by go_keep), (hb7.cell (p := ⟨w5.heap.size, 2, none⟩) (by simp <;> omega)).trans (by go_keep), (hb7.cell (p := ⟨w5.heap.size, 3, none⟩) (by simp <;> omega)).trans (by go_keep), (hb7.cell (p := ⟨w5.heap.size, 4, none⟩) (by simp <;> omega)).trans (by go_keep), (hb7.cell (p := ⟨w5.heap.size, 5, none⟩) (by simp <;> omega)).trans (by go_keep), (hb7.cell (p := ⟨w5.heap.size, 6, none⟩) (by simp <;> omega)).trans (by go_keep), (hb7.cell (p := ⟨w5.heap.size, 7, none⟩) (by simp <;> omega)).trans (by go_keep), (hb7.cell (p := ⟨w5.heap.size, 8, none⟩) (by simp <;> omega)).trans (by go_keep), (hb7.cell (p := ⟨w5.heap.size, 9, none⟩) (by simp <;> omega)).trans (by go_keep)⟩
      clear hK K
      try simp only [Act.put, List.setIfInBounds_toArray, List.set_cons_zero, List.set_cons_succ]
      refine wpAnyH_take (i := 9) (oi := { dst := some 43, op := Op.pick (Operand.tmp 36) (Operand.tmp 42) (Operand.const (Value.bool false)), type := 4, pos := "ref.go:129", after := #[{ on := 2, ground := Ground.data }, { on := 8, ground := Ground.data }], guard := none }) (v := ?_) rfl (by kernel_rfl) (by kernel_rfl) (by kernel_rfl) (fun _ _ _ h => h) (Or.inl ⟨by rfl, ?_⟩) (by assumption) ?_
      rotate_left
      · intro wS hSw; go_split_ands; go_simp; first | done | with_reducible rfl
      simp only [Act.put, List.setIfInBounds_toArray, List.set_cons_zero, List.set_cons_succ]
      refine wpAnyH_done (by kernel_rfl) ?_ _
      have b7 : Below (w5.alloc (.cells #[.int .i64 p0, .bool p1, .int .i64 p2, .int .i64 p3, .int .i64 p4, .int .i64 p5, .int .i64 p6, .int .i64 p7, .int .i64 p8, .int .i64 p9] 53)).heap.size (w5.alloc (.cells #[.int .i64 p0, .bool p1, .int .i64 p2, .int .i64 p3, .int .i64 p4, .int .i64 p5, .int .i64 p6, .int .i64 p7, .int .i64 p8, .int .i64 p9] 53)) w7 := (Below.refl (w5.alloc (.cells #[.int .i64 p0, .bool p1, .int .i64 p2, .int .i64 p3, .int .i64 p4, .int .i64 p5, .int .i64 p6, .int .i64 p7, .int .i64 p8, .int .i64 p9] 53)).heap.size (w5.alloc (.cells #[.int .i64 p0, .bool p1, .int .i64 p2, .int .i64 p3, .int .i64 p4, .int .i64 p5, .int .i64 p6, .int .i64 p7, .int .i64 p8, .int .i64 p9] 53))).drew.trans (hb7.mono (by simp))
      have nB7 := nB.below b7 nB.lt
      have hown7 := row_keep5 hown6 b7
      have hwr7 := hwr6.trans (b7.mono hwr6.size)
      have hsz7 := b7.size
      rw [World.size_alloc] at hsz7
      clear hHeld
      cases J
      case true =>
        have q71 : w7.cell? ⟨g, q * 5 + 1, none⟩ = some (.int .i64 pl) := (b7.cell (p := ⟨g, q * 5 + 1, none⟩) (by simp; omega)).trans q1
        have f71 := hown7.frozenAt (q * 5 + 1)
        have hst := (hown7.stored (q * 5 + 1) (.int .i64 (pl + 1))).1
        have hset : (flat5 acc).set (q * 5 + 1) (.int .i64 (pl + 1)) = flat5 (acc.dropLast ++ [⟨pe, pl + 1, ps, pr, pc⟩]) := by
          have h1 := last_split HEMP.out
          rw [← HP.out] at h1
          have h2 : acc.dropLast.length = q := by rw [List.length_dropLast, HQ.out]; omega
          conv => lhs; rw [h1]
          rw [flat5_append, flat5_append, List.set_append_right _ _ (by rw [flat5_len, h2]; omega), flat5_len, h2, show q * 5 + 1 - q * 5 = 1 by omega]
          rfl
        rw [hset] at hst
        have HST := Lib.hid hst
        have HN := Lib.hid (show acc.dropLast ++ [⟨pe, pl + 1, ps, pr, pc⟩] = rAcc l (m + 1) by
          show _ = stepU (rAcc l m) (uS l m)
          rw [← HACC.out, stepU_join HEMP.out (by rw [← HP.out]; exact HJ.out.symm), ← HP.out]
          rfl)
        have hlen2 : (acc.dropLast ++ [(⟨pe, pl + 1, ps, pr, pc⟩ : Sp)]).length = q + 1 := by
          rw [List.length_append, List.length_dropLast, HQ.out]
          rfl
        have HL2 := Lib.hid hlen2
        clear hst hset hlen2 hown7 hown6
        go_wp2_with (fail)
        go_roundw
        case rel => exact ⟨m + 1, _, by go_num, by omega, HN, by rw [HL2.out]; exact HST.out, hwr7.setCell (p := ⟨g, q * 5 + 1, none⟩) (by omega) _⟩
        case measure => simp [intOf]; omega
      case false =>
        have HN := Lib.hid (show acc ++ [uS l m] = rAcc l (m + 1) by
          show _ = stepU (rAcc l m) (uS l m)
          rw [← HACC.out, stepU_new (.inr (by rw [← HP.out]; exact HJ.out.symm))])
        clear hown6 q0 q1 q2 q3 q4
        go_wp2_with (fail)
        refine wp_region_held_drew (S := (fun W => W.cell? ⟨w5.heap.size, 0, none⟩ = some (.int .i64 p0) ∧ W.cell? ⟨w5.heap.size, 1, none⟩ = some (.bool p1) ∧ W.cell? ⟨w5.heap.size, 2, none⟩ = some (.int .i64 p2) ∧ W.cell? ⟨w5.heap.size, 3, none⟩ = some (.int .i64 p3) ∧ W.cell? ⟨w5.heap.size, 4, none⟩ = some (.int .i64 p4) ∧ W.cell? ⟨w5.heap.size, 5, none⟩ = some (.int .i64 p5) ∧ W.cell? ⟨w5.heap.size, 6, none⟩ = some (.int .i64 p6) ∧ W.cell? ⟨w5.heap.size, 7, none⟩ = some (.int .i64 p7) ∧ W.cell? ⟨w5.heap.size, 8, none⟩ = some (.int .i64 p8) ∧ W.cell? ⟨w5.heap.size, 9, none⟩ = some (.int .i64 p9))) (by kernel_rfl) ?_ (fun hHeld => ?_)
        · exact ⟨nB7.cell 0, nB7.cell 1, nB7.cell 2, nB7.cell 3, nB7.cell 4, nB7.cell 5, nB7.cell 6, nB7.cell 7, nB7.cell 8, nB7.cell 9⟩
        try dsimp only at hHeld
        refine wpAnyH_take (i := 0) (oi := { dst := some 52, op := Op.move (Operand.tmp 7), type := 29, pos := "ref.go:132", after := #[], guard := none }) (v := ?_) rfl (by kernel_rfl) (by kernel_rfl) (by kernel_rfl) (fun _ _ _ h => h) (Or.inl ⟨by rfl, ?_⟩) (by assumption) ?_
        rotate_left
        · intro wS hSw; go_split_ands; go_simp; first | done | with_reducible rfl
        simp only [Act.put, List.setIfInBounds_toArray, List.set_cons_zero, List.set_cons_succ]
        refine wpAnyH_take (i := 1) (oi := { dst := some 53, op := Op.move (Operand.tmp 8), type := 3, pos := "ref.go:132", after := #[], guard := none }) (v := ?_) rfl (by kernel_rfl) (by kernel_rfl) (by kernel_rfl) (fun _ _ _ h => h) (Or.inl ⟨by rfl, ?_⟩) (by assumption) ?_
        rotate_left
        · intro wS hSw; go_split_ands; go_simp; first | done | with_reducible rfl
        simp only [Act.put, List.setIfInBounds_toArray, List.set_cons_zero, List.set_cons_succ]
        refine wpAnyH_take (i := 2) (oi := { dst := some 54, op := Op.fieldAddr 53 (Operand.tmp 9) 0, type := 0, pos := "ref.go:132", after := #[], guard := none }) (v := ?_) rfl (by kernel_rfl) (by kernel_rfl) (by kernel_rfl) (fun _ _ _ h => h) (Or.inl ⟨by rfl, ?_⟩) (by assumption) ?_
        rotate_left
        · intro wS hSw; go_split_ands; go_simp; first | done | with_reducible rfl
        simp only [Act.put, List.setIfInBounds_toArray, List.set_cons_zero, List.set_cons_succ]
        refine wpAnyH_take (i := 3) (oi := { dst := some 55, op := Op.load 3 (Operand.tmp 54), type := 3, pos := "ref.go:132", after := #[{ on := 2, ground := Ground.data }], guard := none }) (v := ?_) rfl (by kernel_rfl) (by kernel_rfl) (by kernel_rfl) (fun _ _ _ h => h) (Or.inl ⟨by rfl, ?_⟩) (by assumption) ?_
        rotate_left
        · intro wS hSw; go_split_ands; go_simp; first | done | with_reducible rfl
        simp only [Act.put, List.setIfInBounds_toArray, List.set_cons_zero, List.set_cons_succ]
        refine wpAnyH_take (i := 4) (oi := { dst := some 56, op := Op.fieldAddr 53 (Operand.tmp 9) 1, type := 0, pos := "ref.go:132", after := #[], guard := none }) (v := ?_) rfl (by kernel_rfl) (by kernel_rfl) (by kernel_rfl) (fun _ _ _ h => h) (Or.inl ⟨by rfl, ?_⟩) (by assumption) ?_
        rotate_left
        · intro wS hSw; go_split_ands; go_simp; first | done | with_reducible rfl
        simp only [Act.put, List.setIfInBounds_toArray, List.set_cons_zero, List.set_cons_succ]
        refine wpAnyH_take (i := 5) (oi := { dst := some 57, op := Op.load 4 (Operand.tmp 56), type := 4, pos := "ref.go:132", after := #[{ on := 4, ground := Ground.data }], guard := none }) (v := ?_) rfl (by kernel_rfl) (by kernel_rfl) (by kernel_rfl) (fun _ _ _ h => h) (Or.inl ⟨by rfl, ?_⟩) (by assumption) ?_
        rotate_left
        · intro wS hSw; go_split_ands; go_simp; first | done | with_reducible rfl
        simp only [Act.put, List.setIfInBounds_toArray, List.set_cons_zero, List.set_cons_succ]
        refine wpAnyH_take (i := 6) (oi := { dst := some 58, op := Op.load 53 (Operand.tmp 9), type := 53, pos := "ref.go:132", after := #[], guard := none }) (v := ?_) rfl (by kernel_rfl) (by kernel_rfl) (by kernel_rfl) (fun _ _ _ h => h) (Or.inl ⟨by rfl, ?_⟩) (by assumption) ?_
        rotate_left
        · intro wS hSw; go_split_ands; go_simp; first | done | with_reducible rfl
        simp only [Act.put, List.setIfInBounds_toArray, List.set_cons_zero, List.set_cons_succ]
        refine wpAnyH_ready (rs := [7]) (by kernel_rfl) (by simp) ?_
        refine AllReadyH.cons (o := { dst := some 59, op := Op.call { callee := Callee.value (Operand.func 25), args := #[Operand.tmp 58], argTypes := #[53] }, type := 4, pos := "ref.go:132", after := #[{ on := 6, ground := Ground.data }], guard := none }) rfl (fun K hK => ?_) AllReadyH.nil
        go_simp
        go_at_call 25; refine (KR _).mono ?_; rintro e w8 ⟨rfl, hb8⟩
        refine hK.out _ _ ?_ (fun hHeld => ?_)
        · exact ⟨(hb8.cell (p := ⟨w5.heap.size, 0, none⟩) (by simp <;> omega)).trans (by go_keep), (hb8.cell (p := ⟨w5.heap.size, 1, none⟩) (by simp <;> omega)).trans (by go_keep), (hb8.cell (p := ⟨w5.heap.size, 2, none⟩) (by simp <;> omega)).trans (by go_keep), (hb8.cell (p := ⟨w5.heap.size, 3, none⟩) (by simp <;> omega)).trans (by go_keep), (hb8.cell (p := ⟨w5.heap.size, 4, none⟩) (by simp <;> omega)).trans (by go_keep), (hb8.cell (p := ⟨w5.heap.size, 5, none⟩) (by simp <;> omega)).trans (by go_keep), (hb8.cell (p := ⟨w5.heap.size, 6, none⟩) (by simp <;> omega)).trans (by go_keep), (hb8.cell (p := ⟨w5.heap.size, 7, none⟩) (by simp <;> omega)).trans (by go_keep), (hb8.cell (p := ⟨w5.heap.size, 8, none⟩) (by simp <;> omega)).trans (by go_keep), (hb8.cell (p := ⟨w5.heap.size, 9, none⟩) (by simp <;> omega)).trans (by go_keep)⟩
        clear hK K
        try simp only [Act.put, List.setIfInBounds_toArray, List.set_cons_zero, List.set_cons_succ]
        refine wpAnyH_take (i := 8) (oi := { dst := some 60, op := Op.build 36 #[(0, Operand.tmp 53), (1, Operand.const (Value.int IntKind.i64 1)), (2, Operand.tmp 55), (3, Operand.tmp 57), (4, Operand.tmp 59)], type := 36, pos := "ref.go:132", after := #[{ on := 1, ground := Ground.data }, { on := 3, ground := Ground.data }, { on := 5, ground := Ground.data }, { on := 7, ground := Ground.data }], guard := none }) (v := ?_) rfl (by kernel_rfl) (by kernel_rfl) (by kernel_rfl) (fun _ _ _ h => h) (Or.inl ⟨by rfl, ?_⟩) (by assumption) ?_
        rotate_left
        · intro wS hSw; go_split_ands; go_simp; first | done | with_reducible rfl
        simp only [Act.put, List.setIfInBounds_toArray, List.set_cons_zero, List.set_cons_succ]
        refine wpAnyH_ready (rs := [9]) (by kernel_rfl) (by simp) ?_
        refine AllReadyH.cons (o := { dst := some 61, op := Op.buildSlice 29 1 #[(0, Operand.tmp 60)], type := 29, pos := "ref.go:132", after := #[{ on := 8, ground := Ground.data }], guard := none }) rfl (fun K hK => ?_) AllReadyH.nil
        go_simp
        refine hK.out _ _ ?_ (fun hHeld => ?_)
        · go_keep
        clear hK K
        try simp only [Act.put, List.setIfInBounds_toArray, List.set_cons_zero, List.set_cons_succ]
        refine wpAnyH_ready (rs := [10]) (by kernel_rfl) (by simp) ?_
        refine AllReadyH.cons (o := { dst := some 62, op := Op.call { callee := Callee.builtin Builtin.append, args := #[Operand.tmp 52, Operand.tmp 61], argTypes := #[29, 29] }, type := 29, pos := "ref.go:132", after := #[{ on := 0, ground := Ground.data }, { on := 9, ground := Ground.data }, { on := 7, ground := Ground.chain }], guard := none }) rfl (fun K hK => ?_) AllReadyH.nil
        rw [if_pos (by rfl)]
        have c8 : Below w7.heap.size w7 w8 := by
          refine Below.trans (Below.drew (Below.refl _ _)) (hb8.mono ?_)
          simp
        have hown8 := row_keep5 hown7 c8
        have nB8 := Blk.below nB7 c8 nB7.lt
        have hwr8 := hwr7.trans (c8.mono hwr7.size)
        have hsz8 := hwr8.size
        have hys : (⟨m, 1, p0, p1, rb⟩ : Sp) = uS l m := by rw [HSU.out, HRB.out]
        refine wp_append_own _ (.tmp 52) (.tmp 61) 29 rfl w1.heap.size 36 i0 (.agg #[.int .i64 0, .int .i64 0, .int .i64 0, .bool false, .bool false]) 5 32 Try.underlying29 hi0 hz0 hz1 hz2 rfl (by decide) _ (q + 1) (flat5 acc) rfl (hown8.alloc _) ⟨w8.heap.size, 0, none⟩ 1 1 (spc ⟨m, 1, p0, p1, rb⟩).toList rfl rfl (fun j u hh => cell_new5 (W := w8) ⟨m, 1, p0, p1, rb⟩ rfl j u hh) (spc_one _) (by simp [maxLen] <;> omega) (by omega) (by simp <;> omega) ?_
        intro v9 w9 hown9 hgrow9 _
        obtain ⟨V9, cp9, rfl⟩ := own_slice hown9
        have nB9 : Blk w9 w5.heap.size 53 (rsc ⟨p0, p1, p2, p3, p4, p5, p6, p7, p8, p9⟩) := (Keep.grown (may := fun r => r ≠ w5.heap.size) (Keep.refl _ _) hgrow9 (fun k hk _ => fun h => (row_ne5 hown8 nB8 (by decide)) (h ▸ hk))).block _ (by simp; have := nB8.lt; omega) (fun h => h rfl) |>.trans (nB8.alloc _)
        have hwr9 := (hwr8.alloc hsz8 _).grown hgrow9 (by simp; omega) (fun k hk => (hown8.lt k hk).1)
        refine hK.out _ _ ?_ (fun hHeld => ?_)
        · exact ⟨nB9.cell 0, nB9.cell 1, nB9.cell 2, nB9.cell 3, nB9.cell 4, nB9.cell 5, nB9.cell 6, nB9.cell 7, nB9.cell 8, nB9.cell 9⟩
        clear hK K
        try simp only [Act.put, List.setIfInBounds_toArray, List.set_cons_zero, List.set_cons_succ]
        refine wpAnyH_ready (rs := [11]) (by kernel_rfl) (by simp) ?_
        refine AllReadyH.cons (o := { dst := some 7, op := Op.assign (Operand.tmp 62), type := 29, pos := "ref.go:132", after := #[{ on := 10, ground := Ground.data }, { on := 10, ground := Ground.chain }, { on := 0, ground := Ground.phase }, { on := 1, ground := Ground.phase }, { on := 2, ground := Ground.phase }, { on := 3, ground := Ground.phase }, { on := 4, ground := Ground.phase }, { on := 5, ground := Ground.phase }, { on := 6, ground := Ground.phase }, { on := 7, ground := Ground.phase }, { on := 8, ground := Ground.phase }, { on := 9, ground := Ground.phase }, { on := 10, ground := Ground.phase }], guard := none }) rfl (fun K hK => ?_) AllReadyH.nil
        go_simp
        refine hK.out _ _ ?_ (fun hHeld => ?_)
        · exact ⟨nB9.cell 0, nB9.cell 1, nB9.cell 2, nB9.cell 3, nB9.cell 4, nB9.cell 5, nB9.cell 6, nB9.cell 7, nB9.cell 8, nB9.cell 9⟩
        clear hK K
        try simp only [Act.put, List.setIfInBounds_toArray, List.set_cons_zero, List.set_cons_succ]
        refine wpAnyH_done (by kernel_rfl) ?_ _
        have hfl : ((flat5 acc) ++ (spc ⟨m, 1, p0, p1, rb⟩).toList) = flat5 (acc ++ [uS l m]) := by rw [← hys, flat5_append]; simp [flat5]
        rw [hfl] at hown9
        have HO9 := Lib.hid hown9
        clear hown9 hfl hys hHeld
        go_wp2_with (fail)
        go_roundw
        case rel => exact ⟨m + 1, _, by go_num, by omega, HN, by rw [List.length_append, HQ.out]; exact HO9.out, hwr9⟩
        case measure => simp [intOf]; omega
end Go.Proofs.Ytjkclplnflaplaa
