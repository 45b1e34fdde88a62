/-
  JournalAppendSpec walked: it answers true. Conditions: arguments of at most 1048576 values.
-/
import Derived.Test.YtckeopidedoohaaJsn
import Derived.Test.YtckeopidedoohaaJfw
import Derived.Test.YtckeopidedoohaaJsa
import Derived.Test.YtckeopidedoohaaJra
import Derived.Test.YtckeopidedoohaaJse
import Derived.Test.YtckeopidedoohaaJrc
namespace Go.Proofs.Ytckeopidedoohaa
open Go.RowKit
variable {n₀ : Nat}
attribute [local go_sem] Oper.semAt_some

/-- The law answers true, and leaves alone what lay. -/
def YesJ (w : World) (e : Ending) (w' : World) : Prop := e = .returned (.bool true) ∧ Below w.heap.size w w'
theorem app_small (j : Jn) (b : Bs) : (gApp j b).1.recs.length ≤ j.recs.length + 1 := by
  unfold gApp
  split
  · exact Nat.zero_le _
  · split
    · exact Nat.zero_le _
    · simp

set_option maxRecDepth 20000 in
set_option maxHeartbeats 8000000 in
theorem journalAppend_t (RA A : Option Addr) (rc c : Nat) (j : Jn) (b : Bs) (w : World) (hn : n₀ ≤ w.heap.size) (hrl : j.recs.length ≤ 1048576) (hrb : ∀ x ∈ j.recs, x.length ≤ 1048576) (hbl : b.length ≤ 1048576) (hrc : j.recs.length ≤ rc) (hbc : b.length ≤ c) (r0 : RowsAt n₀ w RA j.recs) (b0 : BsAt n₀ w A b) :
    Calls Try.prog 11 #[.agg #[.slice RA j.recs.length rc, .int .i64 j.many, .int .i64 j.sync], .slice A b.length c] w (YesJ w) := by
  have HRB := Lib.hid hrb
  clear hrb
  go_enter Try.func11, Try.ntmps11
  go_wp2_with (fail)
  obtain ⟨W1, hW1⟩ : ∃ W, W = w.alloc (.cells #[.slice RA j.recs.length rc, .int .i64 j.many, .int .i64 j.sync] 55) := ⟨_, rfl⟩
  rw [← hW1]
  have hb : Below w.heap.size w W1 := by rw [hW1]; exact (Below.refl _ _).alloc (Nat.le_refl _) _
  have x2 : Blk W1 w.heap.size 55 #[.slice RA j.recs.length rc, .int .i64 j.many, .int .i64 j.sync] := by rw [hW1]; exact Blk.new w 55 _
  clear hW1
  replace r0 := r0.below hb
  replace b0 := b0.below hb
  have hw := hb
  clear hb
  have K : Calls Try.prog 42 #[] W1 (fun e w' => e = .returned (.bool true) ∧ Below W1.heap.size W1 w') := jsane_t W1
  go_at_call 42
  refine K.mono ?_
  rintro e w2 ⟨rfl, hb⟩
  clear K
  replace r0 := r0.below hb
  replace b0 := b0.below hb
  replace x2 := x2.below hb x2.lt
  replace hw := hw.trans (hb.mono hw.size)
  clear hb
  have x2c0 := x2.cell 0
  have x2c1 := x2.cell 1
  have x2c2 := x2.cell 2
  have x2c3 := x2.cell 3
  simp only [List.getElem?_toArray, List.getElem?_cons_zero, List.getElem?_cons_succ] at x2c0 x2c1 x2c2 x2c3
  have x2l := x2.lt
  go_wp2_with (fail)
  obtain ⟨y, hy⟩ : ∃ y, y = fewB 0 0 j.recs := ⟨_, rfl⟩
  have HY := Lib.hid hy
  clear hy
  have K : Calls Try.prog 43 #[.agg #[.slice none 0 0, .slice none 0 0, .int .i64 0, .bool false], .slice RA j.recs.length rc] w2 (fun e w' => e = .returned (.bool y) ∧ Below w2.heap.size w2 w') := by rw [HY.out]; exact few5_t none none RA 0 0 rc 0 0 0 false j.recs w2 (by decide) (by decide) hrl HRB.out r0
  go_at_call 43
  refine K.mono ?_
  rintro e w3 ⟨rfl, hb⟩
  clear K
  replace r0 := r0.below hb
  replace b0 := b0.below hb
  replace x2 := x2.below hb x2.lt
  replace hw := hw.trans (hb.mono hw.size)
  clear x2c0 x2c1 x2c2 x2c3 x2l
  clear hb
  cases y
  case false =>
    go_wp2
    go_ret
    exact ⟨rfl, hw⟩
  have hsm := (fewB_sm HY.out.symm).2.2.2
  have hs4 := (fewB_sm HY.out.symm).2.2.1
  have HSM := Lib.hid hsm
  clear hsm
  by_cases k1 : 70000 < b.length
  case pos =>
    have d1 : decide (70000 < (b.length : Int)) = true := decide_eq_true (by omega)
    have d1n : decide (70000 < b.length) = true := decide_eq_true k1
    go_wp2
    go_ret
    exact ⟨rfl, hw⟩
  have d1 : decide (70000 < (b.length : Int)) = false := decide_eq_false (by omega)
  have d1n : decide (70000 < b.length) = false := decide_eq_false k1
  clear d1 d1n
  obtain ⟨⟨x, e⟩, hge⟩ : ∃ r, r = gApp j b := ⟨_, rfl⟩
  have hxs := app_small j b
  rw [← hge] at hxs
  have HGE := Lib.hid hge
  dsimp only at hxs
  have hjl := sumB_len j.recs
  have hxl : x.recs.length ≤ 4001 := by omega
  clear hge hxs hs4 hjl
  have x2c0 := x2.cell 0
  have x2c1 := x2.cell 1
  have x2c2 := x2.cell 2
  have x2c3 := x2.cell 3
  simp only [List.getElem?_toArray, List.getElem?_cons_zero, List.getElem?_cons_succ] at x2c0 x2c1 x2c2 x2c3
  have x2l := x2.lt
  go_wp2_with (fail)
  have K : Calls Try.prog 47 #[.agg #[.slice RA j.recs.length rc, .int .i64 j.many, .int .i64 j.sync], .slice A b.length c] w3 (JnIs n₀ w3 (x, e)) := by rw [HGE.out]; exact append_t RA A rc c j b w3 HSM.out (by omega) hrc r0 b0
  go_at_call 47
  refine K.mono ?_
  intro e9 w4 hx
  obtain ⟨A5, c5, rfl, hc5, r5, hb⟩ := jn_out hx
  clear hx
  clear K
  replace r0 := r0.below hb
  replace b0 := b0.below hb
  replace x2 := x2.below hb x2.lt
  replace hw := hw.trans (hb.mono hw.size)
  clear x2c0 x2c1 x2c2 x2c3 x2l
  clear hb
  go_upto_region 6 with (fail)
  obtain ⟨W5, hW5⟩ : ∃ W, W = w4.alloc (.cells #[.slice A5 x.recs.length c5, .int .i64 x.many, .int .i64 x.sync] 55) := ⟨_, rfl⟩
  rw [← hW5]
  have hb : Below w4.heap.size w4 W5 := by rw [hW5]; exact (Below.refl _ _).alloc (Nat.le_refl _) _
  have x5 : Blk W5 w4.heap.size 55 #[.slice A5 x.recs.length c5, .int .i64 x.many, .int .i64 x.sync] := by rw [hW5]; exact Blk.new w4 55 _
  clear hW5
  replace r0 := r0.below hb
  replace b0 := b0.below hb
  replace r5 := r5.below hb
  replace x2 := x2.below hb x2.lt
  replace hw := hw.trans (hb.mono hw.size)
  clear hb
  have x2c0 := x2.cell 0
  have x2c1 := x2.cell 1
  have x2c2 := x2.cell 2
  have x2c3 := x2.cell 3
  simp only [List.getElem?_toArray, List.getElem?_cons_zero, List.getElem?_cons_succ] at x2c0 x2c1 x2c2 x2c3
  have x2l := x2.lt
  go_wp2_with (fail)
  have K : Calls Try.prog 48 #[.agg #[.slice RA j.recs.length rc, .int .i64 j.many, .int .i64 j.sync], .slice A b.length c] W5 (JnIs n₀ W5 (x, e)) := by rw [HGE.out]; exact rappend_t RA A rc c j b W5 HSM.out (by omega) hrc hbc r0 b0
  go_at_call 48
  refine K.mono ?_
  intro e9 w6 hx
  obtain ⟨A7, c7, rfl, hc7, r7, hb⟩ := jn_out hx
  clear hx
  clear K
  replace r0 := r0.below hb
  replace b0 := b0.below hb
  replace r5 := r5.below hb
  replace x2 := x2.below hb x2.lt
  replace x5 := x5.below hb x5.lt
  replace hw := hw.trans (hb.mono hw.size)
  clear x2c0 x2c1 x2c2 x2c3 x2l
  clear hb
  go_upto_region 7 with (fail)
  obtain ⟨W7, hW7⟩ : ∃ W, W = w6.alloc (.cells #[.slice A7 x.recs.length c7, .int .i64 x.many, .int .i64 x.sync] 55) := ⟨_, rfl⟩
  rw [← hW7]
  have hb : Below w6.heap.size w6 W7 := by rw [hW7]; exact (Below.refl _ _).alloc (Nat.le_refl _) _
  have x7 : Blk W7 w6.heap.size 55 #[.slice A7 x.recs.length c7, .int .i64 x.many, .int .i64 x.sync] := by rw [hW7]; exact Blk.new w6 55 _
  clear hW7
  replace r0 := r0.below hb
  replace b0 := b0.below hb
  replace r5 := r5.below hb
  replace r7 := r7.below hb
  replace x2 := x2.below hb x2.lt
  replace x5 := x5.below hb x5.lt
  replace hw := hw.trans (hb.mono hw.size)
  clear hb
  have x2c0 := x2.cell 0
  have x2c1 := x2.cell 1
  have x2c2 := x2.cell 2
  have x2c3 := x2.cell 3
  simp only [List.getElem?_toArray, List.getElem?_cons_zero, List.getElem?_cons_succ] at x2c0 x2c1 x2c2 x2c3
  have x2l := x2.lt
  have x5c0 := x5.cell 0
  have x5c1 := x5.cell 1
  have x5c2 := x5.cell 2
  have x5c3 := x5.cell 3
  simp only [List.getElem?_toArray, List.getElem?_cons_zero, List.getElem?_cons_succ] at x5c0 x5c1 x5c2 x5c3
  have x5l := x5.lt
  have x7c0 := x7.cell 0
  have x7c1 := x7.cell 1
  have x7c2 := x7.cell 2
  have x7c3 := x7.cell 3
  simp only [List.getElem?_toArray, List.getElem?_cons_zero, List.getElem?_cons_succ] at x7c0 x7c1 x7c2 x7c3
  have x7l := x7.lt
  obtain ⟨gc, hgc⟩ : ∃ x, x = gJchk j := ⟨_, rfl⟩
  have HGC := Lib.hid hgc
  obtain ⟨rm, hrm⟩ : ∃ x, x = gRoom j := ⟨_, rfl⟩
  have HRM := Lib.hid hrm
  clear hgc hrm
  have hc1 : ∀ W, Below W7.heap.size W7 W → Calls Try.prog 49 #[.agg #[.slice RA j.recs.length rc, .int .i64 j.many, .int .i64 j.sync]] W (fun e w' => e = .returned (.int .i64 gc) ∧ Below W.heap.size W w') := fun W hW => by rw [HGC.out]; exact jcheck_t RA rc j W HSM.out (r0.below hW)
  have HC1 := Lib.hid hc1
  clear hc1
  have hc2 : ∀ W, Below W7.heap.size W7 W → Calls Try.prog 50 #[.agg #[.slice RA j.recs.length rc, .int .i64 j.many, .int .i64 j.sync]] W (fun e w' => e = .returned (.int .i64 gc) ∧ Below W.heap.size W w') := fun W hW => by rw [HGC.out]; exact rjcheck_t RA rc j W HSM.out (r0.below hW)
  have HC2 := Lib.hid hc2
  clear hc2
  have hr1 : ∀ W, Below W7.heap.size W7 W → Calls Try.prog 51 #[.agg #[.slice RA j.recs.length rc, .int .i64 j.many, .int .i64 j.sync]] W (fun e w' => e = .returned (.int .i64 rm) ∧ Below W.heap.size W w') := fun W hW => by rw [HRM.out]; exact room_t RA rc j W HSM.out (r0.below hW)
  have HR1 := Lib.hid hr1
  clear hr1
  have hr2 : ∀ W, Below W7.heap.size W7 W → Calls Try.prog 52 #[.agg #[.slice RA j.recs.length rc, .int .i64 j.many, .int .i64 j.sync]] W (fun e w' => e = .returned (.int .i64 rm) ∧ Below W.heap.size W w') := fun W hW => by rw [HRM.out]; exact rroom_t RA rc j W HSM.out (r0.below hW)
  have HR2 := Lib.hid hr2
  clear hr2
  have hsj : ∀ W, Below W7.heap.size W7 W → Calls Try.prog 46 #[.agg #[.slice A5 x.recs.length c5, .int .i64 x.many, .int .i64 x.sync], .agg #[.slice A7 x.recs.length c7, .int .i64 x.many, .int .i64 x.sync]] W (fun e w' => e = .returned (.bool true) ∧ Below W.heap.size W w') := fun W hW => by have h := jsame_t A5 A7 c5 c7 x x W (by omega) (by omega) (r5.below hW) (r7.below hW); rw [sameJ_self] at h; exact h
  have HSJ := Lib.hid hsj
  clear hsj
  have hS : ∀ W, Below W7.heap.size W7 W → (fun W => W.cell? ⟨w.heap.size, 0, none⟩ = some (.slice RA j.recs.length rc) ∧ W.cell? ⟨w.heap.size, 1, none⟩ = some (.int .i64 j.many) ∧ W.cell? ⟨w.heap.size, 2, none⟩ = some (.int .i64 j.sync) ∧ W.cell? ⟨w4.heap.size, 0, none⟩ = some (.slice A5 x.recs.length c5) ∧ W.cell? ⟨w4.heap.size, 1, none⟩ = some (.int .i64 x.many) ∧ W.cell? ⟨w4.heap.size, 2, none⟩ = some (.int .i64 x.sync) ∧ W.cell? ⟨w6.heap.size, 0, none⟩ = some (.slice A7 x.recs.length c7) ∧ W.cell? ⟨w6.heap.size, 1, none⟩ = some (.int .i64 x.many) ∧ W.cell? ⟨w6.heap.size, 2, none⟩ = some (.int .i64 x.sync) ∧ Below W7.heap.size W7 W) W := fun W hW => ⟨(hW.cell (p := ⟨w.heap.size, 0, none⟩) x2l).trans x2c0, (hW.cell (p := ⟨w.heap.size, 1, none⟩) x2l).trans x2c1, (hW.cell (p := ⟨w.heap.size, 2, none⟩) x2l).trans x2c2, (hW.cell (p := ⟨w4.heap.size, 0, none⟩) x5l).trans x5c0, (hW.cell (p := ⟨w4.heap.size, 1, none⟩) x5l).trans x5c1, (hW.cell (p := ⟨w4.heap.size, 2, none⟩) x5l).trans x5c2, (hW.cell (p := ⟨w6.heap.size, 0, none⟩) x7l).trans x7c0, (hW.cell (p := ⟨w6.heap.size, 1, none⟩) x7l).trans x7c1, (hW.cell (p := ⟨w6.heap.size, 2, none⟩) x7l).trans x7c2, hW⟩
  have HSS := Lib.hid hS
  clear hS
  go_upto_region 7 with (fail)
  refine wp_region_held_drew (S := (fun W => W.cell? ⟨w.heap.size, 0, none⟩ = some (.slice RA j.recs.length rc) ∧ W.cell? ⟨w.heap.size, 1, none⟩ = some (.int .i64 j.many) ∧ W.cell? ⟨w.heap.size, 2, none⟩ = some (.int .i64 j.sync) ∧ W.cell? ⟨w4.heap.size, 0, none⟩ = some (.slice A5 x.recs.length c5) ∧ W.cell? ⟨w4.heap.size, 1, none⟩ = some (.int .i64 x.many) ∧ W.cell? ⟨w4.heap.size, 2, none⟩ = some (.int .i64 x.sync) ∧ W.cell? ⟨w6.heap.size, 0, none⟩ = some (.slice A7 x.recs.length c7) ∧ W.cell? ⟨w6.heap.size, 1, none⟩ = some (.int .i64 x.many) ∧ W.cell? ⟨w6.heap.size, 2, none⟩ = some (.int .i64 x.sync) ∧ Below W7.heap.size W7 W)) (by kernel_rfl) (HSS.out _ (Below.refl _ _).drew) (fun hHeld => ?_)
  refine wpAnyH_take (i := 0) (oi := { dst := some 33, op := Op.load 55 (Operand.tmp 2), type := 55, pos := "law.go:56", after := #[], guard := none }) (v := ?_) rfl (by kernel_rfl) (by kernel_rfl) (by kernel_rfl) (fun _ _ _ h => h) (Or.inl ⟨by rfl, ?_⟩) (by assumption) ?_
  rotate_left
  · intro wS hSw; go_split_ands; go_simp; first | done | with_reducible rfl
  simp only [Act.put, List.setIfInBounds_toArray, List.set_cons_zero, List.set_cons_succ]
  refine wpAnyH_take (i := 2) (oi := { dst := some 35, op := Op.load 55 (Operand.tmp 2), type := 55, pos := "law.go:56", after := #[], guard := none }) (v := ?_) rfl (by kernel_rfl) (by kernel_rfl) (by kernel_rfl) (fun _ _ _ h => h) (Or.inl ⟨by rfl, ?_⟩) (by assumption) ?_
  rotate_left
  · intro wS hSw; go_split_ands; go_simp; first | done | with_reducible rfl
  simp only [Act.put, List.setIfInBounds_toArray, List.set_cons_zero, List.set_cons_succ]
  refine wpAnyH_ready (rs := [1]) (by kernel_rfl) (by simp) ?_
  refine AllReadyH.cons (o := { dst := some 34, op := Op.call { callee := Callee.value (Operand.func 49), args := #[Operand.tmp 33], argTypes := #[55] }, type := 28, pos := "law.go:56", after := #[{ on := 0, ground := Ground.data }], guard := none }) rfl (fun K hK => ?_) AllReadyH.nil
  go_simp
  go_at_call 49; refine (HC1.out _ hHeld.2.2.2.2.2.2.2.2.2).mono ?_; rintro e9 w9 ⟨rfl, hb9⟩
  refine hK.out _ _ ?_ (fun hHeld => ?_)
  · exact HSS.out _ (hHeld.2.2.2.2.2.2.2.2.2.trans (hb9.mono hHeld.2.2.2.2.2.2.2.2.2.size))
  clear hK K
  try simp only [Act.put, List.setIfInBounds_toArray, List.set_cons_zero, List.set_cons_succ]
  refine wpAnyH_ready (rs := [3]) (by kernel_rfl) (by simp) ?_
  refine AllReadyH.cons (o := { dst := some 36, op := Op.call { callee := Callee.value (Operand.func 50), args := #[Operand.tmp 35], argTypes := #[55] }, type := 28, pos := "law.go:56", after := #[{ on := 2, ground := Ground.data }, { on := 1, ground := Ground.chain }], guard := none }) rfl (fun K hK => ?_) AllReadyH.nil
  go_simp
  go_at_call 50; refine (HC2.out _ hHeld.2.2.2.2.2.2.2.2.2).mono ?_; rintro e9 w9 ⟨rfl, hb9⟩
  refine hK.out _ _ ?_ (fun hHeld => ?_)
  · exact HSS.out _ (hHeld.2.2.2.2.2.2.2.2.2.trans (hb9.mono hHeld.2.2.2.2.2.2.2.2.2.size))
  clear hK K
  try simp only [Act.put, List.setIfInBounds_toArray, List.set_cons_zero, List.set_cons_succ]
  refine wpAnyH_take (i := 4) (oi := { dst := some 37, op := Op.binOp BinOp.eql 28 (Operand.tmp 34) (Operand.tmp 36) 28, type := 4, pos := "law.go:56", after := #[{ on := 1, ground := Ground.data }, { on := 3, ground := Ground.data }], guard := none }) (v := ?_) rfl (by kernel_rfl) (by kernel_rfl) (by kernel_rfl) (fun _ _ _ h => h) (Or.inl ⟨by rfl, ?_⟩) (by assumption) ?_
  rotate_left
  · intro wS hSw; go_split_ands; go_simp; first | done | with_reducible rfl
  simp only [Act.put, List.setIfInBounds_toArray, List.set_cons_zero, List.set_cons_succ]
  refine wpAnyH_take (i := 5) (oi := { dst := some 38, op := Op.move (Operand.tmp 37), type := 4, pos := "law.go:56", after := #[{ on := 4, ground := Ground.data }, { on := 3, ground := Ground.chain }], guard := none }) (v := ?_) rfl (by kernel_rfl) (by kernel_rfl) (by kernel_rfl) (fun _ _ _ h => h) (Or.inl ⟨by rfl, ?_⟩) (by assumption) ?_
  rotate_left
  · intro wS hSw; go_split_ands; go_simp; first | done | with_reducible rfl
  simp only [Act.put, List.setIfInBounds_toArray, List.set_cons_zero, List.set_cons_succ]
  refine wpAnyH_take (i := 6) (oi := { dst := some 39, op := Op.load 55 (Operand.tmp 2), type := 55, pos := "law.go:56", after := #[{ on := 5, ground := Ground.guard }], guard := some (5, true) }) (v := ?_) rfl (by kernel_rfl) (by kernel_rfl) (by kernel_rfl) (fun _ _ _ h => h) (Or.inl ⟨by rfl, ?_⟩) (by assumption) ?_
  rotate_left
  · intro wS hSw; go_split_ands; go_simp; first | done | with_reducible rfl
  simp only [Act.put, List.setIfInBounds_toArray, List.set_cons_zero, List.set_cons_succ]
  refine wpAnyH_take (i := 8) (oi := { dst := some 41, op := Op.load 55 (Operand.tmp 2), type := 55, pos := "law.go:56", after := #[{ on := 5, ground := Ground.guard }], guard := some (5, true) }) (v := ?_) rfl (by kernel_rfl) (by kernel_rfl) (by kernel_rfl) (fun _ _ _ h => h) (Or.inl ⟨by rfl, ?_⟩) (by assumption) ?_
  rotate_left
  · intro wS hSw; go_split_ands; go_simp; first | done | with_reducible rfl
  simp only [Act.put, List.setIfInBounds_toArray, List.set_cons_zero, List.set_cons_succ]
  refine wpAnyH_ready (rs := [7]) (by kernel_rfl) (by simp) ?_
  refine AllReadyH.cons (o := { dst := some 40, op := Op.call { callee := Callee.value (Operand.func 51), args := #[Operand.tmp 39], argTypes := #[55] }, type := 3, pos := "law.go:56", after := #[{ on := 6, ground := Ground.data }, { on := 5, ground := Ground.chain }, { on := 5, ground := Ground.guard }], guard := some (5, true) }) rfl (fun K hK => ?_) AllReadyH.nil
  go_simp
  go_at_call 51; refine (HR1.out _ hHeld.2.2.2.2.2.2.2.2.2).mono ?_; rintro e9 w9 ⟨rfl, hb9⟩
  refine hK.out _ _ ?_ (fun hHeld => ?_)
  · exact HSS.out _ (hHeld.2.2.2.2.2.2.2.2.2.trans (hb9.mono hHeld.2.2.2.2.2.2.2.2.2.size))
  clear hK K
  try simp only [Act.put, List.setIfInBounds_toArray, List.set_cons_zero, List.set_cons_succ]
  refine wpAnyH_ready (rs := [9]) (by kernel_rfl) (by simp) ?_
  refine AllReadyH.cons (o := { dst := some 42, op := Op.call { callee := Callee.value (Operand.func 52), args := #[Operand.tmp 41], argTypes := #[55] }, type := 3, pos := "law.go:56", after := #[{ on := 8, ground := Ground.data }, { on := 7, ground := Ground.chain }, { on := 5, ground := Ground.guard }], guard := some (5, true) }) rfl (fun K hK => ?_) AllReadyH.nil
  go_simp
  go_at_call 52; refine (HR2.out _ hHeld.2.2.2.2.2.2.2.2.2).mono ?_; rintro e9 w9 ⟨rfl, hb9⟩
  refine hK.out _ _ ?_ (fun hHeld => ?_)
  · exact HSS.out _ (hHeld.2.2.2.2.2.2.2.2.2.trans (hb9.mono hHeld.2.2.2.2.2.2.2.2.2.size))
  clear hK K
  try simp only [Act.put, List.setIfInBounds_toArray, List.set_cons_zero, List.set_cons_succ]
  refine wpAnyH_take (i := 10) (oi := { dst := some 43, op := Op.binOp BinOp.eql 3 (Operand.tmp 40) (Operand.tmp 42) 3, type := 4, pos := "law.go:56", after := #[{ on := 7, ground := Ground.data }, { on := 9, ground := Ground.data }, { on := 5, ground := Ground.guard }], guard := some (5, true) }) (v := ?_) rfl (by kernel_rfl) (by kernel_rfl) (by kernel_rfl) (fun _ _ _ h => h) (Or.inl ⟨by rfl, ?_⟩) (by assumption) ?_
  rotate_left
  · intro wS hSw; go_split_ands; go_simp; first | done | with_reducible rfl
  simp only [Act.put, List.setIfInBounds_toArray, List.set_cons_zero, List.set_cons_succ]
  refine wpAnyH_take (i := 11) (oi := { dst := some 44, op := Op.pick (Operand.tmp 38) (Operand.tmp 43) (Operand.const (Value.bool false)), type := 4, pos := "law.go:56", after := #[{ on := 5, ground := Ground.data }, { on := 10, ground := Ground.data }], guard := none }) (v := ?_) rfl (by kernel_rfl) (by kernel_rfl) (by kernel_rfl) (fun _ _ _ h => h) (Or.inl ⟨by rfl, ?_⟩) (by assumption) ?_
  rotate_left
  · intro wS hSw; go_split_ands; go_simp; first | done | with_reducible rfl
  simp only [Act.put, List.setIfInBounds_toArray, List.set_cons_zero, List.set_cons_succ]
  refine wpAnyH_take (i := 12) (oi := { dst := some 45, op := Op.move (Operand.tmp 44), type := 4, pos := "law.go:56", after := #[{ on := 11, ground := Ground.data }, { on := 9, ground := Ground.chain }], guard := none }) (v := ?_) rfl (by kernel_rfl) (by kernel_rfl) (by kernel_rfl) (fun _ _ _ h => h) (Or.inl ⟨by rfl, ?_⟩) (by assumption) ?_
  rotate_left
  · intro wS hSw; go_split_ands; go_simp; first | done | with_reducible rfl
  simp only [Act.put, List.setIfInBounds_toArray, List.set_cons_zero, List.set_cons_succ]
  refine wpAnyH_take (i := 13) (oi := { dst := some 46, op := Op.load 55 (Operand.tmp 5), type := 55, pos := "law.go:56", after := #[{ on := 12, ground := Ground.guard }], guard := some (12, true) }) (v := ?_) rfl (by kernel_rfl) (by kernel_rfl) (by kernel_rfl) (fun _ _ _ h => h) (Or.inl ⟨by rfl, ?_⟩) (by assumption) ?_
  rotate_left
  · intro wS hSw; go_split_ands; go_simp; first | done | with_reducible rfl
  simp only [Act.put, List.setIfInBounds_toArray, List.set_cons_zero, List.set_cons_succ]
  refine wpAnyH_take (i := 14) (oi := { dst := some 47, op := Op.load 55 (Operand.tmp 7), type := 55, pos := "law.go:56", after := #[{ on := 12, ground := Ground.guard }], guard := some (12, true) }) (v := ?_) rfl (by kernel_rfl) (by kernel_rfl) (by kernel_rfl) (fun _ _ _ h => h) (Or.inl ⟨by rfl, ?_⟩) (by assumption) ?_
  rotate_left
  · intro wS hSw; go_split_ands; go_simp; first | done | with_reducible rfl
  simp only [Act.put, List.setIfInBounds_toArray, List.set_cons_zero, List.set_cons_succ]
  refine wpAnyH_ready (rs := [15]) (by kernel_rfl) (by simp) ?_
  refine AllReadyH.cons (o := { dst := some 48, op := Op.call { callee := Callee.value (Operand.func 46), args := #[Operand.tmp 46, Operand.tmp 47], argTypes := #[55, 55] }, type := 4, pos := "law.go:56", after := #[{ on := 13, ground := Ground.data }, { on := 14, ground := Ground.data }, { on := 12, ground := Ground.chain }, { on := 12, ground := Ground.guard }], guard := some (12, true) }) rfl (fun K hK => ?_) AllReadyH.nil
  go_simp
  go_at_call 46; refine (HSJ.out _ hHeld.2.2.2.2.2.2.2.2.2).mono ?_; rintro e9 w9 ⟨rfl, hb9⟩
  refine hK.out _ _ ?_ (fun hHeld => ?_)
  · exact HSS.out _ (hHeld.2.2.2.2.2.2.2.2.2.trans (hb9.mono hHeld.2.2.2.2.2.2.2.2.2.size))
  clear hK K
  try simp only [Act.put, List.setIfInBounds_toArray, List.set_cons_zero, List.set_cons_succ]
  refine wpAnyH_take (i := 16) (oi := { dst := some 49, op := Op.pick (Operand.tmp 45) (Operand.tmp 48) (Operand.const (Value.bool false)), type := 4, pos := "law.go:56", after := #[{ on := 12, ground := Ground.data }, { on := 15, ground := Ground.data }], guard := none }) (v := ?_) rfl (by kernel_rfl) (by kernel_rfl) (by kernel_rfl) (fun _ _ _ h => h) (Or.inl ⟨by rfl, ?_⟩) (by assumption) ?_
  rotate_left
  · intro wS hSw; go_split_ands; go_simp; first | done | with_reducible rfl
  simp only [Act.put, List.setIfInBounds_toArray, List.set_cons_zero, List.set_cons_succ]
  refine wpAnyH_take (i := 17) (oi := { dst := some 50, op := Op.move (Operand.tmp 49), type := 4, pos := "law.go:56", after := #[{ on := 16, ground := Ground.data }, { on := 15, ground := Ground.chain }], guard := none }) (v := ?_) rfl (by kernel_rfl) (by kernel_rfl) (by kernel_rfl) (fun _ _ _ h => h) (Or.inl ⟨by rfl, ?_⟩) (by assumption) ?_
  rotate_left
  · intro wS hSw; go_split_ands; go_simp; first | done | with_reducible rfl
  simp only [Act.put, List.setIfInBounds_toArray, List.set_cons_zero, List.set_cons_succ]
  refine wpAnyH_take (i := 18) (oi := { dst := some 51, op := Op.move (Operand.tmp 6), type := 28, pos := "law.go:56", after := #[{ on := 17, ground := Ground.guard }], guard := some (17, true) }) (v := ?_) rfl (by kernel_rfl) (by kernel_rfl) (by kernel_rfl) (fun _ _ _ h => h) (Or.inl ⟨by rfl, ?_⟩) (by assumption) ?_
  rotate_left
  · intro wS hSw; go_split_ands; go_simp; first | done | with_reducible rfl
  simp only [Act.put, List.setIfInBounds_toArray, List.set_cons_zero, List.set_cons_succ]
  refine wpAnyH_take (i := 19) (oi := { dst := some 52, op := Op.move (Operand.tmp 8), type := 28, pos := "law.go:56", after := #[{ on := 17, ground := Ground.guard }], guard := some (17, true) }) (v := ?_) rfl (by kernel_rfl) (by kernel_rfl) (by kernel_rfl) (fun _ _ _ h => h) (Or.inl ⟨by rfl, ?_⟩) (by assumption) ?_
  rotate_left
  · intro wS hSw; go_split_ands; go_simp; first | done | with_reducible rfl
  simp only [Act.put, List.setIfInBounds_toArray, List.set_cons_zero, List.set_cons_succ]
  refine wpAnyH_take (i := 20) (oi := { dst := some 53, op := Op.binOp BinOp.eql 28 (Operand.tmp 51) (Operand.tmp 52) 28, type := 4, pos := "law.go:56", after := #[{ on := 18, ground := Ground.data }, { on := 19, ground := Ground.data }, { on := 17, ground := Ground.guard }], guard := some (17, true) }) (v := ?_) rfl (by kernel_rfl) (by kernel_rfl) (by kernel_rfl) (fun _ _ _ h => h) (Or.inl ⟨by rfl, ?_⟩) (by assumption) ?_
  rotate_left
  · intro wS hSw; go_split_ands; go_simp; first | done | with_reducible rfl
  simp only [Act.put, List.setIfInBounds_toArray, List.set_cons_zero, List.set_cons_succ]
  refine wpAnyH_take (i := 21) (oi := { dst := some 54, op := Op.pick (Operand.tmp 50) (Operand.tmp 53) (Operand.const (Value.bool false)), type := 4, pos := "law.go:56", after := #[{ on := 17, ground := Ground.data }, { on := 20, ground := Ground.data }], guard := none }) (v := ?_) rfl (by kernel_rfl) (by kernel_rfl) (by kernel_rfl) (fun _ _ _ h => h) (Or.inl ⟨by rfl, ?_⟩) (by assumption) ?_
  rotate_left
  · intro wS hSw; go_split_ands; go_simp; first | done | with_reducible rfl
  simp only [Act.put, List.setIfInBounds_toArray, List.set_cons_zero, List.set_cons_succ]
  refine wpAnyH_ready (rs := [22]) (by kernel_rfl) (by simp) ?_
  refine AllReadyH.cons (o := { dst := some 4, op := Op.assign (Operand.tmp 54), type := 4, pos := "law.go:56", after := #[{ on := 21, ground := Ground.data }, { on := 17, ground := Ground.chain }, { on := 0, ground := Ground.phase }, { on := 1, ground := Ground.phase }, { on := 2, ground := Ground.phase }, { on := 3, ground := Ground.phase }, { on := 4, ground := Ground.phase }, { on := 5, ground := Ground.phase }, { on := 6, ground := Ground.phase }, { on := 7, ground := Ground.phase }, { on := 8, ground := Ground.phase }, { on := 9, ground := Ground.phase }, { on := 10, ground := Ground.phase }, { on := 11, ground := Ground.phase }, { on := 12, ground := Ground.phase }, { on := 13, ground := Ground.phase }, { on := 14, ground := Ground.phase }, { on := 15, ground := Ground.phase }, { on := 16, ground := Ground.phase }, { on := 17, ground := Ground.phase }, { on := 18, ground := Ground.phase }, { on := 19, ground := Ground.phase }, { on := 20, ground := Ground.phase }, { on := 21, ground := Ground.phase }], guard := none }) rfl (fun K hK => ?_) AllReadyH.nil
  go_simp
  refine hK.out _ _ ?_ (fun hHeld => ?_)
  · exact hHeld
  clear hK K
  try simp only [Act.put, List.setIfInBounds_toArray, List.set_cons_zero, List.set_cons_succ]
  refine wpAnyH_done (by kernel_rfl) ?_ _

  go_wp2
  go_ret
  exact ⟨rfl, hw.trans (hHeld.2.2.2.2.2.2.2.2.2.mono hw.size)⟩
end Go.Proofs.Ytckeopidedoohaa
