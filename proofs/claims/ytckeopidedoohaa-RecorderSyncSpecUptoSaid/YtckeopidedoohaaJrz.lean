/-
  Sync of the journal's reference. Conditions: the journal and the disk lie as plain data.
-/
import Derived.Test.YtckeopidedoohaaTk
import Derived.Test.YtckeopidedoohaaJs
import Derived.Test.YtckeopidedoohaaJsx
import Derived.Test.YtckeopidedoohaaJrs
import Derived.Test.YtckeopidedoohaaDrs
import Derived.Test.YtckeopidedoohaaDrw
import Derived.Test.YtckeopidedoohaaJra
import Derived.Test.YtckeopidedoohaaJfw
import Derived.Deep.RegionHeld3
import Derived.Deep.DeepCutAuto
import Derived.BigRegion
import Derived.Deep.RegionWith
import Derived.Deep.CutBlock
namespace Go.Proofs.Ytckeopidedoohaa
open Go.RowKit
variable {n₀ : Nat}
attribute [local go_sem] Oper.semAt_some
@[reducible] def oJrz0 : Oper := { dst := some 53, op := Op.fieldAddr 25 (Operand.tmp 3) 0, type := 0, pos := "ref.go:208", after := #[], guard := none }
@[reducible] def oJrz1 : Oper := { dst := some 54, op := Op.load 22 (Operand.tmp 53), type := 22, pos := "ref.go:208", after := #[{ on := 0, ground := Ground.data }], guard := none }
@[reducible] def oJrz2 : Oper := { dst := some 56, op := Op.fieldAddr 55 (Operand.tmp 2) 0, type := 0, pos := "ref.go:208", after := #[], guard := none }
@[reducible] def oJrz3 : Oper := { dst := some 57, op := Op.load 22 (Operand.tmp 56), type := 22, pos := "ref.go:208", after := #[{ on := 3, ground := Ground.data }], guard := none }
@[reducible] def oJrz4 : Oper := { dst := some 58, op := Op.fieldAddr 55 (Operand.tmp 2) 2, type := 0, pos := "ref.go:208", after := #[], guard := none }
@[reducible] def oJrz5 : Oper := { dst := some 59, op := Op.load 3 (Operand.tmp 58), type := 3, pos := "ref.go:208", after := #[{ on := 5, ground := Ground.data }], guard := none }
@[reducible] def oJrz6 : Oper := { dst := some 60, op := Op.slice 22 (Operand.tmp 57) none (some (Operand.tmp 59)) none, type := 22, pos := "ref.go:208", after := #[{ on := 4, ground := Ground.data }, { on := 6, ground := Ground.data }], guard := none }
@[reducible] def oJrz7 : Oper := { dst := some 55, op := Op.call { callee := Callee.value (Operand.func 82), args := #[Operand.tmp 54], argTypes := #[22] }, type := 22, pos := "ref.go:208", after := #[{ on := 1, ground := Ground.data }], guard := none }
@[reducible] def oJrz8 : Oper := { dst := some 61, op := Op.call { callee := Callee.value (Operand.func 55), args := #[Operand.tmp 55, Operand.tmp 60], argTypes := #[22, 22] }, type := 4, pos := "ref.go:208", after := #[{ on := 2, ground := Ground.data }, { on := 7, ground := Ground.data }, { on := 2, ground := Ground.chain }], guard := none }
@[reducible] def oJrz9 : Oper := { dst := some 62, op := Op.unOp UnOp.not 4 (Operand.tmp 61), type := 4, pos := "ref.go:208", after := #[{ on := 8, ground := Ground.data }], guard := none }
@[reducible] def oJrz10 : Oper := { dst := some 63, op := Op.move (Operand.tmp 62), type := 4, pos := "ref.go:208", after := #[{ on := 9, ground := Ground.data }, { on := 8, ground := Ground.chain }], guard := none }
@[reducible] def oJrz11 : Oper := { dst := some 64, op := Op.move (Operand.tmp 9), type := 109, pos := "ref.go:208", after := #[{ on := 10, ground := Ground.guard }], guard := some (10, false) }
@[reducible] def oJrz12 : Oper := { dst := some 65, op := Op.binOp BinOp.gtr 109 (Operand.tmp 64) (Operand.const (Value.int IntKind.u64 4294967295)) 109, type := 4, pos := "ref.go:208", after := #[{ on := 11, ground := Ground.data }, { on := 10, ground := Ground.guard }], guard := some (10, false) }
@[reducible] def oJrz13 : Oper := { dst := some 66, op := Op.pick (Operand.tmp 63) (Operand.const (Value.bool true)) (Operand.tmp 65), type := 4, pos := "ref.go:208", after := #[{ on := 10, ground := Ground.data }, { on := 12, ground := Ground.data }], guard := none }
attribute [local go_sem] oJrz0 oJrz1 oJrz2 oJrz3 oJrz4 oJrz5 oJrz6 oJrz7 oJrz8 oJrz9 oJrz10 oJrz11 oJrz12 oJrz13

theorem lt16 {i : Nat} (h : i < 16) : i = 0 ∨ i = 1 ∨ i = 2 ∨ i = 3 ∨ i = 4 ∨ i = 5 ∨ i = 6 ∨ i = 7 ∨ i = 8 ∨ i = 9 ∨ i = 10 ∨ i = 11 ∨ i = 12 ∨ i = 13 ∨ i = 14 ∨ i = 15 := by omega
theorem kind_step (k n : Nat) (bg fn : Bool) (hb : bg = decide (k = 0)) (hf : fn = decide (n = 0)) : (if n = 0 then (if k = 0 then (1 : UInt8) else 0) ||| 2 else (if k = 0 then 1 else 0)) = kindB bg fn := by
  subst hb hf
  by_cases h1 : k = 0 <;> by_cases h2 : n = 0 <;> simp [h1, h2, kindB] <;> decide

set_option maxRecDepth 20000 in
set_option maxHeartbeats 16000000 in
theorem rjs_t (RA SA PA : Option Addr) (rc sc pc : Nat) (j : Jn) (d : Dk) (w : World) (hn : n₀ ≤ w.heap.size) (hs : Sm j.recs) (hrc : j.recs.length ≤ rc) (hl1 : d.secs.length ≤ 140737488355328) (hl2 : d.pend.length ≤ 140737488355328) (hsc : d.secs.length ≤ sc) (hpc : d.pend.length ≤ pc) (r0 : RowsAt n₀ w RA j.recs) (r1 : RowsAt n₀ w SA d.secs) (q1 : WrsAt n₀ w PA d.pend) :
    Calls Try.prog 54 #[.agg #[.slice RA j.recs.length rc, .int .i64 j.many, .int .i64 j.sync], .agg #[.slice SA d.secs.length sc, .slice PA d.pend.length pc, .int .i64 d.left, .bool d.stop]] w (JsIs n₀ w (gJs j d)) := by
  obtain ⟨gc, hgc⟩ : ∃ x, x = gJchk j := ⟨_, rfl⟩
  have HGC := Lib.hid hgc
  obtain ⟨gd, hgd⟩ : ∃ x, x = gChk d := ⟨_, rfl⟩
  have HGD := Lib.hid hgd
  have hjl := hs.1
  have HS := Lib.hid hs
  clear hs hgc hgd
  by_cases k0 : JVal j
  case neg =>
    have E := Lib.hid (gJs_no (d := d) k0)
    obtain rfl : gc = 1 := by rw [HGC.out, jchk_no k0]
    clear k0
    go_enter Try.func54, Try.ntmps54
    go_wp2_with (fail)
    obtain ⟨W1, hW1⟩ : ∃ W, W = ((((w.alloc (.cells #[.slice RA j.recs.length rc, .int .i64 j.many, .int .i64 j.sync] 55)).alloc (.cells #[.slice SA d.secs.length sc, .slice PA d.pend.length pc, .int .i64 d.left, .bool d.stop] 25)).alloc (.cells #[.slice none 0 0, .int .i64 0, .int .i64 0] 55)).alloc (.cells #[.slice none 0 0, .slice none 0 0, .int .i64 0, .bool false] 25)) := ⟨_, rfl⟩
    rw [← hW1]
    have hb : Below w.heap.size w W1 := by rw [hW1]; exact ((((Below.refl _ w).alloc (Nat.le_refl _) _).alloc (by simp) _).alloc (by simp <;> omega) _).alloc (by simp <;> omega) _
    have x2 : Blk W1 w.heap.size 55 #[.slice RA j.recs.length rc, .int .i64 j.many, .int .i64 j.sync] := by rw [hW1]; exact (((Blk.new w 55 _).alloc _).alloc _).alloc _
    have x3 : Blk W1 (w.heap.size + 1) 25 #[.slice SA d.secs.length sc, .slice PA d.pend.length pc, .int .i64 d.left, .bool d.stop] := by rw [hW1]; exact ((Blk.newAt (by simp) 25 _).alloc _).alloc _
    have x4 : Blk W1 (w.heap.size + 1 + 1) 55 #[.slice none 0 0, .int .i64 0, .int .i64 0] := by rw [hW1]; exact (Blk.newAt (by simp) 55 _).alloc _
    have x5 : Blk W1 (w.heap.size + 1 + 1 + 1) 25 #[.slice none 0 0, .slice none 0 0, .int .i64 0, .bool false] := by rw [hW1]; exact Blk.newAt (by simp) 25 _
    clear hW1
    replace r0 := r0.below hb
    replace r1 := r1.below hb
    replace q1 := q1.below hb
    have hw := hb
    clear hb
    have x2c0 := x2.cell 0
    have x2c1 := x2.cell 1
    have x2c2 := x2.cell 2
    simp only [List.getElem?_toArray, List.getElem?_cons_zero, List.getElem?_cons_succ] at x2c0 x2c1 x2c2
    have x2l := x2.lt
    go_wp2_with (fail)
    have K : Calls Try.prog 50 #[.agg #[.slice RA j.recs.length rc, .int .i64 j.many, .int .i64 j.sync]] W1 (fun e w' => e = .returned (.int .i64 1) ∧ Below W1.heap.size W1 w') := by have h := rjcheck_t RA rc j W1 HS.out r0; rw [← HGC.out] at h; exact h
    go_at_call 50
    refine K.mono ?_
    rintro e w2 ⟨rfl, hb⟩
    clear K
    replace r0 := r0.below hb
    replace r1 := r1.below hb
    replace q1 := q1.below hb
    replace x2 := x2.below hb x2.lt
    replace x3 := x3.below hb x3.lt
    replace x4 := x4.below hb x4.lt
    replace x5 := x5.below hb x5.lt
    replace hw := hw.trans (hb.mono hw.size)
    clear x2c0 x2c1 x2c2 x2l
    clear hb
    have x4c0 := x4.cell 0
    have x4f0 := x4.frozen 0
    have x4c1 := x4.cell 1
    have x4f1 := x4.frozen 1
    have x4c2 := x4.cell 2
    have x4f2 := x4.frozen 2
    simp only [List.getElem?_toArray, List.getElem?_cons_zero, List.getElem?_cons_succ] at x4c0 x4c1 x4c2
    have x4l := x4.lt
    have x5c0 := x5.cell 0
    have x5f0 := x5.frozen 0
    have x5c1 := x5.cell 1
    have x5f1 := x5.frozen 1
    have x5c2 := x5.cell 2
    have x5f2 := x5.frozen 2
    have x5c3 := x5.cell 3
    have x5f3 := x5.frozen 3
    simp only [List.getElem?_toArray, List.getElem?_cons_zero, List.getElem?_cons_succ] at x5c0 x5c1 x5c2 x5c3
    have x5l := x5.lt
    have HWW := Lib.hid hw
    clear hw
    go_wp2
    refine bodyPost_ret (v := .tuple #[.agg #[.slice none 0 0, .int .i64 0, .int .i64 0], .agg #[.slice none 0 0, .slice none 0 0, .int .i64 0, .bool false], .int .i64 1]) (by simp [results, Try.results54, go_sem, x4c0, x4c1, x4c2, x5c0, x5c1, x5c2, x5c3]) rfl ?_
    rw [E.out]
    exact js_no (by repeat (first | with_reducible exact HWW.out | refine Below.setCell ?_ (by simp <;> omega) _))
  obtain rfl : gc = 0 := by rw [HGC.out, jchk_yes k0]
  have HJ := Lib.hid k0
  by_cases k1 : Val d
  case neg =>
    have E := Lib.hid (gJs_nod k0 k1)
    obtain rfl : gd = 40 := by rw [HGD.out, chk_no k1]
    clear k0 k1
    go_enter Try.func54, Try.ntmps54
    go_wp2_with (fail)
    obtain ⟨W1, hW1⟩ : ∃ W, W = ((((w.alloc (.cells #[.slice RA j.recs.length rc, .int .i64 j.many, .int .i64 j.sync] 55)).alloc (.cells #[.slice SA d.secs.length sc, .slice PA d.pend.length pc, .int .i64 d.left, .bool d.stop] 25)).alloc (.cells #[.slice none 0 0, .int .i64 0, .int .i64 0] 55)).alloc (.cells #[.slice none 0 0, .slice none 0 0, .int .i64 0, .bool false] 25)) := ⟨_, rfl⟩
    rw [← hW1]
    have hb : Below w.heap.size w W1 := by rw [hW1]; exact ((((Below.refl _ w).alloc (Nat.le_refl _) _).alloc (by simp) _).alloc (by simp <;> omega) _).alloc (by simp <;> omega) _
    have x2 : Blk W1 w.heap.size 55 #[.slice RA j.recs.length rc, .int .i64 j.many, .int .i64 j.sync] := by rw [hW1]; exact (((Blk.new w 55 _).alloc _).alloc _).alloc _
    have x3 : Blk W1 (w.heap.size + 1) 25 #[.slice SA d.secs.length sc, .slice PA d.pend.length pc, .int .i64 d.left, .bool d.stop] := by rw [hW1]; exact ((Blk.newAt (by simp) 25 _).alloc _).alloc _
    have x4 : Blk W1 (w.heap.size + 1 + 1) 55 #[.slice none 0 0, .int .i64 0, .int .i64 0] := by rw [hW1]; exact (Blk.newAt (by simp) 55 _).alloc _
    have x5 : Blk W1 (w.heap.size + 1 + 1 + 1) 25 #[.slice none 0 0, .slice none 0 0, .int .i64 0, .bool false] := by rw [hW1]; exact Blk.newAt (by simp) 25 _
    clear hW1
    replace r0 := r0.below hb
    replace r1 := r1.below hb
    replace q1 := q1.below hb
    have hw := hb
    clear hb
    have x2c0 := x2.cell 0
    have x2c1 := x2.cell 1
    have x2c2 := x2.cell 2
    simp only [List.getElem?_toArray, List.getElem?_cons_zero, List.getElem?_cons_succ] at x2c0 x2c1 x2c2
    have x2l := x2.lt
    go_wp2_with (fail)
    have K : Calls Try.prog 50 #[.agg #[.slice RA j.recs.length rc, .int .i64 j.many, .int .i64 j.sync]] W1 (fun e w' => e = .returned (.int .i64 0) ∧ Below W1.heap.size W1 w') := by have h := rjcheck_t RA rc j W1 HS.out r0; rw [← HGC.out] at h; exact h
    go_at_call 50
    refine K.mono ?_
    rintro e w2 ⟨rfl, hb⟩
    clear K
    replace r0 := r0.below hb
    replace r1 := r1.below hb
    replace q1 := q1.below hb
    replace x2 := x2.below hb x2.lt
    replace x3 := x3.below hb x3.lt
    replace x4 := x4.below hb x4.lt
    replace x5 := x5.below hb x5.lt
    replace hw := hw.trans (hb.mono hw.size)
    clear x2c0 x2c1 x2c2 x2l
    clear hb
    have x3c0 := x3.cell 0
    have x3c1 := x3.cell 1
    have x3c2 := x3.cell 2
    have x3c3 := x3.cell 3
    simp only [List.getElem?_toArray, List.getElem?_cons_zero, List.getElem?_cons_succ] at x3c0 x3c1 x3c2 x3c3
    have x3l := x3.lt
    go_wp2_with (fail)
    have K : Calls Try.prog 29 #[.agg #[.slice SA d.secs.length sc, .slice PA d.pend.length pc, .int .i64 d.left, .bool d.stop]] w2 (fun e w' => e = .returned (.int .i64 40) ∧ Below w2.heap.size w2 w') := by have h := rcheck_t SA PA sc pc d w2 hl1 hl2 r1 q1; rw [← HGD.out] at h; exact h
    go_at_call 29
    refine K.mono ?_
    rintro e w3 ⟨rfl, hb⟩
    clear K
    replace r0 := r0.below hb
    replace r1 := r1.below hb
    replace q1 := q1.below hb
    replace x2 := x2.below hb x2.lt
    replace x3 := x3.below hb x3.lt
    replace x4 := x4.below hb x4.lt
    replace x5 := x5.below hb x5.lt
    replace hw := hw.trans (hb.mono hw.size)
    clear x3c0 x3c1 x3c2 x3c3 x3l
    clear hb
    have x4c0 := x4.cell 0
    have x4f0 := x4.frozen 0
    have x4c1 := x4.cell 1
    have x4f1 := x4.frozen 1
    have x4c2 := x4.cell 2
    have x4f2 := x4.frozen 2
    simp only [List.getElem?_toArray, List.getElem?_cons_zero, List.getElem?_cons_succ] at x4c0 x4c1 x4c2
    have x4l := x4.lt
    have x5c0 := x5.cell 0
    have x5f0 := x5.frozen 0
    have x5c1 := x5.cell 1
    have x5f1 := x5.frozen 1
    have x5c2 := x5.cell 2
    have x5f2 := x5.frozen 2
    have x5c3 := x5.cell 3
    have x5f3 := x5.frozen 3
    simp only [List.getElem?_toArray, List.getElem?_cons_zero, List.getElem?_cons_succ] at x5c0 x5c1 x5c2 x5c3
    have x5l := x5.lt
    have HWW := Lib.hid hw
    clear hw
    go_wp2
    refine bodyPost_ret (v := .tuple #[.agg #[.slice none 0 0, .int .i64 0, .int .i64 0], .agg #[.slice none 0 0, .slice none 0 0, .int .i64 0, .bool false], .int .i64 40]) (by simp [results, Try.results54, go_sem, x4c0, x4c1, x4c2, x5c0, x5c1, x5c2, x5c3]) rfl ?_
    rw [E.out]
    exact js_no (by repeat (first | with_reducible exact HWW.out | refine Below.setCell ?_ (by simp <;> omega) _))
  obtain rfl : gd = 0 := by rw [HGD.out, chk_yes k1]
  have HD := Lib.hid k1
  cases hst : d.stop
  case true =>
    have E := Lib.hid (gJs_stop k0 k1 hst)
    have HST := Lib.hid hst
    clear k0 k1 hst
    go_enter Try.func54, Try.ntmps54
    go_wp2_with (fail)
    obtain ⟨W1, hW1⟩ : ∃ W, W = ((((w.alloc (.cells #[.slice RA j.recs.length rc, .int .i64 j.many, .int .i64 j.sync] 55)).alloc (.cells #[.slice SA d.secs.length sc, .slice PA d.pend.length pc, .int .i64 d.left, .bool true] 25)).alloc (.cells #[.slice none 0 0, .int .i64 0, .int .i64 0] 55)).alloc (.cells #[.slice none 0 0, .slice none 0 0, .int .i64 0, .bool false] 25)) := ⟨_, rfl⟩
    rw [← hW1]
    have hb : Below w.heap.size w W1 := by rw [hW1]; exact ((((Below.refl _ w).alloc (Nat.le_refl _) _).alloc (by simp) _).alloc (by simp <;> omega) _).alloc (by simp <;> omega) _
    have x2 : Blk W1 w.heap.size 55 #[.slice RA j.recs.length rc, .int .i64 j.many, .int .i64 j.sync] := by rw [hW1]; exact (((Blk.new w 55 _).alloc _).alloc _).alloc _
    have x3 : Blk W1 (w.heap.size + 1) 25 #[.slice SA d.secs.length sc, .slice PA d.pend.length pc, .int .i64 d.left, .bool true] := by rw [hW1]; exact ((Blk.newAt (by simp) 25 _).alloc _).alloc _
    have x4 : Blk W1 (w.heap.size + 1 + 1) 55 #[.slice none 0 0, .int .i64 0, .int .i64 0] := by rw [hW1]; exact (Blk.newAt (by simp) 55 _).alloc _
    have x5 : Blk W1 (w.heap.size + 1 + 1 + 1) 25 #[.slice none 0 0, .slice none 0 0, .int .i64 0, .bool false] := by rw [hW1]; exact Blk.newAt (by simp) 25 _
    clear hW1
    replace r0 := r0.below hb
    replace r1 := r1.below hb
    replace q1 := q1.below hb
    have hw := hb
    clear hb
    have x2c0 := x2.cell 0
    have x2c1 := x2.cell 1
    have x2c2 := x2.cell 2
    simp only [List.getElem?_toArray, List.getElem?_cons_zero, List.getElem?_cons_succ] at x2c0 x2c1 x2c2
    have x2l := x2.lt
    go_wp2_with (fail)
    have K : Calls Try.prog 50 #[.agg #[.slice RA j.recs.length rc, .int .i64 j.many, .int .i64 j.sync]] W1 (fun e w' => e = .returned (.int .i64 0) ∧ Below W1.heap.size W1 w') := by have h := rjcheck_t RA rc j W1 HS.out r0; rw [← HGC.out] at h; exact h
    go_at_call 50
    refine K.mono ?_
    rintro e w2 ⟨rfl, hb⟩
    clear K
    replace r0 := r0.below hb
    replace r1 := r1.below hb
    replace q1 := q1.below hb
    replace x2 := x2.below hb x2.lt
    replace x3 := x3.below hb x3.lt
    replace x4 := x4.below hb x4.lt
    replace x5 := x5.below hb x5.lt
    replace hw := hw.trans (hb.mono hw.size)
    clear x2c0 x2c1 x2c2 x2l
    clear hb
    have x3c0 := x3.cell 0
    have x3c1 := x3.cell 1
    have x3c2 := x3.cell 2
    have x3c3 := x3.cell 3
    simp only [List.getElem?_toArray, List.getElem?_cons_zero, List.getElem?_cons_succ] at x3c0 x3c1 x3c2 x3c3
    have x3l := x3.lt
    go_wp2_with (fail)
    have K : Calls Try.prog 29 #[.agg #[.slice SA d.secs.length sc, .slice PA d.pend.length pc, .int .i64 d.left, .bool true]] w2 (fun e w' => e = .returned (.int .i64 0) ∧ Below w2.heap.size w2 w') := by have h := rcheck_t SA PA sc pc d w2 hl1 hl2 r1 q1; rw [← HGD.out] at h; rw [HST.out] at h; exact h
    go_at_call 29
    refine K.mono ?_
    rintro e w3 ⟨rfl, hb⟩
    clear K
    replace r0 := r0.below hb
    replace r1 := r1.below hb
    replace q1 := q1.below hb
    replace x2 := x2.below hb x2.lt
    replace x3 := x3.below hb x3.lt
    replace x4 := x4.below hb x4.lt
    replace x5 := x5.below hb x5.lt
    replace hw := hw.trans (hb.mono hw.size)
    clear x3c0 x3c1 x3c2 x3c3 x3l
    clear hb
    have x3c0 := x3.cell 0
    have x3c1 := x3.cell 1
    have x3c2 := x3.cell 2
    have x3c3 := x3.cell 3
    simp only [List.getElem?_toArray, List.getElem?_cons_zero, List.getElem?_cons_succ] at x3c0 x3c1 x3c2 x3c3
    have x3l := x3.lt
    have x4c0 := x4.cell 0
    have x4f0 := x4.frozen 0
    have x4c1 := x4.cell 1
    have x4f1 := x4.frozen 1
    have x4c2 := x4.cell 2
    have x4f2 := x4.frozen 2
    simp only [List.getElem?_toArray, List.getElem?_cons_zero, List.getElem?_cons_succ] at x4c0 x4c1 x4c2
    have x4l := x4.lt
    have x5c0 := x5.cell 0
    have x5f0 := x5.frozen 0
    have x5c1 := x5.cell 1
    have x5f1 := x5.frozen 1
    have x5c2 := x5.cell 2
    have x5f2 := x5.frozen 2
    have x5c3 := x5.cell 3
    have x5f3 := x5.frozen 3
    simp only [List.getElem?_toArray, List.getElem?_cons_zero, List.getElem?_cons_succ] at x5c0 x5c1 x5c2 x5c3
    have x5l := x5.lt
    have HWW := Lib.hid hw
    clear hw
    go_wp2
    refine bodyPost_ret (v := .tuple #[.agg #[.slice none 0 0, .int .i64 0, .int .i64 0], .agg #[.slice none 0 0, .slice none 0 0, .int .i64 0, .bool false], .int .i64 40]) (by simp [results, Try.results54, go_sem, x4c0, x4c1, x4c2, x5c0, x5c1, x5c2, x5c3]) rfl ?_
    rw [E.out]
    exact js_no (by repeat (first | with_reducible exact HWW.out | refine Below.setCell ?_ (by simp <;> omega) _))
  case false =>
    have HST := Lib.hid hst
    by_cases k2 : j.many = d.secs.length
    case neg =>
      have E := Lib.hid (gJs_many k0 k1 k2 hst)
      have dm : (j.many != (d.secs.length : Int)) = true := bne_iff_ne.2 k2
      clear k0 k1 k2 hst
      go_enter Try.func54, Try.ntmps54
      go_wp2_with (fail)
      obtain ⟨W1, hW1⟩ : ∃ W, W = ((((w.alloc (.cells #[.slice RA j.recs.length rc, .int .i64 j.many, .int .i64 j.sync] 55)).alloc (.cells #[.slice SA d.secs.length sc, .slice PA d.pend.length pc, .int .i64 d.left, .bool false] 25)).alloc (.cells #[.slice none 0 0, .int .i64 0, .int .i64 0] 55)).alloc (.cells #[.slice none 0 0, .slice none 0 0, .int .i64 0, .bool false] 25)) := ⟨_, rfl⟩
      rw [← hW1]
      have hb : Below w.heap.size w W1 := by rw [hW1]; exact ((((Below.refl _ w).alloc (Nat.le_refl _) _).alloc (by simp) _).alloc (by simp <;> omega) _).alloc (by simp <;> omega) _
      have x2 : Blk W1 w.heap.size 55 #[.slice RA j.recs.length rc, .int .i64 j.many, .int .i64 j.sync] := by rw [hW1]; exact (((Blk.new w 55 _).alloc _).alloc _).alloc _
      have x3 : Blk W1 (w.heap.size + 1) 25 #[.slice SA d.secs.length sc, .slice PA d.pend.length pc, .int .i64 d.left, .bool false] := by rw [hW1]; exact ((Blk.newAt (by simp) 25 _).alloc _).alloc _
      have x4 : Blk W1 (w.heap.size + 1 + 1) 55 #[.slice none 0 0, .int .i64 0, .int .i64 0] := by rw [hW1]; exact (Blk.newAt (by simp) 55 _).alloc _
      have x5 : Blk W1 (w.heap.size + 1 + 1 + 1) 25 #[.slice none 0 0, .slice none 0 0, .int .i64 0, .bool false] := by rw [hW1]; exact Blk.newAt (by simp) 25 _
      clear hW1
      replace r0 := r0.below hb
      replace r1 := r1.below hb
      replace q1 := q1.below hb
      have hw := hb
      clear hb
      have x2c0 := x2.cell 0
      have x2c1 := x2.cell 1
      have x2c2 := x2.cell 2
      simp only [List.getElem?_toArray, List.getElem?_cons_zero, List.getElem?_cons_succ] at x2c0 x2c1 x2c2
      have x2l := x2.lt
      go_wp2_with (fail)
      have K : Calls Try.prog 50 #[.agg #[.slice RA j.recs.length rc, .int .i64 j.many, .int .i64 j.sync]] W1 (fun e w' => e = .returned (.int .i64 0) ∧ Below W1.heap.size W1 w') := by have h := rjcheck_t RA rc j W1 HS.out r0; rw [← HGC.out] at h; exact h
      go_at_call 50
      refine K.mono ?_
      rintro e w2 ⟨rfl, hb⟩
      clear K
      replace r0 := r0.below hb
      replace r1 := r1.below hb
      replace q1 := q1.below hb
      replace x2 := x2.below hb x2.lt
      replace x3 := x3.below hb x3.lt
      replace x4 := x4.below hb x4.lt
      replace x5 := x5.below hb x5.lt
      replace hw := hw.trans (hb.mono hw.size)
      clear x2c0 x2c1 x2c2 x2l
      clear hb
      have x3c0 := x3.cell 0
      have x3c1 := x3.cell 1
      have x3c2 := x3.cell 2
      have x3c3 := x3.cell 3
      simp only [List.getElem?_toArray, List.getElem?_cons_zero, List.getElem?_cons_succ] at x3c0 x3c1 x3c2 x3c3
      have x3l := x3.lt
      go_wp2_with (fail)
      have K : Calls Try.prog 29 #[.agg #[.slice SA d.secs.length sc, .slice PA d.pend.length pc, .int .i64 d.left, .bool false]] w2 (fun e w' => e = .returned (.int .i64 0) ∧ Below w2.heap.size w2 w') := by have h := rcheck_t SA PA sc pc d w2 hl1 hl2 r1 q1; rw [← HGD.out] at h; rw [HST.out] at h; exact h
      go_at_call 29
      refine K.mono ?_
      rintro e w3 ⟨rfl, hb⟩
      clear K
      replace r0 := r0.below hb
      replace r1 := r1.below hb
      replace q1 := q1.below hb
      replace x2 := x2.below hb x2.lt
      replace x3 := x3.below hb x3.lt
      replace x4 := x4.below hb x4.lt
      replace x5 := x5.below hb x5.lt
      replace hw := hw.trans (hb.mono hw.size)
      clear x3c0 x3c1 x3c2 x3c3 x3l
      clear hb
      have x2c0 := x2.cell 0
      have x2c1 := x2.cell 1
      have x2c2 := x2.cell 2
      simp only [List.getElem?_toArray, List.getElem?_cons_zero, List.getElem?_cons_succ] at x2c0 x2c1 x2c2
      have x2l := x2.lt
      have x3c0 := x3.cell 0
      have x3c1 := x3.cell 1
      have x3c2 := x3.cell 2
      have x3c3 := x3.cell 3
      simp only [List.getElem?_toArray, List.getElem?_cons_zero, List.getElem?_cons_succ] at x3c0 x3c1 x3c2 x3c3
      have x3l := x3.lt
      have x4c0 := x4.cell 0
      have x4f0 := x4.frozen 0
      have x4c1 := x4.cell 1
      have x4f1 := x4.frozen 1
      have x4c2 := x4.cell 2
      have x4f2 := x4.frozen 2
      simp only [List.getElem?_toArray, List.getElem?_cons_zero, List.getElem?_cons_succ] at x4c0 x4c1 x4c2
      have x4l := x4.lt
      have x5c0 := x5.cell 0
      have x5f0 := x5.frozen 0
      have x5c1 := x5.cell 1
      have x5f1 := x5.frozen 1
      have x5c2 := x5.cell 2
      have x5f2 := x5.frozen 2
      have x5c3 := x5.cell 3
      have x5f3 := x5.frozen 3
      simp only [List.getElem?_toArray, List.getElem?_cons_zero, List.getElem?_cons_succ] at x5c0 x5c1 x5c2 x5c3
      have x5l := x5.lt
      have HWW := Lib.hid hw
      clear hw
      go_wp2
      refine bodyPost_ret (v := .tuple #[.agg #[.slice none 0 0, .int .i64 0, .int .i64 0], .agg #[.slice none 0 0, .slice none 0 0, .int .i64 0, .bool false], .int .i64 1]) (by simp [results, Try.results54, go_sem, x4c0, x4c1, x4c2, x5c0, x5c1, x5c2, x5c3]) rfl ?_
      rw [E.out]
      exact js_no (by repeat (first | with_reducible exact HWW.out | refine Below.setCell ?_ (by simp <;> omega) _))
    have dm : (j.many != (d.secs.length : Int)) = false := by rw [k2]; simp
    by_cases k3 : 0 < d.pend.length
    case pos =>
      have E := Lib.hid (gJs_pend k0 k1 k2 hst k3)
      have dp : decide ((0 : Int) < (d.pend.length : Int)) = true := decide_eq_true (by omega)
      have dpn : decide (0 < d.pend.length) = true := decide_eq_true k3
      clear k0 k1 k2 k3 hst
      go_enter Try.func54, Try.ntmps54
      go_wp2_with (fail)
      obtain ⟨W1, hW1⟩ : ∃ W, W = ((((w.alloc (.cells #[.slice RA j.recs.length rc, .int .i64 j.many, .int .i64 j.sync] 55)).alloc (.cells #[.slice SA d.secs.length sc, .slice PA d.pend.length pc, .int .i64 d.left, .bool false] 25)).alloc (.cells #[.slice none 0 0, .int .i64 0, .int .i64 0] 55)).alloc (.cells #[.slice none 0 0, .slice none 0 0, .int .i64 0, .bool false] 25)) := ⟨_, rfl⟩
      rw [← hW1]
      have hb : Below w.heap.size w W1 := by rw [hW1]; exact ((((Below.refl _ w).alloc (Nat.le_refl _) _).alloc (by simp) _).alloc (by simp <;> omega) _).alloc (by simp <;> omega) _
      have x2 : Blk W1 w.heap.size 55 #[.slice RA j.recs.length rc, .int .i64 j.many, .int .i64 j.sync] := by rw [hW1]; exact (((Blk.new w 55 _).alloc _).alloc _).alloc _
      have x3 : Blk W1 (w.heap.size + 1) 25 #[.slice SA d.secs.length sc, .slice PA d.pend.length pc, .int .i64 d.left, .bool false] := by rw [hW1]; exact ((Blk.newAt (by simp) 25 _).alloc _).alloc _
      have x4 : Blk W1 (w.heap.size + 1 + 1) 55 #[.slice none 0 0, .int .i64 0, .int .i64 0] := by rw [hW1]; exact (Blk.newAt (by simp) 55 _).alloc _
      have x5 : Blk W1 (w.heap.size + 1 + 1 + 1) 25 #[.slice none 0 0, .slice none 0 0, .int .i64 0, .bool false] := by rw [hW1]; exact Blk.newAt (by simp) 25 _
      clear hW1
      replace r0 := r0.below hb
      replace r1 := r1.below hb
      replace q1 := q1.below hb
      have hw := hb
      clear hb
      have x2c0 := x2.cell 0
      have x2c1 := x2.cell 1
      have x2c2 := x2.cell 2
      simp only [List.getElem?_toArray, List.getElem?_cons_zero, List.getElem?_cons_succ] at x2c0 x2c1 x2c2
      have x2l := x2.lt
      go_wp2_with (fail)
      have K : Calls Try.prog 50 #[.agg #[.slice RA j.recs.length rc, .int .i64 j.many, .int .i64 j.sync]] W1 (fun e w' => e = .returned (.int .i64 0) ∧ Below W1.heap.size W1 w') := by have h := rjcheck_t RA rc j W1 HS.out r0; rw [← HGC.out] at h; exact h
      go_at_call 50
      refine K.mono ?_
      rintro e w2 ⟨rfl, hb⟩
      clear K
      replace r0 := r0.below hb
      replace r1 := r1.below hb
      replace q1 := q1.below hb
      replace x2 := x2.below hb x2.lt
      replace x3 := x3.below hb x3.lt
      replace x4 := x4.below hb x4.lt
      replace x5 := x5.below hb x5.lt
      replace hw := hw.trans (hb.mono hw.size)
      clear x2c0 x2c1 x2c2 x2l
      clear hb
      have x3c0 := x3.cell 0
      have x3c1 := x3.cell 1
      have x3c2 := x3.cell 2
      have x3c3 := x3.cell 3
      simp only [List.getElem?_toArray, List.getElem?_cons_zero, List.getElem?_cons_succ] at x3c0 x3c1 x3c2 x3c3
      have x3l := x3.lt
      go_wp2_with (fail)
      have K : Calls Try.prog 29 #[.agg #[.slice SA d.secs.length sc, .slice PA d.pend.length pc, .int .i64 d.left, .bool false]] w2 (fun e w' => e = .returned (.int .i64 0) ∧ Below w2.heap.size w2 w') := by have h := rcheck_t SA PA sc pc d w2 hl1 hl2 r1 q1; rw [← HGD.out] at h; rw [HST.out] at h; exact h
      go_at_call 29
      refine K.mono ?_
      rintro e w3 ⟨rfl, hb⟩
      clear K
      replace r0 := r0.below hb
      replace r1 := r1.below hb
      replace q1 := q1.below hb
      replace x2 := x2.below hb x2.lt
      replace x3 := x3.below hb x3.lt
      replace x4 := x4.below hb x4.lt
      replace x5 := x5.below hb x5.lt
      replace hw := hw.trans (hb.mono hw.size)
      clear x3c0 x3c1 x3c2 x3c3 x3l
      clear hb
      have x2c0 := x2.cell 0
      have x2c1 := x2.cell 1
      have x2c2 := x2.cell 2
      simp only [List.getElem?_toArray, List.getElem?_cons_zero, List.getElem?_cons_succ] at x2c0 x2c1 x2c2
      have x2l := x2.lt
      have x3c0 := x3.cell 0
      have x3c1 := x3.cell 1
      have x3c2 := x3.cell 2
      have x3c3 := x3.cell 3
      simp only [List.getElem?_toArray, List.getElem?_cons_zero, List.getElem?_cons_succ] at x3c0 x3c1 x3c2 x3c3
      have x3l := x3.lt
      have x4c0 := x4.cell 0
      have x4f0 := x4.frozen 0
      have x4c1 := x4.cell 1
      have x4f1 := x4.frozen 1
      have x4c2 := x4.cell 2
      have x4f2 := x4.frozen 2
      simp only [List.getElem?_toArray, List.getElem?_cons_zero, List.getElem?_cons_succ] at x4c0 x4c1 x4c2
      have x4l := x4.lt
      have x5c0 := x5.cell 0
      have x5f0 := x5.frozen 0
      have x5c1 := x5.cell 1
      have x5f1 := x5.frozen 1
      have x5c2 := x5.cell 2
      have x5f2 := x5.frozen 2
      have x5c3 := x5.cell 3
      have x5f3 := x5.frozen 3
      simp only [List.getElem?_toArray, List.getElem?_cons_zero, List.getElem?_cons_succ] at x5c0 x5c1 x5c2 x5c3
      have x5l := x5.lt
      have HWW := Lib.hid hw
      clear hw
      go_wp2
      refine bodyPost_ret (v := .tuple #[.agg #[.slice none 0 0, .int .i64 0, .int .i64 0], .agg #[.slice none 0 0, .slice none 0 0, .int .i64 0, .bool false], .int .i64 1]) (by simp [results, Try.results54, go_sem, x4c0, x4c1, x4c2, x5c0, x5c1, x5c2, x5c3]) rfl ?_
      rw [E.out]
      exact js_no (by repeat (first | with_reducible exact HWW.out | refine Below.setCell ?_ (by simp <;> omega) _))
    have dp : decide ((0 : Int) < (d.pend.length : Int)) = false := decide_eq_false (by omega)
    have dpn : decide (0 < d.pend.length) = false := decide_eq_false k3
    have HK := Lib.hid (And.intro k0 (And.intro k1 (And.intro k2 (And.intro hst k3))))
    have h128 : ∀ b ∈ d.secs, b.length = 128 := k1.2.2.2.2.2.2
    have H128 := Lib.hid h128
    have hll : d.secs.length ≤ 4096 := k1.2.1
    have hgle := genN_le d.secs h128
    obtain ⟨os, hos⟩ : ∃ l, l = gRecs d.secs := ⟨_, rfl⟩
    have HOS := Lib.hid hos
    have hosl : os.length ≤ 4096 := by rw [hos]; unfold gRecs; rw [List.length_map]; exact Nat.le_trans (recs_len _ _ _ _) hll
    have hjs0 : 0 ≤ j.sync := k0.2.2.1
    have hjs1 : j.sync ≤ j.recs.length := k0.2.2.2.1
    clear k0 k1 k2 k3 hst hos h128
    obtain ⟨m, hjm⟩ : ∃ m : Nat, j.sync = (m : Int) := ⟨j.sync.toNat, by omega⟩
    have hmr : m ≤ j.recs.length := by omega
    have HJM := Lib.hid hjm
    clear hjs0 hjs1 hjm
    obtain ⟨gn, hgn⟩ : ∃ x, x = genN d.secs := ⟨_, rfl⟩
    rw [← hgn] at hgle
    have HGN := Lib.hid hgn
    clear hgn
    go_enter Try.func54, Try.ntmps54
    go_wp2_with (fail)
    obtain ⟨W1, hW1⟩ : ∃ W, W = ((((w.alloc (.cells #[.slice RA j.recs.length rc, .int .i64 j.many, .int .i64 j.sync] 55)).alloc (.cells #[.slice SA d.secs.length sc, .slice PA d.pend.length pc, .int .i64 d.left, .bool false] 25)).alloc (.cells #[.slice none 0 0, .int .i64 0, .int .i64 0] 55)).alloc (.cells #[.slice none 0 0, .slice none 0 0, .int .i64 0, .bool false] 25)) := ⟨_, rfl⟩
    rw [← hW1]
    have hb : Below w.heap.size w W1 := by rw [hW1]; exact ((((Below.refl _ w).alloc (Nat.le_refl _) _).alloc (by simp) _).alloc (by simp <;> omega) _).alloc (by simp <;> omega) _
    have x2 : Blk W1 w.heap.size 55 #[.slice RA j.recs.length rc, .int .i64 j.many, .int .i64 j.sync] := by rw [hW1]; exact (((Blk.new w 55 _).alloc _).alloc _).alloc _
    have x3 : Blk W1 (w.heap.size + 1) 25 #[.slice SA d.secs.length sc, .slice PA d.pend.length pc, .int .i64 d.left, .bool false] := by rw [hW1]; exact ((Blk.newAt (by simp) 25 _).alloc _).alloc _
    have x4 : Blk W1 (w.heap.size + 1 + 1) 55 #[.slice none 0 0, .int .i64 0, .int .i64 0] := by rw [hW1]; exact (Blk.newAt (by simp) 55 _).alloc _
    have x5 : Blk W1 (w.heap.size + 1 + 1 + 1) 25 #[.slice none 0 0, .slice none 0 0, .int .i64 0, .bool false] := by rw [hW1]; exact Blk.newAt (by simp) 25 _
    clear hW1
    replace r0 := r0.below hb
    replace r1 := r1.below hb
    replace q1 := q1.below hb
    have hw := hb
    clear hb
    have x2c0 := x2.cell 0
    have x2c1 := x2.cell 1
    have x2c2 := x2.cell 2
    simp only [List.getElem?_toArray, List.getElem?_cons_zero, List.getElem?_cons_succ] at x2c0 x2c1 x2c2
    have x2l := x2.lt
    go_wp2_with (fail)
    have K : Calls Try.prog 50 #[.agg #[.slice RA j.recs.length rc, .int .i64 j.many, .int .i64 j.sync]] W1 (fun e w' => e = .returned (.int .i64 0) ∧ Below W1.heap.size W1 w') := by have h := rjcheck_t RA rc j W1 HS.out r0; rw [← HGC.out] at h; exact h
    go_at_call 50
    refine K.mono ?_
    rintro e w2 ⟨rfl, hb⟩
    clear K
    replace r0 := r0.below hb
    replace r1 := r1.below hb
    replace q1 := q1.below hb
    replace x2 := x2.below hb x2.lt
    replace x3 := x3.below hb x3.lt
    replace x4 := x4.below hb x4.lt
    replace x5 := x5.below hb x5.lt
    replace hw := hw.trans (hb.mono hw.size)
    clear x2c0 x2c1 x2c2 x2l
    clear hb
    have x3c0 := x3.cell 0
    have x3c1 := x3.cell 1
    have x3c2 := x3.cell 2
    have x3c3 := x3.cell 3
    simp only [List.getElem?_toArray, List.getElem?_cons_zero, List.getElem?_cons_succ] at x3c0 x3c1 x3c2 x3c3
    have x3l := x3.lt
    go_wp2_with (fail)
    have K : Calls Try.prog 29 #[.agg #[.slice SA d.secs.length sc, .slice PA d.pend.length pc, .int .i64 d.left, .bool false]] w2 (fun e w' => e = .returned (.int .i64 0) ∧ Below w2.heap.size w2 w') := by have h := rcheck_t SA PA sc pc d w2 hl1 hl2 r1 q1; rw [← HGD.out] at h; rw [HST.out] at h; exact h
    go_at_call 29
    refine K.mono ?_
    rintro e w3 ⟨rfl, hb⟩
    clear K
    replace r0 := r0.below hb
    replace r1 := r1.below hb
    replace q1 := q1.below hb
    replace x2 := x2.below hb x2.lt
    replace x3 := x3.below hb x3.lt
    replace x4 := x4.below hb x4.lt
    replace x5 := x5.below hb x5.lt
    replace hw := hw.trans (hb.mono hw.size)
    clear x3c0 x3c1 x3c2 x3c3 x3l
    clear hb
    have x2c0 := x2.cell 0
    have x2c1 := x2.cell 1
    have x2c2 := x2.cell 2
    simp only [List.getElem?_toArray, List.getElem?_cons_zero, List.getElem?_cons_succ] at x2c0 x2c1 x2c2
    have x2l := x2.lt
    have x3c0 := x3.cell 0
    have x3c1 := x3.cell 1
    have x3c2 := x3.cell 2
    have x3c3 := x3.cell 3
    simp only [List.getElem?_toArray, List.getElem?_cons_zero, List.getElem?_cons_succ] at x3c0 x3c1 x3c2 x3c3
    have x3l := x3.lt
    go_wp2_with (fail)
    have K : Calls Try.prog 92 #[.slice SA d.secs.length sc] w3 (fun e w' => e = .returned (.int .u64 (gn : Nat)) ∧ Below w3.heap.size w3 w') := by have h := rgen_t (n₀ := n₀) SA sc d.secs w3 H128.out hll r1; rw [← HGN.out] at h; exact h
    go_at_call 92
    refine K.mono ?_
    rintro e w4 ⟨rfl, hb⟩
    clear K
    replace r0 := r0.below hb
    replace r1 := r1.below hb
    replace q1 := q1.below hb
    replace x2 := x2.below hb x2.lt
    replace x3 := x3.below hb x3.lt
    replace x4 := x4.below hb x4.lt
    replace x5 := x5.below hb x5.lt
    replace hw := hw.trans (hb.mono hw.size)
    clear x2c0 x2c1 x2c2 x2l x3c0 x3c1 x3c2 x3c3 x3l
    clear hb
    clear dm dp dpn
    obtain ⟨yq, hyq⟩ : ∃ y, y = decide (os = j.recs.take m) := ⟨_, rfl⟩
    have HYQ := Lib.hid hyq
    have hr : ∀ W, Below w4.heap.size w4 W → Calls Try.prog 82 #[.slice SA d.secs.length sc] W (fun e w' => ∃ A c, e = .returned (.slice A os.length c) ∧ RowsAt n₀ w' A os ∧ Below W.heap.size W w') := fun W hW => by
      have K := rrecords_t (n₀ := n₀) SA sc d.secs W (Nat.le_trans hn (Nat.le_trans hw.size hW.size)) H128.out hll (r1.below hW)
      rw [← HOS.out] at K
      exact K.mono fun e w9 hx => by obtain ⟨A, c, h1, -, h3, h4⟩ := hx; exact ⟨A, c, h1, h3, h4⟩
    have HRS9 := Lib.hid hr
    clear hr
    have hq : ∀ W A c, Below w4.heap.size w4 W → RowsAt n₀ W A os → Calls Try.prog 55 #[.slice A os.length c, .slice RA m rc] W (fun e w' => e = .returned (.bool yq) ∧ Below W.heap.size W w') := fun W A c hW hA => by
      have hl : (j.recs.take m).length = m := by rw [List.length_take]; omega
      have K := sameR_t (n₀ := n₀) A RA c rc os (j.recs.take m) W (by omega) (by rw [hl]; omega) hA (rows_take (r0.below hW) m)
      rw [hl, ← hyq] at K
      exact K
    have HEQ := Lib.hid hq
    clear hyq hq
    have m1 : (m : Int) ≤ (rc : Int) := by omega
    have m0 : (0 : Int) ≤ (m : Int) := by omega
    have x2c0 := x2.cell 0
    have x2c1 := x2.cell 1
    have x2c2 := x2.cell 2
    simp only [List.getElem?_toArray, List.getElem?_cons_zero, List.getElem?_cons_succ] at x2c0 x2c1 x2c2
    have x2l := x2.lt
    have x3c0 := x3.cell 0
    have x3c1 := x3.cell 1
    have x3c2 := x3.cell 2
    have x3c3 := x3.cell 3
    simp only [List.getElem?_toArray, List.getElem?_cons_zero, List.getElem?_cons_succ] at x3c0 x3c1 x3c2 x3c3
    have x3l := x3.lt
    rw [HJM.out] at x2c2
    have hss : ∀ W, Below w4.heap.size w4 W → W.cell? ⟨w.heap.size + 1, 0, none⟩ = some (.slice SA d.secs.length sc) ∧ W.cell? ⟨w.heap.size, 0, none⟩ = some (.slice RA j.recs.length rc) ∧ W.cell? ⟨w.heap.size, 2, none⟩ = some (.int .i64 (m : Int)) ∧ Below w4.heap.size w4 W := fun W h => ⟨(h.cell (p := ⟨w.heap.size + 1, 0, none⟩) x3l).trans x3c0, (h.cell (p := ⟨w.heap.size, 0, none⟩) x2l).trans x2c0, (h.cell (p := ⟨w.heap.size, 2, none⟩) x2l).trans x2c2, h⟩
    have HSS := Lib.hid hss
    clear hss
    go_upto_region 12 with (fail)
    go_cut [66] (fun s wx => s = .bool (!(yq && decide (gn < 4294967296))) ∧ Below w4.heap.size w4 wx)
    case first =>
      cases yq
      case false =>
        refine wp_region_held_drew (S := (fun W => W.cell? ⟨w.heap.size + 1, 0, none⟩ = some (.slice SA d.secs.length sc) ∧ W.cell? ⟨w.heap.size, 0, none⟩ = some (.slice RA j.recs.length rc) ∧ W.cell? ⟨w.heap.size, 2, none⟩ = some (.int .i64 (m : Int)) ∧ Below w4.heap.size w4 W)) (by kernel_rfl) (HSS.out _ (Below.refl _ _).drew) (fun hHeld => ?_)
        refine tkA 0 oJrz0 ?_
        refine tkA 1 oJrz1 ?_
        refine tkA 3 oJrz2 ?_
        refine tkA 4 oJrz3 ?_
        refine tkA 5 oJrz4 ?_
        refine tkA 6 oJrz5 ?_
        refine tkA 7 oJrz6 ?_
        refine wpAnyH_ready (rs := [2]) (by kernel_rfl) (by simp) ?_
        refine AllReadyH.cons (o := oJrz7) rfl (fun K hK => ?_) AllReadyH.nil
        go_simp
        go_at_call 82; refine (HRS9.out _ hHeld.2.2.2).mono ?_; rintro e w8 ⟨A9, c9, rfl, r9, hb8⟩; have h8 := hHeld.2.2.2.trans (hb8.mono hHeld.2.2.2.size)
        refine hK.out _ _ ?_ (fun hHeld => ?_)
        · exact HSS.out _ h8
        clear hK K
        try simp only [Act.put, List.setIfInBounds_toArray, List.set_cons_zero, List.set_cons_succ]
        refine wpAnyH_ready (rs := [8]) (by kernel_rfl) (by simp) ?_
        refine AllReadyH.cons (o := oJrz8) rfl (fun K hK => ?_) AllReadyH.nil
        go_simp
        go_at_call 55; refine (HEQ.out _ _ _ hHeld.2.2.2 r9).mono ?_; rintro e w7 ⟨rfl, hb7⟩; have h7 := hHeld.2.2.2.trans (hb7.mono hHeld.2.2.2.size)
        refine hK.out _ _ ?_ (fun hHeld => ?_)
        · exact HSS.out _ h7
        clear hK K
        try simp only [Act.put, List.setIfInBounds_toArray, List.set_cons_zero, List.set_cons_succ]
        refine tkA 9 oJrz9 ?_
        refine tkA 10 oJrz10 ?_
        refine tkB 11 oJrz11 ?_
        refine tkB 12 oJrz12 ?_
        refine tkA 13 oJrz13 ?_
        refine wpAnyH_done (by kernel_rfl) ?_ _

        (try go_wp2_with (fail))
        go_meet
        exact ⟨rfl, hHeld.2.2.2⟩
      by_cases kg : gn < 4294967296
      case neg =>
        obtain rfl : gn = 4294967296 := by omega
        refine wp_region_held_drew (S := (fun W => W.cell? ⟨w.heap.size + 1, 0, none⟩ = some (.slice SA d.secs.length sc) ∧ W.cell? ⟨w.heap.size, 0, none⟩ = some (.slice RA j.recs.length rc) ∧ W.cell? ⟨w.heap.size, 2, none⟩ = some (.int .i64 (m : Int)) ∧ Below w4.heap.size w4 W)) (by kernel_rfl) (HSS.out _ (Below.refl _ _).drew) (fun hHeld => ?_)
        refine tkA 0 oJrz0 ?_
        refine tkA 1 oJrz1 ?_
        refine tkA 3 oJrz2 ?_
        refine tkA 4 oJrz3 ?_
        refine tkA 5 oJrz4 ?_
        refine tkA 6 oJrz5 ?_
        refine tkA 7 oJrz6 ?_
        refine wpAnyH_ready (rs := [2]) (by kernel_rfl) (by simp) ?_
        refine AllReadyH.cons (o := oJrz7) rfl (fun K hK => ?_) AllReadyH.nil
        go_simp
        go_at_call 82; refine (HRS9.out _ hHeld.2.2.2).mono ?_; rintro e w8 ⟨A9, c9, rfl, r9, hb8⟩; have h8 := hHeld.2.2.2.trans (hb8.mono hHeld.2.2.2.size)
        refine hK.out _ _ ?_ (fun hHeld => ?_)
        · exact HSS.out _ h8
        clear hK K
        try simp only [Act.put, List.setIfInBounds_toArray, List.set_cons_zero, List.set_cons_succ]
        refine wpAnyH_ready (rs := [8]) (by kernel_rfl) (by simp) ?_
        refine AllReadyH.cons (o := oJrz8) rfl (fun K hK => ?_) AllReadyH.nil
        go_simp
        go_at_call 55; refine (HEQ.out _ _ _ hHeld.2.2.2 r9).mono ?_; rintro e w7 ⟨rfl, hb7⟩; have h7 := hHeld.2.2.2.trans (hb7.mono hHeld.2.2.2.size)
        refine hK.out _ _ ?_ (fun hHeld => ?_)
        · exact HSS.out _ h7
        clear hK K
        try simp only [Act.put, List.setIfInBounds_toArray, List.set_cons_zero, List.set_cons_succ]
        refine tkA 9 oJrz9 ?_
        refine tkA 10 oJrz10 ?_
        refine tkA 11 oJrz11 ?_
        refine tkA 12 oJrz12 ?_
        refine tkA 13 oJrz13 ?_
        refine wpAnyH_done (by kernel_rfl) ?_ _

        (try go_wp2_with (fail))
        go_meet
        exact ⟨rfl, hHeld.2.2.2⟩
      have dk : decide ((4294967295 : Int) < (gn : Int)) = false := decide_eq_false (by omega)
      have dkn : decide (4294967295 < gn) = false := decide_eq_false (by omega)
      refine wp_region_held_drew (S := (fun W => W.cell? ⟨w.heap.size + 1, 0, none⟩ = some (.slice SA d.secs.length sc) ∧ W.cell? ⟨w.heap.size, 0, none⟩ = some (.slice RA j.recs.length rc) ∧ W.cell? ⟨w.heap.size, 2, none⟩ = some (.int .i64 (m : Int)) ∧ Below w4.heap.size w4 W)) (by kernel_rfl) (HSS.out _ (Below.refl _ _).drew) (fun hHeld => ?_)
      refine tkA 0 oJrz0 ?_
      refine tkA 1 oJrz1 ?_
      refine tkA 3 oJrz2 ?_
      refine tkA 4 oJrz3 ?_
      refine tkA 5 oJrz4 ?_
      refine tkA 6 oJrz5 ?_
      refine tkA 7 oJrz6 ?_
      refine wpAnyH_ready (rs := [2]) (by kernel_rfl) (by simp) ?_
      refine AllReadyH.cons (o := oJrz7) rfl (fun K hK => ?_) AllReadyH.nil
      go_simp
      go_at_call 82; refine (HRS9.out _ hHeld.2.2.2).mono ?_; rintro e w8 ⟨A9, c9, rfl, r9, hb8⟩; have h8 := hHeld.2.2.2.trans (hb8.mono hHeld.2.2.2.size)
      refine hK.out _ _ ?_ (fun hHeld => ?_)
      · exact HSS.out _ h8
      clear hK K
      try simp only [Act.put, List.setIfInBounds_toArray, List.set_cons_zero, List.set_cons_succ]
      refine wpAnyH_ready (rs := [8]) (by kernel_rfl) (by simp) ?_
      refine AllReadyH.cons (o := oJrz8) rfl (fun K hK => ?_) AllReadyH.nil
      go_simp
      go_at_call 55; refine (HEQ.out _ _ _ hHeld.2.2.2 r9).mono ?_; rintro e w7 ⟨rfl, hb7⟩; have h7 := hHeld.2.2.2.trans (hb7.mono hHeld.2.2.2.size)
      refine hK.out _ _ ?_ (fun hHeld => ?_)
      · exact HSS.out _ h7
      clear hK K
      try simp only [Act.put, List.setIfInBounds_toArray, List.set_cons_zero, List.set_cons_succ]
      refine tkA 9 oJrz9 ?_
      refine tkA 10 oJrz10 ?_
      refine tkA 11 oJrz11 ?_
      refine tkA 12 oJrz12 ?_
      refine tkA 13 oJrz13 ?_
      refine wpAnyH_done (by kernel_rfl) ?_ _

      (try go_wp2_with (fail))
      go_meet
      exact ⟨by rw [decide_eq_true kg]; rfl, hHeld.2.2.2⟩
    case rest =>
      obtain ⟨rfl, hb⟩ := hcut
      clear HSS HRS9 HEQ
      replace r0 := r0.below hb
      replace r1 := r1.below hb
      replace q1 := q1.below hb
      replace x2 := x2.below hb x2.lt
      replace x3 := x3.below hb x3.lt
      replace x4 := x4.below hb x4.lt
      replace x5 := x5.below hb x5.lt
      replace hw := hw.trans (hb.mono hw.size)
      clear x2c0 x2c1 x2c2 x2l x3c0 x3c1 x3c2 x3c3 x3l
      clear hb
      obtain ⟨ok, hok⟩ : ∃ y, y = (yq && decide (gn < 4294967296)) := ⟨_, rfl⟩
      rw [← hok]
      have HOK := Lib.hid hok
      clear hok
      cases ok
      case false =>
        have E := Lib.hid (gJs_log (j := j) (d := d) HK.out.1 HK.out.2.1 HK.out.2.2.1 HK.out.2.2.2.1 HK.out.2.2.2.2 (fun h => by
          have h1 := h.1
          rw [HJM.out, Int.toNat_natCast, ← HOS.out] at h1
          have h2 := h.2
          rw [← HGN.out] at h2
          have h3 := HOK.out
          rw [HYQ.out, decide_eq_true h1, decide_eq_true h2] at h3
          cases h3))
        have x4c0 := x4.cell 0
        have x4f0 := x4.frozen 0
        have x4c1 := x4.cell 1
        have x4f1 := x4.frozen 1
        have x4c2 := x4.cell 2
        have x4f2 := x4.frozen 2
        simp only [List.getElem?_toArray, List.getElem?_cons_zero, List.getElem?_cons_succ] at x4c0 x4c1 x4c2
        have x4l := x4.lt
        have x5c0 := x5.cell 0
        have x5f0 := x5.frozen 0
        have x5c1 := x5.cell 1
        have x5f1 := x5.frozen 1
        have x5c2 := x5.cell 2
        have x5f2 := x5.frozen 2
        have x5c3 := x5.cell 3
        have x5f3 := x5.frozen 3
        simp only [List.getElem?_toArray, List.getElem?_cons_zero, List.getElem?_cons_succ] at x5c0 x5c1 x5c2 x5c3
        have x5l := x5.lt
        have HWW := Lib.hid hw
        clear hw
        go_wp2
        refine bodyPost_ret (v := .tuple #[.agg #[.slice none 0 0, .int .i64 0, .int .i64 0], .agg #[.slice none 0 0, .slice none 0 0, .int .i64 0, .bool false], .int .i64 50]) (by simp [results, Try.results54, go_sem, x4c0, x4c1, x4c2, x5c0, x5c1, x5c2, x5c3]) rfl ?_
        rw [E.out]
        exact js_no (by repeat (first | with_reducible exact HWW.out | refine Below.setCell ?_ (by simp <;> omega) _))
      have hoks := Bool.and_eq_true_iff.1 HOK.out.symm
      have hoq : os = j.recs.take m := of_decide_eq_true (HYQ.out.symm.trans hoks.1)
      have kg : gn < 4294967296 := of_decide_eq_true hoks.2
      have HOQ := Lib.hid hoq
      clear hoq hoks
      have HF : Hid (Fits j d) := Lib.hid ⟨HK.out.1, HK.out.2.1, HK.out.2.2.1, HK.out.2.2.2.1, List.eq_nil_of_length_eq_zero (by have := HK.out.2.2.2.2; omega), by rw [← HOS.out, HJM.out, Int.toNat_natCast]; exact HOQ.out, by rw [← HGN.out]; exact kg⟩
      by_cases ks : m = j.recs.length
      case pos =>
        have E := Lib.hid (gJs_same HF.out (by rw [HJM.out, ks]))
        have dk : ((m : Int) == (j.recs.length : Int)) = true := by rw [ks]; simp
        have x2c0 := x2.cell 0
        have x2c1 := x2.cell 1
        have x2c2 := x2.cell 2
        simp only [List.getElem?_toArray, List.getElem?_cons_zero, List.getElem?_cons_succ] at x2c0 x2c1 x2c2
        have x2l := x2.lt
        have x3c0 := x3.cell 0
        have x3c1 := x3.cell 1
        have x3c2 := x3.cell 2
        have x3c3 := x3.cell 3
        simp only [List.getElem?_toArray, List.getElem?_cons_zero, List.getElem?_cons_succ] at x3c0 x3c1 x3c2 x3c3
        have x3l := x3.lt
        have x4c0 := x4.cell 0
        have x4f0 := x4.frozen 0
        have x4c1 := x4.cell 1
        have x4f1 := x4.frozen 1
        have x4c2 := x4.cell 2
        have x4f2 := x4.frozen 2
        simp only [List.getElem?_toArray, List.getElem?_cons_zero, List.getElem?_cons_succ] at x4c0 x4c1 x4c2
        have x4l := x4.lt
        have x5c0 := x5.cell 0
        have x5f0 := x5.frozen 0
        have x5c1 := x5.cell 1
        have x5f1 := x5.frozen 1
        have x5c2 := x5.cell 2
        have x5f2 := x5.frozen 2
        have x5c3 := x5.cell 3
        have x5f3 := x5.frozen 3
        simp only [List.getElem?_toArray, List.getElem?_cons_zero, List.getElem?_cons_succ] at x5c0 x5c1 x5c2 x5c3
        have x5l := x5.lt
        rw [HJM.out] at x2c2
        have HWW := Lib.hid hw
        clear hw ks
        go_upto_region 15 with (fail)
        go_region
        all_goals
         obtain ⟨WE, hWE⟩ : ∃ W, W = (((((((wc.setCell ⟨(w.heap.size + 1 + 1), 0, none⟩ (.slice RA j.recs.length rc)).setCell ⟨(w.heap.size + 1 + 1), 1, none⟩ (.int .i64 j.many)).setCell ⟨(w.heap.size + 1 + 1), 2, none⟩ (.int .i64 (m : Int))).setCell ⟨(w.heap.size + 1 + 1 + 1), 0, none⟩ (.slice SA d.secs.length sc)).setCell ⟨(w.heap.size + 1 + 1 + 1), 1, none⟩ (.slice PA d.pend.length pc)).setCell ⟨(w.heap.size + 1 + 1 + 1), 2, none⟩ (.int .i64 d.left)).setCell ⟨(w.heap.size + 1 + 1 + 1), 3, none⟩ (.bool false)).drew := ⟨_, rfl⟩
         rw [← hWE]
         have hk : Keep (fun r => r = (w.heap.size + 1 + 1) ∨ r = (w.heap.size + 1 + 1 + 1)) wc WE := by rw [hWE]; refine Keep.drew ?_; repeat (first | with_reducible exact Keep.refl _ _ | refine Keep.setCell ?_ (fun _ => by simp) _)
         have y4a := (((((((x4.set 0 (.slice RA j.recs.length rc)).set 1 (.int .i64 j.many)).set 2 (.int .i64 (m : Int))).other (p := ⟨(w.heap.size + 1 + 1 + 1), 0, none⟩) (by simp) (.slice SA d.secs.length sc)).other (p := ⟨(w.heap.size + 1 + 1 + 1), 1, none⟩) (by simp) (.slice PA d.pend.length pc)).other (p := ⟨(w.heap.size + 1 + 1 + 1), 2, none⟩) (by simp) (.int .i64 d.left)).other (p := ⟨(w.heap.size + 1 + 1 + 1), 3, none⟩) (by simp) (.bool false))
         have y5a := (((((((x5.other (p := ⟨(w.heap.size + 1 + 1), 0, none⟩) (by simp) (.slice RA j.recs.length rc)).other (p := ⟨(w.heap.size + 1 + 1), 1, none⟩) (by simp) (.int .i64 j.many)).other (p := ⟨(w.heap.size + 1 + 1), 2, none⟩) (by simp) (.int .i64 (m : Int))).set 0 (.slice SA d.secs.length sc)).set 1 (.slice PA d.pend.length pc)).set 2 (.int .i64 d.left)).set 3 (.bool false))
         simp only [List.setIfInBounds_toArray, List.set_cons_zero, List.set_cons_succ] at y4a y5a
         have y4 : Blk WE (w.heap.size + 1 + 1) 55 #[.slice RA j.recs.length rc, .int .i64 j.many, .int .i64 (m : Int)] := by rw [hWE]; exact blk_drew y4a
         have y5 : Blk WE (w.heap.size + 1 + 1 + 1) 25 #[.slice SA d.secs.length sc, .slice PA d.pend.length pc, .int .i64 d.left, .bool false] := by rw [hWE]; exact blk_drew y5a
         clear y4a y5a
         have hm := Boxes.two (n₀ := n₀) x4 rfl (Nat.le_trans hn (by omega)) x5 rfl (Nat.le_trans hn (by omega))
         replace r0 := r0.keep hk hm
         replace r1 := r1.keep hk hm
         replace q1 := q1.keep hk hm
         have hwE : Below w.heap.size w WE := HWW.out.trans (hk.below HWW.out.size (fun r hr h => by rcases h with h | h <;> omega))
         clear hWE hk hm
         have y4c0 := y4.cell 0
         have y4c1 := y4.cell 1
         have y4c2 := y4.cell 2
         simp only [List.getElem?_toArray, List.getElem?_cons_zero, List.getElem?_cons_succ] at y4c0 y4c1 y4c2
         have y5c0 := y5.cell 0
         have y5c1 := y5.cell 1
         have y5c2 := y5.cell 2
         have y5c3 := y5.cell 3
         simp only [List.getElem?_toArray, List.getElem?_cons_zero, List.getElem?_cons_succ] at y5c0 y5c1 y5c2 y5c3
         go_wp2
         refine bodyPost_ret (v := .tuple #[.agg #[.slice RA j.recs.length rc, .int .i64 j.many, .int .i64 (m : Int)], .agg #[.slice SA d.secs.length sc, .slice PA d.pend.length pc, .int .i64 d.left, .bool false], .int .i64 0]) (by simp [results, Try.results54, go_sem, y4c0, y4c1, y4c2, y5c0, y5c1, y5c2, y5c3]) rfl ?_
         rw [E.out]
         exact ⟨_, _, rfl, ⟨RA, rc, by rw [← HJM.out], hrc, r0⟩, ⟨SA, sc, PA, pc, by rw [HST.out], hsc, hpc, r1, q1⟩, hwE⟩
      have hml : m < j.recs.length := by omega
      have hsn : j.sync ≠ j.recs.length := by rw [HJM.out]; omega
      have HSN := Lib.hid hsn
      have dk : ((m : Int) == (j.recs.length : Int)) = false := beq_eq_false_iff_ne.2 (by omega)
      obtain ⟨u0, hu0⟩ : ∃ u, u = usedN (j.recs.take m) := ⟨_, rfl⟩
      have HU0 := Lib.hid hu0
      obtain ⟨rs, hrs⟩ : ∃ l, l = j.recs.drop m := ⟨_, rfl⟩
      have HRS := Lib.hid hrs
      have hrl : rs.length = j.recs.length - m := by rw [hrs, List.length_drop]
      have hfit : u0 + usedN rs ≤ d.secs.length := by
        have h := fits_fit HF.out
        rw [HJM.out, Int.toNat_natCast, ← hu0, ← hrs] at h
        exact h
      have hlall := layA_all (g := gn) kg rs u0
      have HLA := Lib.hid hlall
      have hlen : (layA gn u0 rs).length = usedN rs := layA_len _ _ _
      have HLEN := Lib.hid hlen
      obtain ⟨L, hL⟩ : ∃ l, l = layA gn u0 rs := ⟨_, rfl⟩
      have HL := Lib.hid hL
      rw [← hL] at hlen
      have hlen0 : L.length ≤ d.secs.length := by omega
      clear ks hsn hu0 hrs hlall hlen hL
      obtain ⟨rb, ro, hRA, lrb, -⟩ := r0.get (by omega)
      subst hRA
      have hus : ∀ W, Below wc.heap.size wc W → Calls Try.prog 87 #[.slice (some ⟨rb, ro, none⟩) m rc] W (fun e w' => e = .returned (.int .i64 (u0 : Nat)) ∧ w' = W) := fun W hW => by
        have hl : (j.recs.take m).length = m := by rw [List.length_take]; omega
        have K := rused_t (some ⟨rb, ro, none⟩) rc (j.recs.take m) W ⟨by rw [hl]; omega, fun b hb => HS.out.2 b (List.mem_of_mem_take hb)⟩ (rows_take (r0.below hW) m)
        rw [hl, ← HU0.out] at K
        exact K
      have HUS := Lib.hid hus
      clear hus
      have x2c0 := x2.cell 0
      have x2c1 := x2.cell 1
      have x2c2 := x2.cell 2
      simp only [List.getElem?_toArray, List.getElem?_cons_zero, List.getElem?_cons_succ] at x2c0 x2c1 x2c2
      have x2l := x2.lt
      rw [HJM.out] at x2c2
      have n7 : ¬ rc = m := by omega
      go_wp2_with (fail)
      go_at_call 87
      refine (HUS.out _ (Below.refl _ _)).mono ?_
      rintro e w8 ⟨rfl, hw8⟩
      have hw8 := hw8.symm
      subst hw8
      go_wp2_with (fail)
      go_loopw [10, 11] (fun v10 v11 wr => ∃ (i : Nat) (dn : List Bs), i ≤ rs.length ∧ v11 = .int .i64 ((m + i : Nat) : Int) ∧ v10 = .int .i64 ((u0 + dn.length : Nat) : Int) ∧ Hid (L = dn ++ layA gn (u0 + dn.length) (rs.drop i)) ∧ DkB n₀ wr (w.heap.size + 1) (dnD d u0 dn) ∧ Keep (fun r => r = w.heap.size + 1) wc wr) (fun _ v11 _ => j.recs.length - (intOf v11).toNat)
      case atStart => exact ⟨0, [], by omega, rfl, rfl, Lib.hid (by rw [HL.out]; rfl), ⟨SA, sc, PA, pc, by have h := x3; rw [HF.out.pend] at h; rw [← HST.out] at h; exact h, hsc, Nat.zero_le _, r1, WrsAt.nil _ _⟩, Keep.refl _ _⟩
      case round =>
        obtain ⟨i, dn, hi, rfl, rfl, HLI, hdk, hkp⟩ := hrel
        have hmB := Boxes.one (n₀ := n₀) x3 rfl (Nat.le_trans hn (by omega))
        have r0b := r0.keep hkp hmB
        clear x2c0 x2c1 x2c2 x2l
        have x2b := x2.keep hkp (by omega)
        have hkl := hkp.size
        by_cases hlt : i < rs.length
        case pos =>
          obtain ⟨rb2, ro2, hRA2, lrb2, hget⟩ := r0b.get (by omega)
          cases hRA2
          obtain ⟨A1, c1, z1, hc1, hbs1⟩ := hget (m + i) (by omega)
          have hbl := HS.out.2 _ (mem_getD (show m + i < j.recs.length by omega))
          have hdi : rs.drop i = j.recs.getD (m + i) [] :: rs.drop (i + 1) := by
            rw [drop_at rs i hlt, HRS.out]
            congr 1
            simp [List.getD]
          obtain ⟨b0, hb0⟩ : ∃ b, b = j.recs.getD (m + i) [] := ⟨_, rfl⟩
          rw [← hb0] at z1 hc1 hbs1 hbl hdi
          have hli := HLI.out
          rw [hdi] at hli
          have HLI2 := Lib.hid (show L = dn ++ (lay gn (secN b0) (u0 + dn.length) 1 b0 ++ layA gn (u0 + dn.length + secN b0) (rs.drop (i + 1))) from hli)
          have K := rsectors_t b0.length wr hbl
          rw [show max 1 ((b0.length + 111) / 112) = secN b0 from rfl] at K
          have hsl := (secN_le hbl).2
          have hs1 := (secN_le hbl).1
          have hsb : b0.length ≤ 112 * secN b0 ∧ (secN b0 = 1 ∨ 112 * (secN b0 - 1) < b0.length) := by unfold secN; omega
          have husn : dn.length + secN b0 ≤ usedN rs := by rw [← HLEN.out, ← HL.out, HLI2.out, List.length_append, List.length_append, lay_len]; omega
          obtain ⟨sn, hsn⟩ : ∃ s, s = secN b0 := ⟨_, rfl⟩
          rw [← hsn] at HLI2 K hsl hs1 hsb husn
          obtain ⟨bn, hbn⟩ : ∃ n, n = b0.length := ⟨_, rfl⟩
          rw [← hbn] at z1 hc1 K hbl hsb
          have HBN := Lib.hid hbn
          obtain ⟨mi, hmi⟩ : ∃ x, x = m + i := ⟨_, rfl⟩
          rw [← hmi] at z1 ⊢
          have mil : mi < j.recs.length := by omega
          have i1 : (mi : Int) < (j.recs.length : Int) := by omega
          have i0 : (0 : Int) ≤ (mi : Int) := by omega
          have HMI := Lib.hid hmi
          clear hget hb0 hli hdi hsn hbn HLI hmi
          have x2bc0 := x2b.cell 0
          have x2bc1 := x2b.cell 1
          have x2bc2 := x2b.cell 2
          simp only [List.getElem?_toArray, List.getElem?_cons_zero, List.getElem?_cons_succ] at x2bc0 x2bc1 x2bc2
          go_wp2_with (fail)
          go_at_call 86
          refine K.mono ?_
          rintro e w8 ⟨rfl, hw8⟩
          have hw8 := hw8.symm
          subst hw8
          clear K
          go_wp2_with (fail)
          go_loopw [10, 14] (fun v10 v14 wx => ∃ (k : Nat) (dn : List Bs), k ≤ sn ∧ dn.length + (sn - k) ≤ usedN rs ∧ v14 = .int .i64 ((k : Nat) : Int) ∧ v10 = .int .i64 ((u0 + dn.length : Nat) : Int) ∧ BsAt n₀ wx A1 b0 ∧ Hid (L = dn ++ (lay gn (sn - k) (u0 + dn.length) (if k = 0 then 1 else 0) (b0.drop (112 * k)) ++ layA gn (u0 + dn.length + (sn - k)) (rs.drop (i + 1)))) ∧ DkB n₀ wx (w.heap.size + 1) (dnD d u0 dn) ∧ Keep (fun r => r = w.heap.size + 1) wc wx) (fun _ v14 _ => sn - (intOf v14).toNat)
          case atStart => exact ⟨0, dn, Nat.zero_le _, husn, rfl, rfl, hbs1, Lib.hid (by rw [Nat.sub_zero]; exact HLI2.out), hdk, hkp⟩
          case round =>
            obtain ⟨k, dn, hks, hdu, rfl, rfl, hbs, HLJ, hdk, hkp⟩ := hrel
            have hkl := hkp.size
            by_cases hk1 : k < sn
            case neg =>
              obtain rfl : k = sn := by omega
              have HLK := Lib.hid (show L = dn ++ layA gn (u0 + dn.length) (rs.drop (i + 1)) by have h := HLJ.out; rw [Nat.sub_self] at h; exact h)
              clear HLJ hbs
              have e9 : ((mi : Int) + 1) = ((m + (i + 1) : Nat) : Int) := by rw [HMI.out]; omega
              go_wp2_with (fail)
              go_roundw
              case rel => exact ⟨i + 1, dn, by omega, by first | exact congrArg (Value.int .i64) e9 | (rw [← e9]; go_num), rfl, HLK, hdk, hkp⟩
              case measure => simp [intOf]; omega
            obtain ⟨n, hn1⟩ : ∃ n, sn - k = n + 1 := ⟨sn - k - 1, by omega⟩
            obtain ⟨bg, hbg⟩ : ∃ b, b = decide (k = 0) := ⟨_, rfl⟩
            obtain ⟨fn, hfn⟩ : ∃ b, b = decide (n = 0) := ⟨_, rfl⟩
            have hli := HLJ.out
            rw [hn1, lay, kind_step k n bg fn hbg hfn] at hli
            obtain ⟨pc, hpc1⟩ : ∃ p, p = (b0.drop (112 * k)).take 112 := ⟨_, rfl⟩
            rw [← hpc1] at hli
            have hpl1 : pc.length = min (bn - 112 * k) 112 := by rw [hpc1, List.length_take, List.length_drop, HBN.out, Nat.min_comm]
            have hls : (enc gn (u0 + dn.length) (kindB bg fn) pc).length = 128 := enc_len _ _ _ (by omega)
            have hdn : ∀ s ∈ dn, s.length = 128 := fun s hs => (HLA.out s (by rw [← HL.out, hli]; exact List.mem_append_left _ hs)).1
            have HLM := Lib.hid (show L = (dn ++ [enc gn (u0 + dn.length) (kindB bg fn) pc]) ++ (lay gn n (u0 + dn.length + 1) 0 (b0.drop (112 * (k + 1))) ++ layA gn (u0 + dn.length + (n + 1)) (rs.drop (i + 1))) by rw [hli, List.drop_drop, show 112 * k + 112 = 112 * (k + 1) by omega]; simp)
            have hgw := dn_write (u := u0) (at_ := u0 + dn.length) (e := enc gn (u0 + dn.length) (kindB bg fn) pc) HK.out.2.1 HK.out.2.2.2.1 hdn hls rfl (by omega)
            obtain ⟨ec, hec⟩ : ∃ e, e = enc gn (u0 + dn.length) (kindB bg fn) pc := ⟨_, rfl⟩
            rw [← hec] at hls hgw HLM
            have HEC := Lib.hid hec
            have HGW := Lib.hid hgw
            obtain ⟨at1, hat1⟩ : ∃ a, a = u0 + dn.length := ⟨_, rfl⟩
            rw [← hat1] at HLM HGW HEC
            rw [← hat1]
            have hat2 : at1 ≤ 4096 := by omega
            have HAT := Lib.hid hat1
            have HN1 := Lib.hid hn1
            have HPC := Lib.hid hpc1
            clear hli hdn hgw hec hat1 hn1 HLJ hpc1
            obtain ⟨pl, hpl2⟩ : ∃ x, x = pc.length := ⟨_, rfl⟩
            rw [← hpl2] at hpl1
            have HPL1 := Lib.hid hpl2
            clear hpl2
            have HB0 := Lib.hid hbs
            go_upto_region 25 with (fail)
            go_cut [15] (fun s wy => (∃ A' c', s = .slice A' pl c' ∧ BsAt n₀ wr A' pc) ∧ wy = wr)
            case first =>
              have hz : ∀ a : Option Addr, a.map (fun x => x.add 0) = a := fun a => by cases a <;> simp [Addr.add]
              have hmin0 : ∀ x y : Int, (if y < x then y else x) = min x y := fun x y => by split <;> omega
              by_cases hk0 : k = 0
              case pos =>
                subst hk0
                have hmin : (if (112 : Int) < (bn : Int) then (112 : Int) else (bn : Int)) = (pl : Int) := by split <;> omega
                have plc : (pl : Int) ≤ (c1 : Int) := by omega
                have pl0 : (0 : Int) ≤ (pl : Int) := by omega
                have hpb : BsAt n₀ wr A1 pc := by rw [HPC.out]; simpa using bs_takeJ hbs 112
                have hmn : (min (bn : Int) 112).toNat = pl := by omega
                go_wp2_with (fail)
                go_meet
                exact ⟨⟨A1, c1, by first | rfl | (simp; omega) | (simp [hz]; omega), hpb⟩, rfl⟩
              obtain ⟨b8, o8, hA8, lb8, -⟩ := id hbs (by rw [← HBN.out]; omega)
              subst hA8
              have hlk : 112 * k < bn := by omega
              have hmin : (if ((112 * k + 112 : Nat) : Int) < (bn : Int) then ((112 * k + 112 : Nat) : Int) else (bn : Int)) = ((112 * k + pl : Nat) : Int) := by split <;> omega
              have im : IntKind.i64.wrap ((k : Int) * 112) = ((112 * k : Nat) : Int) := by rw [IntWalk.i64_in _ (by omega)]; omega
              have ia : IntKind.i64.wrap ((k : Int) + 1) = ((k + 1 : Nat) : Int) := by rw [IntWalk.i64_in _ (by omega)]; omega
              have im2 : IntKind.i64.wrap (((k : Int) + 1) * 112) = ((112 * k + 112 : Nat) : Int) := by rw [IntWalk.i64_in _ (by omega)]; omega
              have l0 : (0 : Int) ≤ ((112 * k : Nat) : Int) := by omega
              have l1 : ((112 * k : Nat) : Int) ≤ ((112 * k + pl : Nat) : Int) := by omega
              have l2 : ((112 * k + pl : Nat) : Int) ≤ (c1 : Int) := by omega
              have nc : ¬ c1 = 112 * k := by omega
              have tn : (((112 * k + pl : Nat) : Int) - ((112 * k : Nat) : Int)).toNat = pl := by omega
              have hpb : BsAt n₀ wr (some ⟨b8, o8 + 112 * k, none⟩) pc := by rw [HPC.out]; exact bs_takeJ (bs_dropJ hbs (112 * k)) 112
              have hmn : (min (bn : Int) (112 * (k : Int) + 112)).toNat - 112 * k = pl := by omega
              go_wp2_with (fail)
              go_meet
              exact ⟨⟨_, c1 - 112 * k, by first | rfl | rw [hmn] | simp [hmn], hpb⟩, rfl⟩
            case rest =>
              obtain ⟨⟨A8, c8, rfl, hpb⟩, hwc⟩ := hcut
              have hwc := hwc.symm
              subst hwc
              obtain ⟨S2, s2, P2, p2, x3d, hs2, hp2, r2, q2⟩ := hdk
              have hpl : (dnD d u0 dn).pend.length = dn.length := mkW_len _ _
              have x3e : Blk wr (w.heap.size + 1) 25 #[.slice S2 d.secs.length s2, .slice P2 dn.length p2, .int .i64 d.left, .bool false] := by have h := x3d; rw [hpl] at h; rw [← HST.out]; exact h
              have hpl2 : (dnD d u0 (dn ++ [ec])).pend.length = dn.length + 1 := by simp [dnD, mkW_len]
              have hdl9 : dn.length ≤ 4096 := by have := HAT.out; omega
              have hpp : dn.length ≤ p2 := by rw [← hpl]; exact hp2
              have hen : ∀ W, Below wr.heap.size wr W → Calls Try.prog 93 #[.int .u64 (gn : Nat), .int .i64 (at1 : Nat), .bool bg, .bool fn, .slice A8 pl c8] W (fun e w' => ∃ V v, e = .returned (.slice V 128 v) ∧ BsAt n₀ w' V ec ∧ Below W.heap.size W w') := fun W hW => by
                have h := rsector_t (n₀ := n₀) A8 c8 gn at1 bg fn pc W (by omega) (by omega) (by rw [← HPL1.out]; omega) (hpb.below hW)
                rw [← HPL1.out, ← HEC.out] at h
                exact h.mono fun e w9 hx => by obtain ⟨V, v, h1, -, h3, h4⟩ := hx; exact ⟨V, v, h1, h3, h4⟩
              have hwrt : ∀ V v W, Below wr.heap.size wr W → BsAt n₀ W V ec → Calls Try.prog 33 #[.agg #[.slice S2 d.secs.length s2, .slice P2 dn.length p2, .int .i64 d.left, .bool false], .int .i64 (at1 : Nat), .slice V 128 v] W (fun e w' => ∃ S3 s3 P3 p3, e = .returned (.tuple #[.agg #[.slice S3 d.secs.length s3, .slice P3 (dn.length + 1) p3, .int .i64 d.left, .bool false], .int .i64 0]) ∧ d.secs.length ≤ s3 ∧ dn.length + 1 ≤ p3 ∧ RowsAt n₀ w' S3 d.secs ∧ WrsAt n₀ w' P3 (mkW u0 (dn ++ [ec])) ∧ Below W.heap.size W w') := fun V v W hW hV => by
                have h := rwrite_t S2 P2 V s2 p2 v (dnD d u0 dn) (at1 : Nat) ec W hl1 (by rw [hpl]; omega) (by omega) hs2 (r2.below hW) (q2.below hW) hV
                rw [HGW.out, hls, hpl] at h
                have e1 : (dnD d u0 dn).stop = false := HST.out
                rw [e1] at h
                refine h.mono fun e w9 hx => ?_
                obtain ⟨v, h1, ⟨S3, s3, P3, p3, h2, h3, h4, h5, h6⟩, h7⟩ := hx
                rw [hpl2] at h2 h4
                have e2 : (dnD d u0 (dn ++ [ec])).stop = false := HST.out
                rw [e2] at h2
                exact ⟨S3, s3, P3, p3, by rw [h1, h2]; rfl, h3, h4, h5, h6, h7⟩
              have HEN := Lib.hid hen
              have HWR := Lib.hid hwrt
              have HPL := Lib.hid hpl2
              have db : ((k : Int) == 0) = bg := by rw [hbg]; by_cases h : k = 0 <;> simp [h]
              have dbn : (k == 0) = bg := by rw [hbg]; by_cases h : k = 0 <;> simp [h]
              have isn : IntKind.i64.wrap ((sn : Int) - 1) = (sn : Int) - 1 := IntWalk.i64_in _ (by omega)
              have df : ((k : Int) == (sn : Int) - 1) = fn := by have hx := HN1.out; rw [hfn]; by_cases h : n = 0 <;> simp [h] <;> omega
              have HBF := Lib.hid (And.intro hbg hfn)
              clear hen hwrt x3d hpl hpl1 hpl2 hbs hbg hfn hpb hls
              go_upto_region 26 with (fail)
              have x3ec0 := x3e.cell 0
              have x3ef0 := x3e.frozen 0
              have x3ec1 := x3e.cell 1
              have x3ef1 := x3e.frozen 1
              have x3ec2 := x3e.cell 2
              have x3ef2 := x3e.frozen 2
              have x3ec3 := x3e.cell 3
              have x3ef3 := x3e.frozen 3
              simp only [List.getElem?_toArray, List.getElem?_cons_zero, List.getElem?_cons_succ] at x3ec0 x3ec1 x3ec2 x3ec3
              have x3el := x3e.lt
              go_region_with (first | (go_at_call 93; refine (HEN.out _ (by repeat (first | with_reducible exact h9 | with_reducible exact Below.refl _ _ | refine Below.drew ?_))).mono ?_; rintro e w9 ⟨Vk, vk, rfl, xk, hb9⟩; have h9 : Below wr.heap.size wr w9 := Below.trans (by repeat (first | with_reducible exact Below.refl _ _ | refine Below.drew ?_)) (Below.mono hb9 (Nat.le_refl _)); have x3g := x3e.below h9 x3e.lt; have x3gc0 := x3g.cell 0; have x3gf0 := x3g.frozen 0; have x3gc1 := x3g.cell 1; have x3gf1 := x3g.frozen 1; have x3gc2 := x3g.cell 2; have x3gf2 := x3g.frozen 2; have x3gc3 := x3g.cell 3; have x3gf3 := x3g.frozen 3; simp only [List.getElem?_toArray, List.getElem?_cons_zero, List.getElem?_cons_succ] at x3gc0 x3gc1 x3gc2 x3gc3; have x3gl := x3g.lt) | (go_at_call 33; refine (HWR.out _ _ _ (by with_reducible exact h9) xk).mono ?_; rintro e w10 ⟨S3, s3, P3, p3, rfl, hs3, hp3, r3, q3, hb10⟩; have h10 : Below wr.heap.size wr w10 := h9.trans (hb10.mono h9.size); have x3n := x3g.below hb10 x3g.lt; have x3nc0 := x3n.cell 0; have x3nf0 := x3n.frozen 0; have x3nc1 := x3n.cell 1; have x3nf1 := x3n.frozen 1; have x3nc2 := x3n.cell 2; have x3nf2 := x3n.frozen 2; have x3nc3 := x3n.cell 3; have x3nf3 := x3n.frozen 3; simp only [List.getElem?_toArray, List.getElem?_cons_zero, List.getElem?_cons_succ] at x3nc0 x3nc1 x3nc2 x3nc3; have x3nl := x3n.lt))
              all_goals
               obtain ⟨WE, hWE⟩ : ∃ W, W = ((((w10.setCell ⟨w.heap.size + 1, 0, none⟩ (.slice S3 d.secs.length s3)).setCell ⟨w.heap.size + 1, 1, none⟩ (.slice P3 (dn.length + 1) p3)).setCell ⟨w.heap.size + 1, 2, none⟩ (.int .i64 d.left)).setCell ⟨w.heap.size + 1, 3, none⟩ (.bool false)) := ⟨_, rfl⟩
               rw [← hWE]
               have hk4 : Keep (fun r => r = w.heap.size + 1) w10 WE := by rw [hWE]; exact keep4 w10 (w.heap.size + 1) _ _ _ _
               have hmE := Boxes.one (n₀ := n₀) x3n rfl (Nat.le_trans hn (by omega))
               have hdkE : DkB n₀ WE (w.heap.size + 1) (dnD d u0 (dn ++ [ec])) := by
                 have h := box_put (d := dnD d u0 (dn ++ [ec])) x3n (Nat.le_trans hn (by omega)) hs3 (by rw [HPL.out]; exact hp3) r3 q3
                 have e2 : (dnD d u0 (dn ++ [ec])).stop = false := HST.out
                 rw [HPL.out, e2] at h
                 rw [hWE]
                 exact h
               have hkE : Keep (fun r => r = w.heap.size + 1) wc WE := (hkp.trans (Keep.of_same h10 _)).trans hk4
               have hbsE := (HB0.out.below h10).keep hk4 hmE
               have HDK := Lib.hid hdkE
               have HKE := Lib.hid hkE
               clear hWE hk4 hmE hdkE hkE x3n x3nc0 x3nc1 x3nc2 x3nc3 x3nf0 x3nf1 x3nf2 x3nf3 x3nl x3g x3gc0 x3gc1 x3gc2 x3gc3 x3gf0 x3gf1 x3gf2 x3gf3 x3gl x3e x3ec0 x3ec1 x3ec2 x3ec3 x3ef0 x3ef1 x3ef2 x3ef3 x3el r3 q3 xk h9 h10 hb9 hb10
               have hrel3 : u0 + (dn ++ [ec]).length = at1 + 1 := by rw [HAT.out, List.length_append, List.length_singleton]; omega
               have HLN := Lib.hid (show L = (dn ++ [ec]) ++ (lay gn (sn - (k + 1)) (u0 + (dn ++ [ec]).length) (if k + 1 = 0 then 1 else 0) (b0.drop (112 * (k + 1))) ++ layA gn (u0 + (dn ++ [ec]).length + (sn - (k + 1))) (rs.drop (i + 1))) by have h1 := HN1.out; have h2 := HLM.out; rw [hrel3, show sn - (k + 1) = n by omega, show at1 + 1 + n = at1 + (n + 1) by omega, if_neg (by omega)]; exact h2)
               have HR3 := Lib.hid hrel3
               have hdu3 : (dn ++ [ec]).length + (sn - (k + 1)) ≤ usedN rs := by rw [List.length_append, List.length_singleton]; omega
               clear hrel3
               go_wp2_with (fail)
               go_roundw
               case rel => exact ⟨k + 1, dn ++ [ec], by omega, hdu3, by go_num, by rw [HR3.out]; go_num, hbsE, HLN, HDK.out, HKE.out⟩
               case measure => simp [intOf]; omega
        case neg =>
          obtain rfl : i = rs.length := by omega
          have hml2 : m + rs.length = j.recs.length := by omega
          rw [hml2]
          have hdl : dn = L := by
            have h := HLI.out
            rw [List.drop_length] at h
            rw [h]
            simp [layA]
          have HDL := Lib.hid hdl
          have x4b := x4.keep hkp (by omega)
          have x5b := x5.keep hkp (by omega)
          replace hw := hw.trans (hkp.below hw.size (fun r hr h => by omega))
          obtain ⟨S2, s2, P2, p2, x3d, hs2, hp2, r2, q2⟩ := hdk
          have hpl : (dnD d u0 dn).pend.length = dn.length := mkW_len _ _
          have x3e : Blk wr (w.heap.size + 1) 25 #[.slice S2 d.secs.length s2, .slice P2 dn.length p2, .int .i64 d.left, .bool false] := by have h := x3d; rw [hpl] at h; rw [← HST.out]; exact h
          have hdl9 : dn.length ≤ 4096 := by rw [hdl]; omega
          obtain ⟨⟨y, e⟩, hgs⟩ : ∃ r, r = gSync (dnD d u0 dn) := ⟨_, rfl⟩
          have hws : wsD d (usedN (j.recs.take j.sync.toNat)) (j.recs.drop j.sync.toNat) = dnD d u0 dn := by rw [HJM.out, Int.toNat_natCast, ← HU0.out, ← HRS.out, hdl, HL.out, HGN.out]; rfl
          have E := Lib.hid (gJs_go HF.out HSN.out (y := y) (e := e) (by rw [hws, ← hgs]))
          have K : Calls Try.prog 37 #[.agg #[.slice S2 d.secs.length s2, .slice P2 dn.length p2, .int .i64 d.left, .bool false]] wr (DkIs n₀ wr (y, e)) := by
            have h := rsync_t S2 P2 s2 p2 (dnD d u0 dn) wr hl1 (by rw [hpl]; omega) r2 q2
            have e1 : (dnD d u0 dn).stop = false := HST.out
            rw [hpl, e1, ← hgs] at h
            exact h
          clear x3d hdl hws hgs hpl x2 x3 x4 x5 r0 r1 q1 hkp r2 q2 hmB HLI
          have x3ec0 := x3e.cell 0
          have x3ec1 := x3e.cell 1
          have x3ec2 := x3e.cell 2
          have x3ec3 := x3e.cell 3
          have x2bc0 := x2b.cell 0
          have x2bc1 := x2b.cell 1
          have x2bc2 := x2b.cell 2
          simp only [List.getElem?_toArray, List.getElem?_cons_zero, List.getElem?_cons_succ] at x3ec0 x3ec1 x3ec2 x3ec3 x2bc0 x2bc1 x2bc2
          go_wp2_with (fail)
          go_at_call 37
          refine K.mono ?_
          rintro e9 w9 ⟨v9, rfl, ⟨S9, s9, P9, p9, rfl, hs9, hp9, r9, q9⟩, hb9⟩
          clear K
          dsimp only at hs9 hp9 r9 q9
          replace r0b := r0b.below hb9
          replace x2b := x2b.below hb9 x2b.lt
          replace x4b := x4b.below hb9 x4b.lt
          replace x5b := x5b.below hb9 x5b.lt
          replace hw := hw.trans (hb9.mono hw.size)
          clear hb9 x3e x3ec0 x3ec1 x3ec2 x3ec3 x2bc0 x2bc1 x2bc2
          go_upto_region 29 with (fail)
          have l2 : w.heap.size < w9.heap.size := x2b.lt
          have l4 : w.heap.size + 1 + 1 < w9.heap.size := x4b.lt
          have l5 : w.heap.size + 1 + 1 + 1 < w9.heap.size := x5b.lt
          have n94 : ¬ w9.heap.size = w.heap.size + 1 + 1 := by omega
          have n49 : ¬ w.heap.size + 1 + 1 = w9.heap.size := by omega
          have n95 : ¬ w9.heap.size = w.heap.size + 1 + 1 + 1 := by omega
          have n59 : ¬ w.heap.size + 1 + 1 + 1 = w9.heap.size := by omega
          have n92 : ¬ w9.heap.size = w.heap.size := by omega
          have n29 : ¬ w.heap.size = w9.heap.size := by omega
          obtain ⟨W9, hW9⟩ : ∃ W, W = w9.alloc (.cells #[.slice S9 y.secs.length s9, .slice P9 y.pend.length p9, .int .i64 y.left, .bool y.stop] 25) := ⟨_, rfl⟩
          rw [← hW9]
          have hb : Below w9.heap.size w9 W9 := by rw [hW9]; exact (Below.refl _ _).alloc (Nat.le_refl _) _
          have x9 : Blk W9 w9.heap.size 25 #[.slice S9 y.secs.length s9, .slice P9 y.pend.length p9, .int .i64 y.left, .bool y.stop] := by rw [hW9]; exact Blk.new w9 25 _
          clear hW9
          replace r0b := r0b.below hb
          replace r9 := r9.below hb
          replace q9 := q9.below hb
          replace x2b := x2b.below hb x2b.lt
          replace x4b := x4b.below hb x4b.lt
          replace x5b := x5b.below hb x5b.lt
          replace hw := hw.trans (hb.mono hw.size)
          clear hb
          have x2 := x2b
          have x4 := x4b
          have x5 := x5b
          have r0 := r0b
          clear x2b x4b x5b r0b
          have x9c0 := x9.cell 0
          have x9c1 := x9.cell 1
          have x9c2 := x9.cell 2
          have x9c3 := x9.cell 3
          simp only [List.getElem?_toArray, List.getElem?_cons_zero, List.getElem?_cons_succ] at x9c0 x9c1 x9c2 x9c3
          have x9l := x9.lt
          have x4c0 := x4.cell 0
          have x4f0 := x4.frozen 0
          have x4c1 := x4.cell 1
          have x4f1 := x4.frozen 1
          have x4c2 := x4.cell 2
          have x4f2 := x4.frozen 2
          simp only [List.getElem?_toArray, List.getElem?_cons_zero, List.getElem?_cons_succ] at x4c0 x4c1 x4c2
          have x4l := x4.lt
          have x5c0 := x5.cell 0
          have x5f0 := x5.frozen 0
          have x5c1 := x5.cell 1
          have x5f1 := x5.frozen 1
          have x5c2 := x5.cell 2
          have x5f2 := x5.frozen 2
          have x5c3 := x5.cell 3
          have x5f3 := x5.frozen 3
          simp only [List.getElem?_toArray, List.getElem?_cons_zero, List.getElem?_cons_succ] at x5c0 x5c1 x5c2 x5c3
          have x5l := x5.lt
          have x2c0 := x2.cell 0
          have x2f0 := x2.frozen 0
          have x2c1 := x2.cell 1
          have x2f1 := x2.frozen 1
          have x2c2 := x2.cell 2
          have x2f2 := x2.frozen 2
          simp only [List.getElem?_toArray, List.getElem?_cons_zero, List.getElem?_cons_succ] at x2c0 x2c1 x2c2
          have x2l := x2.lt
          by_cases he : e = 0
          case neg =>
            have de : (e != 0) = true := bne_iff_ne.2 he
            have E2 := E.out
            rw [if_pos he] at E2
            replace E := Lib.hid E2
            clear E2 he
            have HWW := Lib.hid hw
            clear hw
            go_upto_region 30 with (fail)
            go_region
            all_goals
             obtain ⟨WE, hWE⟩ : ∃ W, W = (((((((W9.setCell ⟨(w.heap.size + 1 + 1), 0, none⟩ (.slice none 0 0)).setCell ⟨(w.heap.size + 1 + 1), 1, none⟩ (.int .i64 0)).setCell ⟨(w.heap.size + 1 + 1), 2, none⟩ (.int .i64 0)).setCell ⟨(w.heap.size + 1 + 1 + 1), 0, none⟩ (.slice S9 y.secs.length s9)).setCell ⟨(w.heap.size + 1 + 1 + 1), 1, none⟩ (.slice P9 y.pend.length p9)).setCell ⟨(w.heap.size + 1 + 1 + 1), 2, none⟩ (.int .i64 y.left)).setCell ⟨(w.heap.size + 1 + 1 + 1), 3, none⟩ (.bool y.stop)).drew := ⟨_, rfl⟩
             rw [← hWE]
             have hk : Keep (fun r => r = (w.heap.size + 1 + 1) ∨ r = (w.heap.size + 1 + 1 + 1)) W9 WE := by rw [hWE]; refine Keep.drew ?_; repeat (first | with_reducible exact Keep.refl _ _ | refine Keep.setCell ?_ (fun _ => by simp) _)
             have y4a := (((((((x4.set 0 (.slice none 0 0)).set 1 (.int .i64 0)).set 2 (.int .i64 0)).other (p := ⟨(w.heap.size + 1 + 1 + 1), 0, none⟩) (by simp) (.slice S9 y.secs.length s9)).other (p := ⟨(w.heap.size + 1 + 1 + 1), 1, none⟩) (by simp) (.slice P9 y.pend.length p9)).other (p := ⟨(w.heap.size + 1 + 1 + 1), 2, none⟩) (by simp) (.int .i64 y.left)).other (p := ⟨(w.heap.size + 1 + 1 + 1), 3, none⟩) (by simp) (.bool y.stop))
             have y5a := (((((((x5.other (p := ⟨(w.heap.size + 1 + 1), 0, none⟩) (by simp) (.slice none 0 0)).other (p := ⟨(w.heap.size + 1 + 1), 1, none⟩) (by simp) (.int .i64 0)).other (p := ⟨(w.heap.size + 1 + 1), 2, none⟩) (by simp) (.int .i64 0)).set 0 (.slice S9 y.secs.length s9)).set 1 (.slice P9 y.pend.length p9)).set 2 (.int .i64 y.left)).set 3 (.bool y.stop))
             simp only [List.setIfInBounds_toArray, List.set_cons_zero, List.set_cons_succ] at y4a y5a
             have y4 : Blk WE (w.heap.size + 1 + 1) 55 #[.slice none 0 0, .int .i64 0, .int .i64 0] := by rw [hWE]; exact blk_drew y4a
             have y5 : Blk WE (w.heap.size + 1 + 1 + 1) 25 #[.slice S9 y.secs.length s9, .slice P9 y.pend.length p9, .int .i64 y.left, .bool y.stop] := by rw [hWE]; exact blk_drew y5a
             clear y4a y5a
             have hm := Boxes.two (n₀ := n₀) x4 rfl (Nat.le_trans hn (by omega)) x5 rfl (Nat.le_trans hn (by omega))
             replace r9 := r9.keep hk hm
             replace q9 := q9.keep hk hm
             have hwE : Below w.heap.size w WE := HWW.out.trans (hk.below HWW.out.size (fun r hr h => by rcases h with h | h <;> omega))
             clear hWE hk hm
             have y4c0 := y4.cell 0
             have y4c1 := y4.cell 1
             have y4c2 := y4.cell 2
             simp only [List.getElem?_toArray, List.getElem?_cons_zero, List.getElem?_cons_succ] at y4c0 y4c1 y4c2
             have y5c0 := y5.cell 0
             have y5c1 := y5.cell 1
             have y5c2 := y5.cell 2
             have y5c3 := y5.cell 3
             simp only [List.getElem?_toArray, List.getElem?_cons_zero, List.getElem?_cons_succ] at y5c0 y5c1 y5c2 y5c3
             go_wp2
             refine bodyPost_ret (v := .tuple #[.agg #[.slice none 0 0, .int .i64 0, .int .i64 0], .agg #[.slice S9 y.secs.length s9, .slice P9 y.pend.length p9, .int .i64 y.left, .bool y.stop], .int .i64 e]) (by simp [results, Try.results54, go_sem, y4c0, y4c1, y4c2, y5c0, y5c1, y5c2, y5c3]) rfl ?_
             rw [E.out]
             exact ⟨_, _, rfl, jn0V WE, ⟨S9, s9, P9, p9, rfl, hs9, hp9, r9, q9⟩, hwE⟩
          subst he
          have E2 := E.out
          rw [if_neg (by simp)] at E2
          replace E := Lib.hid E2
          clear E2
          go_upto_region 32 with (fail)
          obtain ⟨W7, hW7⟩ : ∃ W, W = W9.setCell ⟨w.heap.size, 2, none⟩ (.int .i64 (j.recs.length : Nat)) := ⟨_, rfl⟩
          rw [← hW7]
          have hk : Keep (fun r => r = w.heap.size) W9 W7 := by rw [hW7]; exact (Keep.refl (fun r => r = w.heap.size) _).setCell (fun _ => rfl) _
          have hm := Boxes.one (n₀ := n₀) x2 rfl (Nat.le_trans hn (Nat.le_refl _))
          have y2 : Blk W7 w.heap.size 55 #[.slice (some ⟨rb, ro, none⟩) j.recs.length rc, .int .i64 j.many, .int .i64 (j.recs.length : Nat)] := by rw [hW7]; exact x2.set 2 _
          replace x9 := x9.keep hk (fun h => by have := hw.size; omega)
          replace x4 := x4.keep hk (by omega)
          replace x5 := x5.keep hk (by omega)
          replace r0 := r0.keep hk hm
          replace r9 := r9.keep hk hm
          replace q9 := q9.keep hk hm
          replace hw := hw.trans (hk.below hw.size (fun r hr h => by omega))
          clear x9c0 x9c1 x9c2 x9c3 x9l x4f0 x4f1 x4f2 x4c0 x4c1 x4c2 x4l x5f0 x5f1 x5f2 x5f3 x5c0 x5c1 x5c2 x5c3 x5l x2f0 x2f1 x2f2 x2c0 x2c1 x2c2 x2l
          clear hW7 hk hm x2
          have x2 := y2
          clear y2
          have x2c0 := x2.cell 0
          have x2c1 := x2.cell 1
          have x2c2 := x2.cell 2
          simp only [List.getElem?_toArray, List.getElem?_cons_zero, List.getElem?_cons_succ] at x2c0 x2c1 x2c2
          have x2l := x2.lt
          have x9c0 := x9.cell 0
          have x9c1 := x9.cell 1
          have x9c2 := x9.cell 2
          have x9c3 := x9.cell 3
          simp only [List.getElem?_toArray, List.getElem?_cons_zero, List.getElem?_cons_succ] at x9c0 x9c1 x9c2 x9c3
          have x9l := x9.lt
          have x4c0 := x4.cell 0
          have x4f0 := x4.frozen 0
          have x4c1 := x4.cell 1
          have x4f1 := x4.frozen 1
          have x4c2 := x4.cell 2
          have x4f2 := x4.frozen 2
          simp only [List.getElem?_toArray, List.getElem?_cons_zero, List.getElem?_cons_succ] at x4c0 x4c1 x4c2
          have x4l := x4.lt
          have x5c0 := x5.cell 0
          have x5f0 := x5.frozen 0
          have x5c1 := x5.cell 1
          have x5f1 := x5.frozen 1
          have x5c2 := x5.cell 2
          have x5f2 := x5.frozen 2
          have x5c3 := x5.cell 3
          have x5f3 := x5.frozen 3
          simp only [List.getElem?_toArray, List.getElem?_cons_zero, List.getElem?_cons_succ] at x5c0 x5c1 x5c2 x5c3
          have x5l := x5.lt
          have HWW := Lib.hid hw
          clear hw
          go_region
          all_goals
           obtain ⟨WE, hWE⟩ : ∃ W, W = (((((((W7.setCell ⟨(w.heap.size + 1 + 1), 0, none⟩ (.slice (some ⟨rb, ro, none⟩) j.recs.length rc)).setCell ⟨(w.heap.size + 1 + 1), 1, none⟩ (.int .i64 j.many)).setCell ⟨(w.heap.size + 1 + 1), 2, none⟩ (.int .i64 (j.recs.length : Nat))).setCell ⟨(w.heap.size + 1 + 1 + 1), 0, none⟩ (.slice S9 y.secs.length s9)).setCell ⟨(w.heap.size + 1 + 1 + 1), 1, none⟩ (.slice P9 y.pend.length p9)).setCell ⟨(w.heap.size + 1 + 1 + 1), 2, none⟩ (.int .i64 y.left)).setCell ⟨(w.heap.size + 1 + 1 + 1), 3, none⟩ (.bool y.stop)).drew := ⟨_, rfl⟩
           rw [← hWE]
           have hk : Keep (fun r => r = (w.heap.size + 1 + 1) ∨ r = (w.heap.size + 1 + 1 + 1)) W7 WE := by rw [hWE]; refine Keep.drew ?_; repeat (first | with_reducible exact Keep.refl _ _ | refine Keep.setCell ?_ (fun _ => by simp) _)
           have y4a := (((((((x4.set 0 (.slice (some ⟨rb, ro, none⟩) j.recs.length rc)).set 1 (.int .i64 j.many)).set 2 (.int .i64 (j.recs.length : Nat))).other (p := ⟨(w.heap.size + 1 + 1 + 1), 0, none⟩) (by simp) (.slice S9 y.secs.length s9)).other (p := ⟨(w.heap.size + 1 + 1 + 1), 1, none⟩) (by simp) (.slice P9 y.pend.length p9)).other (p := ⟨(w.heap.size + 1 + 1 + 1), 2, none⟩) (by simp) (.int .i64 y.left)).other (p := ⟨(w.heap.size + 1 + 1 + 1), 3, none⟩) (by simp) (.bool y.stop))
           have y5a := (((((((x5.other (p := ⟨(w.heap.size + 1 + 1), 0, none⟩) (by simp) (.slice (some ⟨rb, ro, none⟩) j.recs.length rc)).other (p := ⟨(w.heap.size + 1 + 1), 1, none⟩) (by simp) (.int .i64 j.many)).other (p := ⟨(w.heap.size + 1 + 1), 2, none⟩) (by simp) (.int .i64 (j.recs.length : Nat))).set 0 (.slice S9 y.secs.length s9)).set 1 (.slice P9 y.pend.length p9)).set 2 (.int .i64 y.left)).set 3 (.bool y.stop))
           simp only [List.setIfInBounds_toArray, List.set_cons_zero, List.set_cons_succ] at y4a y5a
           have y4 : Blk WE (w.heap.size + 1 + 1) 55 #[.slice (some ⟨rb, ro, none⟩) j.recs.length rc, .int .i64 j.many, .int .i64 (j.recs.length : Nat)] := by rw [hWE]; exact blk_drew y4a
           have y5 : Blk WE (w.heap.size + 1 + 1 + 1) 25 #[.slice S9 y.secs.length s9, .slice P9 y.pend.length p9, .int .i64 y.left, .bool y.stop] := by rw [hWE]; exact blk_drew y5a
           clear y4a y5a
           have hm := Boxes.two (n₀ := n₀) x4 rfl (Nat.le_trans hn (by omega)) x5 rfl (Nat.le_trans hn (by omega))
           replace r0 := r0.keep hk hm
           replace r9 := r9.keep hk hm
           replace q9 := q9.keep hk hm
           have hwE : Below w.heap.size w WE := HWW.out.trans (hk.below HWW.out.size (fun r hr h => by rcases h with h | h <;> omega))
           clear hWE hk hm
           have y4c0 := y4.cell 0
           have y4c1 := y4.cell 1
           have y4c2 := y4.cell 2
           simp only [List.getElem?_toArray, List.getElem?_cons_zero, List.getElem?_cons_succ] at y4c0 y4c1 y4c2
           have y5c0 := y5.cell 0
           have y5c1 := y5.cell 1
           have y5c2 := y5.cell 2
           have y5c3 := y5.cell 3
           simp only [List.getElem?_toArray, List.getElem?_cons_zero, List.getElem?_cons_succ] at y5c0 y5c1 y5c2 y5c3
           go_wp2
           refine bodyPost_ret (v := .tuple #[.agg #[.slice (some ⟨rb, ro, none⟩) j.recs.length rc, .int .i64 j.many, .int .i64 (j.recs.length : Nat)], .agg #[.slice S9 y.secs.length s9, .slice P9 y.pend.length p9, .int .i64 y.left, .bool y.stop], .int .i64 0]) (by simp [results, Try.results54, go_sem, y4c0, y4c1, y4c2, y5c0, y5c1, y5c2, y5c3]) rfl ?_
           rw [E.out]
           exact ⟨_, _, rfl, ⟨some ⟨rb, ro, none⟩, rc, rfl, hrc, r0⟩, ⟨S9, s9, P9, p9, rfl, hs9, hp9, r9, q9⟩, hwE⟩
end Go.Proofs.Ytckeopidedoohaa
