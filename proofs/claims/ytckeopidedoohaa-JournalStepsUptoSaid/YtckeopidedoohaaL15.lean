/-
  JournalSteps walked. Conditions: arguments of at most 1048576 values.
-/
import Derived.Test.YtckeopidedoohaaTk
import Derived.Test.YtckeopidedoohaaJss
import Derived.Test.YtckeopidedoohaaJfw
import Derived.Test.YtckeopidedoohaaApw
import Derived.Test.YtckeopidedoohaaJsn
import Derived.Test.YtckeopidedoohaaJst
import Derived.Deep.CutBlock
import Derived.Deep.DeepCutAuto
import Derived.Deep.RegionLaw
import Derived.Deep.RegionHeld3
import Derived.Deep.RegionWith
namespace Go.Proofs.Ytckeopidedoohaa
open Go.RowKit
variable {n₀ : Nat}
attribute [local go_sem] Oper.semAt_some

theorem intro_states {P : Program} {ops : Array Oper} {Q : Exit → Act → World → Prop} {md : Region.Mode} {S : World → Prop} {f : Nat} {l : Array Bool} {a : Act} {w : World} (h : ∀ G : Nat → Array Bool → Act → World → Prop, G = wpAnyH P md ops Q S → ∀ a0 : Act, a0 = a → G f l a0 w) : wpAnyH P md ops Q S f l a w := h _ rfl _ rfl
@[reducible] def o10x0 : Oper := { dst := some 54, op := Op.move (Operand.tmp 7), type := 70, pos := "law.go:222", after := #[], guard := none }
@[reducible] def o10x1 : Oper := { dst := some 55, op := Op.move (Operand.tmp 7), type := 70, pos := "law.go:222", after := #[], guard := none }
@[reducible] def o10x2 : Oper := { dst := some 56, op := Op.load 55 (Operand.tmp 8), type := 55, pos := "law.go:222", after := #[], guard := none }
@[reducible] def o10x3 : Oper := { dst := some 57, op := Op.move (Operand.tmp 0), type := 22, pos := "law.go:222", after := #[], guard := none }
@[reducible] def o10x4 : Oper := { dst := some 58, op := Op.call { callee := Callee.value (Operand.tmp 55), args := #[Operand.tmp 56, Operand.tmp 57], argTypes := #[55, 22] }, type := 55, pos := "law.go:222", after := #[{ on := 1, ground := Ground.data }, { on := 2, ground := Ground.data }, { on := 3, ground := Ground.data }], guard := none }
@[reducible] def o10x5 : Oper := { dst := some 59, op := Op.move (Operand.tmp 1), type := 22, pos := "law.go:222", after := #[], guard := none }
@[reducible] def o10x6 : Oper := { dst := some 60, op := Op.call { callee := Callee.value (Operand.tmp 54), args := #[Operand.tmp 58, Operand.tmp 59], argTypes := #[55, 22] }, type := 55, pos := "law.go:222", after := #[{ on := 0, ground := Ground.data }, { on := 4, ground := Ground.data }, { on := 5, ground := Ground.data }, { on := 4, ground := Ground.chain }], guard := none }
@[reducible] def o10x7 : Oper := { dst := some 61, op := Op.load 25 (Operand.tmp 5), type := 25, pos := "law.go:222", after := #[], guard := none }
@[reducible] def o10x8 : Oper := { dst := some 62, op := Op.call { callee := Callee.value (Operand.func 53), args := #[Operand.tmp 60, Operand.tmp 61], argTypes := #[55, 25] }, type := 63, pos := "law.go:222", after := #[{ on := 6, ground := Ground.data }, { on := 7, ground := Ground.data }, { on := 6, ground := Ground.chain }], guard := none }
@[reducible] def o10x9 : Oper := { dst := some 53, op := Op.move (Operand.tmp 62), type := 63, pos := "law.go:222", after := #[{ on := 8, ground := Ground.data }], guard := none }
@[reducible] def o10x10 : Oper := { dst := some 63, op := Op.extract (Operand.tmp 53) 0, type := 55, pos := "law.go:222", after := #[{ on := 9, ground := Ground.data }], guard := none }
@[reducible] def o10x11 : Oper := { dst := some 64, op := Op.extract (Operand.tmp 53) 1, type := 25, pos := "law.go:222", after := #[{ on := 9, ground := Ground.data }, { on := 15, ground := Ground.gcOnly Departure.lateStores }], guard := none }
@[reducible] def o10x12 : Oper := { dst := some 65, op := Op.extract (Operand.tmp 53) 2, type := 28, pos := "law.go:222", after := #[{ on := 9, ground := Ground.data }, { on := 16, ground := Ground.gcOnly Departure.lateStores }], guard := none }
@[reducible] def o10x13 : Oper := { dst := some 10, op := Op.alloc 55, type := 0, pos := "law.go:222", after := #[], guard := none }
@[reducible] def o10x14 : Oper := { dst := some 11, op := Op.alloc 25, type := 0, pos := "law.go:222", after := #[], guard := none }
@[reducible] def o10x15 : Oper := { dst := none, op := Op.store 55 (Operand.tmp 10) (Operand.tmp 63), type := 0, pos := "law.go:222", after := #[{ on := 13, ground := Ground.data }, { on := 10, ground := Ground.data }, { on := 8, ground := Ground.chain }, { on := 0, ground := Ground.phase }, { on := 1, ground := Ground.phase }, { on := 2, ground := Ground.phase }, { on := 3, ground := Ground.phase }, { on := 4, ground := Ground.phase }, { on := 5, ground := Ground.phase }, { on := 6, ground := Ground.phase }, { on := 7, ground := Ground.phase }, { on := 8, ground := Ground.phase }, { on := 9, ground := Ground.phase }, { on := 10, ground := Ground.phase }, { on := 11, ground := Ground.textOnly Departure.lateStores }, { on := 12, ground := Ground.textOnly Departure.lateStores }, { on := 13, ground := Ground.phase }, { on := 14, ground := Ground.phase }], guard := none }
@[reducible] def o10x16 : Oper := { dst := none, op := Op.store 25 (Operand.tmp 11) (Operand.tmp 64), type := 0, pos := "law.go:222", after := #[{ on := 14, ground := Ground.data }, { on := 11, ground := Ground.data }, { on := 15, ground := Ground.chain }, { on := 0, ground := Ground.phase }, { on := 1, ground := Ground.phase }, { on := 2, ground := Ground.phase }, { on := 3, ground := Ground.phase }, { on := 4, ground := Ground.phase }, { on := 5, ground := Ground.phase }, { on := 6, ground := Ground.phase }, { on := 7, ground := Ground.phase }, { on := 8, ground := Ground.phase }, { on := 9, ground := Ground.phase }, { on := 10, ground := Ground.phase }, { on := 11, ground := Ground.phase }, { on := 12, ground := Ground.textOnly Departure.lateStores }, { on := 13, ground := Ground.phase }, { on := 14, ground := Ground.phase }, { on := 15, ground := Ground.phase }], guard := none }
@[reducible] def o10x17 : Oper := { dst := some 12, op := Op.assign (Operand.tmp 65), type := 28, pos := "law.go:222", after := #[{ on := 12, ground := Ground.data }, { on := 16, ground := Ground.chain }, { on := 0, ground := Ground.phase }, { on := 1, ground := Ground.phase }, { on := 2, ground := Ground.phase }, { on := 3, ground := Ground.phase }, { on := 4, ground := Ground.phase }, { on := 5, ground := Ground.phase }, { on := 6, ground := Ground.phase }, { on := 7, ground := Ground.phase }, { on := 8, ground := Ground.phase }, { on := 9, ground := Ground.phase }, { on := 10, ground := Ground.phase }, { on := 11, ground := Ground.phase }, { on := 12, ground := Ground.phase }, { on := 13, ground := Ground.phase }, { on := 14, ground := Ground.phase }, { on := 15, ground := Ground.phase }, { on := 16, ground := Ground.phase }], guard := none }
@[reducible] def o11x0 : Oper := { dst := some 67, op := Op.move (Operand.tmp 7), type := 70, pos := "law.go:223", after := #[], guard := none }
@[reducible] def o11x1 : Oper := { dst := some 68, op := Op.load 55 (Operand.tmp 8), type := 55, pos := "law.go:223", after := #[], guard := none }
@[reducible] def o11x2 : Oper := { dst := some 69, op := Op.move (Operand.tmp 0), type := 22, pos := "law.go:223", after := #[], guard := none }
@[reducible] def o11x3 : Oper := { dst := some 70, op := Op.call { callee := Callee.value (Operand.tmp 67), args := #[Operand.tmp 68, Operand.tmp 69], argTypes := #[55, 22] }, type := 55, pos := "law.go:223", after := #[{ on := 0, ground := Ground.data }, { on := 1, ground := Ground.data }, { on := 2, ground := Ground.data }], guard := none }
@[reducible] def o11x4 : Oper := { dst := some 71, op := Op.load 25 (Operand.tmp 5), type := 25, pos := "law.go:223", after := #[], guard := none }
@[reducible] def o11x5 : Oper := { dst := some 72, op := Op.call { callee := Callee.value (Operand.func 53), args := #[Operand.tmp 70, Operand.tmp 71], argTypes := #[55, 25] }, type := 63, pos := "law.go:223", after := #[{ on := 3, ground := Ground.data }, { on := 4, ground := Ground.data }, { on := 3, ground := Ground.chain }], guard := none }
@[reducible] def o11x6 : Oper := { dst := some 66, op := Op.move (Operand.tmp 72), type := 63, pos := "law.go:223", after := #[{ on := 5, ground := Ground.data }], guard := none }
@[reducible] def o11x7 : Oper := { dst := some 73, op := Op.extract (Operand.tmp 66) 0, type := 55, pos := "law.go:223", after := #[{ on := 6, ground := Ground.data }], guard := none }
@[reducible] def o11x8 : Oper := { dst := some 74, op := Op.extract (Operand.tmp 66) 1, type := 25, pos := "law.go:223", after := #[{ on := 6, ground := Ground.data }, { on := 12, ground := Ground.gcOnly Departure.lateStores }], guard := none }
@[reducible] def o11x9 : Oper := { dst := some 75, op := Op.extract (Operand.tmp 66) 2, type := 28, pos := "law.go:223", after := #[{ on := 6, ground := Ground.data }, { on := 13, ground := Ground.gcOnly Departure.lateStores }], guard := none }
@[reducible] def o11x10 : Oper := { dst := some 13, op := Op.alloc 55, type := 0, pos := "law.go:223", after := #[], guard := none }
@[reducible] def o11x11 : Oper := { dst := some 14, op := Op.alloc 25, type := 0, pos := "law.go:223", after := #[], guard := none }
@[reducible] def o11x12 : Oper := { dst := none, op := Op.store 55 (Operand.tmp 13) (Operand.tmp 73), type := 0, pos := "law.go:223", after := #[{ on := 10, ground := Ground.data }, { on := 7, ground := Ground.data }, { on := 5, ground := Ground.chain }, { on := 0, ground := Ground.phase }, { on := 1, ground := Ground.phase }, { on := 2, ground := Ground.phase }, { on := 3, ground := Ground.phase }, { on := 4, ground := Ground.phase }, { on := 5, ground := Ground.phase }, { on := 6, ground := Ground.phase }, { on := 7, ground := Ground.phase }, { on := 8, ground := Ground.textOnly Departure.lateStores }, { on := 9, ground := Ground.textOnly Departure.lateStores }, { on := 10, ground := Ground.phase }, { on := 11, ground := Ground.phase }], guard := none }
@[reducible] def o11x13 : Oper := { dst := none, op := Op.store 25 (Operand.tmp 14) (Operand.tmp 74), type := 0, pos := "law.go:223", after := #[{ on := 11, ground := Ground.data }, { on := 8, ground := Ground.data }, { on := 12, ground := Ground.chain }, { on := 0, ground := Ground.phase }, { on := 1, ground := Ground.phase }, { on := 2, ground := Ground.phase }, { on := 3, ground := Ground.phase }, { on := 4, ground := Ground.phase }, { on := 5, ground := Ground.phase }, { on := 6, ground := Ground.phase }, { on := 7, ground := Ground.phase }, { on := 8, ground := Ground.phase }, { on := 9, ground := Ground.textOnly Departure.lateStores }, { on := 10, ground := Ground.phase }, { on := 11, ground := Ground.phase }, { on := 12, ground := Ground.phase }], guard := none }
@[reducible] def o11x14 : Oper := { dst := some 15, op := Op.assign (Operand.tmp 75), type := 28, pos := "law.go:223", after := #[{ on := 9, ground := Ground.data }, { on := 13, ground := Ground.chain }, { on := 0, ground := Ground.phase }, { on := 1, ground := Ground.phase }, { on := 2, ground := Ground.phase }, { on := 3, ground := Ground.phase }, { on := 4, ground := Ground.phase }, { on := 5, ground := Ground.phase }, { on := 6, ground := Ground.phase }, { on := 7, ground := Ground.phase }, { on := 8, ground := Ground.phase }, { on := 9, ground := Ground.phase }, { on := 10, ground := Ground.phase }, { on := 11, ground := Ground.phase }, { on := 12, ground := Ground.phase }, { on := 13, ground := Ground.phase }], guard := none }
@[reducible] def o12x0 : Oper := { dst := some 77, op := Op.move (Operand.tmp 7), type := 70, pos := "law.go:224", after := #[], guard := none }
@[reducible] def o12x1 : Oper := { dst := some 78, op := Op.load 55 (Operand.tmp 13), type := 55, pos := "law.go:224", after := #[], guard := none }
@[reducible] def o12x2 : Oper := { dst := some 79, op := Op.move (Operand.tmp 1), type := 22, pos := "law.go:224", after := #[], guard := none }
@[reducible] def o12x3 : Oper := { dst := some 80, op := Op.call { callee := Callee.value (Operand.tmp 77), args := #[Operand.tmp 78, Operand.tmp 79], argTypes := #[55, 22] }, type := 55, pos := "law.go:224", after := #[{ on := 0, ground := Ground.data }, { on := 1, ground := Ground.data }, { on := 2, ground := Ground.data }], guard := none }
@[reducible] def o12x4 : Oper := { dst := some 81, op := Op.load 25 (Operand.tmp 14), type := 25, pos := "law.go:224", after := #[], guard := none }
@[reducible] def o12x5 : Oper := { dst := some 82, op := Op.call { callee := Callee.value (Operand.func 53), args := #[Operand.tmp 80, Operand.tmp 81], argTypes := #[55, 25] }, type := 63, pos := "law.go:224", after := #[{ on := 3, ground := Ground.data }, { on := 4, ground := Ground.data }, { on := 3, ground := Ground.chain }], guard := none }
@[reducible] def o12x6 : Oper := { dst := some 76, op := Op.move (Operand.tmp 82), type := 63, pos := "law.go:224", after := #[{ on := 5, ground := Ground.data }], guard := none }
@[reducible] def o12x7 : Oper := { dst := some 83, op := Op.extract (Operand.tmp 76) 0, type := 55, pos := "law.go:224", after := #[{ on := 6, ground := Ground.data }], guard := none }
@[reducible] def o12x8 : Oper := { dst := some 84, op := Op.extract (Operand.tmp 76) 1, type := 25, pos := "law.go:224", after := #[{ on := 6, ground := Ground.data }, { on := 12, ground := Ground.gcOnly Departure.lateStores }], guard := none }
@[reducible] def o12x9 : Oper := { dst := some 85, op := Op.extract (Operand.tmp 76) 2, type := 28, pos := "law.go:224", after := #[{ on := 6, ground := Ground.data }, { on := 13, ground := Ground.gcOnly Departure.lateStores }], guard := none }
@[reducible] def o12x10 : Oper := { dst := some 16, op := Op.alloc 55, type := 0, pos := "law.go:224", after := #[], guard := none }
@[reducible] def o12x11 : Oper := { dst := some 17, op := Op.alloc 25, type := 0, pos := "law.go:224", after := #[], guard := none }
@[reducible] def o12x12 : Oper := { dst := none, op := Op.store 55 (Operand.tmp 16) (Operand.tmp 83), type := 0, pos := "law.go:224", after := #[{ on := 10, ground := Ground.data }, { on := 7, ground := Ground.data }, { on := 5, ground := Ground.chain }, { on := 0, ground := Ground.phase }, { on := 1, ground := Ground.phase }, { on := 2, ground := Ground.phase }, { on := 3, ground := Ground.phase }, { on := 4, ground := Ground.phase }, { on := 5, ground := Ground.phase }, { on := 6, ground := Ground.phase }, { on := 7, ground := Ground.phase }, { on := 8, ground := Ground.textOnly Departure.lateStores }, { on := 9, ground := Ground.textOnly Departure.lateStores }, { on := 10, ground := Ground.phase }, { on := 11, ground := Ground.phase }], guard := none }
@[reducible] def o12x13 : Oper := { dst := none, op := Op.store 25 (Operand.tmp 17) (Operand.tmp 84), type := 0, pos := "law.go:224", after := #[{ on := 11, ground := Ground.data }, { on := 8, ground := Ground.data }, { on := 12, ground := Ground.chain }, { on := 0, ground := Ground.phase }, { on := 1, ground := Ground.phase }, { on := 2, ground := Ground.phase }, { on := 3, ground := Ground.phase }, { on := 4, ground := Ground.phase }, { on := 5, ground := Ground.phase }, { on := 6, ground := Ground.phase }, { on := 7, ground := Ground.phase }, { on := 8, ground := Ground.phase }, { on := 9, ground := Ground.textOnly Departure.lateStores }, { on := 10, ground := Ground.phase }, { on := 11, ground := Ground.phase }, { on := 12, ground := Ground.phase }], guard := none }
@[reducible] def o12x14 : Oper := { dst := some 18, op := Op.assign (Operand.tmp 85), type := 28, pos := "law.go:224", after := #[{ on := 9, ground := Ground.data }, { on := 13, ground := Ground.chain }, { on := 0, ground := Ground.phase }, { on := 1, ground := Ground.phase }, { on := 2, ground := Ground.phase }, { on := 3, ground := Ground.phase }, { on := 4, ground := Ground.phase }, { on := 5, ground := Ground.phase }, { on := 6, ground := Ground.phase }, { on := 7, ground := Ground.phase }, { on := 8, ground := Ground.phase }, { on := 9, ground := Ground.phase }, { on := 10, ground := Ground.phase }, { on := 11, ground := Ground.phase }, { on := 12, ground := Ground.phase }, { on := 13, ground := Ground.phase }], guard := none }
attribute [local go_sem] o10x0 o10x1 o10x2 o10x3 o10x4 o10x5 o10x6 o10x7 o10x8 o10x9 o10x10 o10x11 o10x12 o10x13 o10x14 o10x15 o10x16 o10x17 o11x0 o11x1 o11x2 o11x3 o11x4 o11x5 o11x6 o11x7 o11x8 o11x9 o11x10 o11x11 o11x12 o11x13 o11x14 o12x0 o12x1 o12x2 o12x3 o12x4 o12x5 o12x6 o12x7 o12x8 o12x9 o12x10 o12x11 o12x12 o12x13 o12x14
/-- The law answers true, and leaves alone what lay. -/
def YesT (w : World) (e : Ending) (w' : World) : Prop := e = .returned (.bool true) ∧ Below w.heap.size w w'

theorem rws_app {w : World} {va vb : List Value} {a b : List Bs} (h : Rws n₀ w va a) (k : Rws n₀ w vb b) : Rws n₀ w (va ++ vb) (a ++ b) := by
  refine ⟨by rw [List.length_append, List.length_append, h.1, k.1], fun i hi => ?_⟩
  rw [List.length_append] at hi
  rcases Nat.lt_or_ge i a.length with h1 | h1
  · have e1 : (va ++ vb).getD i undef = va.getD i undef := by rw [List.getD_eq_getElem?_getD, List.getD_eq_getElem?_getD, List.getElem?_append_left (by rw [h.1]; exact h1)]
    have e2 : (a ++ b).getD i [] = a.getD i [] := by rw [List.getD_eq_getElem?_getD, List.getD_eq_getElem?_getD, List.getElem?_append_left h1]
    rw [e1, e2]
    exact h.2 i h1
  · have e1 : (va ++ vb).getD i undef = vb.getD (i - a.length) undef := by rw [List.getD_eq_getElem?_getD, List.getD_eq_getElem?_getD, List.getElem?_append_right (by rw [h.1]; exact h1), h.1]
    have e2 : (a ++ b).getD i [] = b.getD (i - a.length) [] := by rw [List.getD_eq_getElem?_getD, List.getD_eq_getElem?_getD, List.getElem?_append_right h1]
    rw [e1, e2]
    exact k.2 _ (by omega)

set_option maxRecDepth 20000 in
set_option maxHeartbeats 100000000 in
theorem journalSteps_t (TA TB : Option Addr) (ca cb : Nat) (a b : List Bs) (w : World) (hn : n₀ ≤ w.heap.size) (hab : a.length + b.length ≤ 1048576) (har : ∀ x ∈ a, x.length ≤ 1048576) (hbr : ∀ x ∈ b, x.length ≤ 1048576) (r0 : RowsAt n₀ w TA a) (r1 : RowsAt n₀ w TB b) :
    Calls Try.prog 15 #[.slice TA a.length ca, .slice TB b.length cb] w (YesT w) := by
  have HAR := Lib.hid har
  have HBR := Lib.hid hbr
  clear har hbr
  go_enter Try.func15, Try.ntmps15
  go_wp2_with (fail)
  have K : Calls Try.prog 42 #[] w (fun e w' => e = .returned (.bool true) ∧ Below w.heap.size w w') := jsane_t w
  go_at_call 42
  refine K.mono ?_
  rintro e w1 ⟨rfl, hb⟩
  clear K
  replace r0 := r0.below hb
  replace r1 := r1.below hb
  have hw := hb
  clear hb
  go_wp2_with (fail)
  have K : Calls Try.prog 25 #[.int .i64 40] w1 (fun e w' => ∃ S s P p, e = .returned (.tuple #[.agg #[.slice S 40 s, .slice P 0 p, .int .i64 (-1), .bool false], .int .i64 0]) ∧ 40 ≤ s ∧ RowsAt n₀ w' S dD40.secs ∧ Below w1.heap.size w1 w') := (by have h := new_t (n₀ := n₀) 40 w1; rw [d40_new] at h; exact h.mono fun e w9 hx => by obtain ⟨v, rfl, ⟨S, s, P, p, rfl, h1, h2, h3, h4⟩, h5⟩ := hx; exact ⟨S, s, P, p, rfl, h1, h3, h5⟩)
  go_at_call 25
  refine K.mono ?_
  rintro e w2 ⟨S5, s5, P5, p5, rfl, hs5, r5, hb⟩
  clear K
  replace r0 := r0.below hb
  replace r1 := r1.below hb
  replace hw := hw.trans (hb.mono hw.size)
  clear hb
  go_upto_region 4 with (fail)
  obtain ⟨W3, hW3⟩ : ∃ W, W = w2.alloc (.cells #[.slice S5 40 s5, .slice P5 0 p5, .int .i64 (-1), .bool false] 25) := ⟨_, rfl⟩
  rw [← hW3]
  have hb : Below w2.heap.size w2 W3 := by rw [hW3]; exact (Below.refl _ _).alloc (Nat.le_refl _) _
  have x5 : Blk W3 w2.heap.size 25 #[.slice S5 40 s5, .slice P5 0 p5, .int .i64 (-1), .bool false] := by rw [hW3]; exact Blk.new w2 25 _
  clear hW3
  replace r0 := r0.below hb
  replace r1 := r1.below hb
  replace r5 := r5.below hb
  replace hw := hw.trans (hb.mono hw.size)
  clear hb
  have x5c0 := x5.cell 0
  have x5c1 := x5.cell 1
  have x5c2 := x5.cell 2
  have x5c3 := x5.cell 3
  simp only [List.getElem?_toArray, List.getElem?_cons_zero, List.getElem?_cons_succ] at x5c0 x5c1 x5c2 x5c3
  have x5l := x5.lt
  obtain ⟨va, hra, hqa⟩ := r0
  obtain ⟨vb, hrb, hqb⟩ := r1
  have hla : va.length = a.length := hra.1
  have hlb : vb.length = b.length := hrb.1
  have HQA := Lib.hid hqa
  have HQB := Lib.hid hqb
  have HRA := Lib.hid hra
  have HRB := Lib.hid hrb
  have HLA := Lib.hid hla
  have HLB := Lib.hid hlb
  clear hqa hqb hra hrb hla hlb
  obtain ⟨i0, hi0, hz0, hz1, hz2⟩ := info_parts info35
  have ow := World.ownsRow_lit (base := W3.heap.size) (e := 35) (size := 1) W3 #[] 0 (Nat.le_refl _) (by simp [maxLen]) rfl
  have HOW := Lib.hid ow
  clear ow
  obtain ⟨na, hna⟩ : ∃ n, n = a.length := ⟨_, rfl⟩
  obtain ⟨nb, hnb⟩ : ∃ n, n = b.length := ⟨_, rfl⟩
  have HNA := Lib.hid hna
  have HNB := Lib.hid hnb
  rw [← hna, ← hnb] at hab ⊢
  clear hna hnb
  have hsa : ∀ W', Below W3.heap.size W3 W' → 0 < na → ∃ ad, TA = some ad ∧ ∀ j u, va[j]? = some u → W'.cell? (ad.add j) = some u := fun W' hb h => vals_src HQA.out hb (by rw [HLA.out, ← HNA.out]; exact h)
  have hsb : ∀ W', Below W3.heap.size W3 W' → 0 < nb → ∃ ad, TB = some ad ∧ ∀ j u, vb[j]? = some u → W'.cell? (ad.add j) = some u := fun W' hb h => vals_src HQB.out hb (by rw [HLB.out, ← HNB.out]; exact h)
  have HSA := Lib.hid hsa
  have HSB := Lib.hid hsb
  have hva1 : va.length = na * 1 := by rw [HLA.out, HNA.out, Nat.mul_one]
  have hvb1 : vb.length = nb * 1 := by rw [HLB.out, HNB.out, Nat.mul_one]
  have HVA1 := Lib.hid hva1
  have HVB1 := Lib.hid hvb1
  clear hsa hsb hva1 hvb1
  obtain ⟨y, hy⟩ : ∃ y, y = fewB 40 0 (a ++ b) := ⟨_, rfl⟩
  have HY := Lib.hid hy
  clear hy
  have hfew : ∀ W' V c, Below W3.heap.size W3 W' → W'.ownsRow W3.heap.size 35 1 (.slice V (na + nb) c) (na + nb) (va ++ vb) → Calls Try.prog 43 #[.agg #[.slice S5 40 s5, .slice P5 0 p5, .int .i64 (-1), .bool false], .slice V (na + nb) c] W' (fun e w' => e = .returned (.bool y) ∧ Below W'.heap.size W' w') := fun W' V c hW ho => by
    have hr : RowsAt n₀ W' V (a ++ b) := ⟨va ++ vb, rws_app (HRA.out.below hW) (HRB.out.below hW), own_ValsAt ho (by rw [List.length_append, HLA.out, HLB.out, HNA.out, HNB.out])⟩
    have h := few5_t (n₀ := n₀) S5 P5 V s5 p5 c 40 0 (-1) false (a ++ b) W' (by decide) (by decide) (by rw [List.length_append, ← HNA.out, ← HNB.out]; omega) (fun x hx => by rcases List.mem_append.1 hx with hx | hx; exact HAR.out x hx; exact HBR.out x hx) hr
    rw [List.length_append, ← HNA.out, ← HNB.out, ← HY.out] at h
    exact h
  have HFEW := Lib.hid hfew
  clear hfew
  go_cut [43] (fun s43 wx => s43 = .bool (!y) ∧ Below W3.heap.size W3 wx)
  case first =>
    go_region_law (first | (refine step_append_wanted ?_ (.tmp 36) (.tmp 37) 22 rfl W3.heap.size 35 i0 (.slice none 0 0) 1 24 Try.underlying22 hi0 hz0 hz1 hz2 rfl (by decide) (.slice (some ⟨W3.heap.size, 0, none⟩) 0 0) 0 [] rfl HOW.out _ na ca va rfl HVA1.out (HSA.out _ (by repeat (first | with_reducible exact Below.refl _ _ | with_reducible exact b6 | with_reducible exact b8 | refine Below.drew ?_ | refine Below.alloc ?_ (by simp <;> omega) _))) (rws_one HRA.out) (by simp [maxLen]; omega) (by omega) (by simp <;> omega) ?_; rfl; intro v6 w6 hown6 hgrow6; simp only [Nat.zero_add, List.nil_append] at hown6; obtain ⟨V6, c6, rfl, hc6⟩ := own_slice hown6; have b6 : Below W3.heap.size W3 w6 := Below.grown (w := W3.drew.alloc (.cells #[] 35)) (by repeat (first | with_reducible exact Below.refl _ _ | with_reducible exact b6 | with_reducible exact b8 | refine Below.drew ?_ | refine Below.alloc ?_ (by simp <;> omega) _)) hgrow6 (by simp <;> omega) (own_base HOW.out); have z0 := (b6.cell (p := ⟨w2.heap.size, 0, none⟩) x5l).trans x5c0; have z1 := (b6.cell (p := ⟨w2.heap.size, 1, none⟩) x5l).trans x5c1; have z2 := (b6.cell (p := ⟨w2.heap.size, 2, none⟩) x5l).trans x5c2; have z3 := (b6.cell (p := ⟨w2.heap.size, 3, none⟩) x5l).trans x5c3) | (refine step_append_wanted ?_ (.tmp 38) (.tmp 39) 22 rfl W3.heap.size 35 i0 (.slice none 0 0) 1 24 Try.underlying22 hi0 hz0 hz1 hz2 rfl (by decide) _ na _ rfl hown6 _ nb cb vb rfl HVB1.out (HSB.out _ b6) (rws_one HRB.out) (by simp [maxLen]; omega) (by omega) b6.size ?_; rfl; intro v8 w8 hown8 hgrow8; obtain ⟨V8, c8, rfl, hc8⟩ := own_slice hown8; have b8 : Below W3.heap.size W3 w8 := b6.grown hgrow8 b6.size (own_base hown6); have y0 := (b8.cell (p := ⟨w2.heap.size, 0, none⟩) x5l).trans x5c0; have y1 := (b8.cell (p := ⟨w2.heap.size, 1, none⟩) x5l).trans x5c1; have y2 := (b8.cell (p := ⟨w2.heap.size, 2, none⟩) x5l).trans x5c2; have y3 := (b8.cell (p := ⟨w2.heap.size, 3, none⟩) x5l).trans x5c3) | (go_simp; go_at_call 43; refine (HFEW.out _ _ _ b8 hown8).mono ?_; rintro e w9 ⟨rfl, hb9⟩; have b9 := b8.trans (hb9.mono b8.size); dsimp only))
    all_goals
      (try go_wp2_with (fail))
      go_meet
      exact ⟨rfl, b9⟩
  case rest =>
    obtain ⟨rfl, hb⟩ := hcut
    clear HFEW HOW HSA HSB HVA1 HVB1
    have r0 : RowsAt n₀ W3 TA a := ⟨va, HRA.out, HQA.out⟩
    have r1 : RowsAt n₀ W3 TB b := ⟨vb, HRB.out, HQB.out⟩
    clear hz0 hz1 hz2 hi0
    replace r0 := r0.below hb
    replace r1 := r1.below hb
    replace r5 := r5.below hb
    replace x5 := x5.below hb x5.lt
    replace hw := hw.trans (hb.mono hw.size)
    clear x5c0 x5c1 x5c2 x5c3 x5l
    clear hb
    cases y
    case false =>
      go_wp2
      go_ret
      exact ⟨rfl, hw⟩
    obtain ⟨A, R, c, x, y, ea, eb, eb2, vA, vR, vA2, vR2, vR3, s1, c1, s2, x1, s3, y1, s4⟩ := steps_plain a b
    obtain ⟨hsA, -⟩ := jval_smN vA
    obtain ⟨hsR, -⟩ := jval_smN vR
    have hlA : A.length ≤ 4096 := (jval_smN vA).2
    have hlR : R.length ≤ 4096 := (jval_smN vR).2
    dsimp only at hsA hsR
    have Qea := Lib.hid ea
    have Qeb := Lib.hid eb
    have Qeb2 := Lib.hid eb2
    have QvA := Lib.hid vA
    have QvR := Lib.hid vR
    have QvA2 := Lib.hid vA2
    have QvR2 := Lib.hid vR2
    have QvR3 := Lib.hid vR3
    have Qs1 := Lib.hid s1
    have Qc1 := Lib.hid c1
    have Qs2 := Lib.hid s2
    have Qx1 := Lib.hid x1
    have Qs3 := Lib.hid s3
    have Qy1 := Lib.hid y1
    have Qs4 := Lib.hid s4
    have QhsA := Lib.hid hsA
    have QhsR := Lib.hid hsR
    clear ea eb eb2 vA vR vA2 vR2 vR3 s1 c1 s2 x1 s3 y1 s4 hsA hsR
    obtain ⟨A1, A2⟩ : ∃ k, k = A.length := ⟨_, rfl⟩
    obtain ⟨R1, R2⟩ : ∃ k, k = R.length := ⟨_, rfl⟩
    have HA2 := Lib.hid A2
    have HR2 := Lib.hid R2
    rw [← A2] at hlA
    rw [← R2] at hlR
    clear A2 R2
    have x5c0 := x5.cell 0
    have x5c1 := x5.cell 1
    have x5c2 := x5.cell 2
    have x5c3 := x5.cell 3
    simp only [List.getElem?_toArray, List.getElem?_cons_zero, List.getElem?_cons_succ] at x5c0 x5c1 x5c2 x5c3
    have x5l := x5.lt
    go_wp2_with (fail)
    have K : Calls Try.prog 44 #[.agg #[.slice S5 40 s5, .slice P5 0 p5, .int .i64 (-1), .bool false]] wc (fun e w' => ∃ A c, e = .returned (.tuple #[.agg #[.slice A 0 c, .int .i64 40, .int .i64 0], .int .i64 0]) ∧ Below wc.heap.size wc w') := open_new (Nat.le_trans hn hw.size) r5
    go_at_call 44
    refine K.mono ?_
    rintro e w4 ⟨A8, c8, rfl, hb⟩
    clear K
    replace r0 := r0.below hb
    replace r1 := r1.below hb
    replace r5 := r5.below hb
    replace x5 := x5.below hb x5.lt
    replace hw := hw.trans (hb.mono hw.size)
    clear x5c0 x5c1 x5c2 x5c3 x5l
    clear hb
    go_upto_region 8 with (fail)
    obtain ⟨W5, hW5⟩ : ∃ W, W = w4.alloc (.cells #[.slice A8 0 c8, .int .i64 40, .int .i64 0] 55) := ⟨_, rfl⟩
    rw [← hW5]
    have hb : Below w4.heap.size w4 W5 := by rw [hW5]; exact (Below.refl _ _).alloc (Nat.le_refl _) _
    have x8 : Blk W5 w4.heap.size 55 #[.slice A8 0 c8, .int .i64 40, .int .i64 0] := by rw [hW5]; exact Blk.new w4 55 _
    clear hW5
    replace r0 := r0.below hb
    replace r1 := r1.below hb
    replace r5 := r5.below hb
    replace x5 := x5.below hb x5.lt
    replace hw := hw.trans (hb.mono hw.size)
    clear hb
    have h1 : ∀ W' , Below W5.heap.size W5 W' → Calls Try.prog 56 #[.agg #[.slice A8 0 c8, .int .i64 40, .int .i64 0], .slice TA na ca] W' (fun e w' => ∃ V v, e = .returned (.agg #[.slice V A1 v, .int .i64 40, .int .i64 0]) ∧ A1 ≤ v ∧ RowsAt n₀ w' V A ∧ Below W'.heap.size W' w') := fun W' h => by rw [HA2.out]; exact add_run (n₀ := n₀) (K := []) (l := a) Qea.out (by simp [JVal, usedN_nil]) (Nat.le_trans hn (Nat.le_trans hw.size h.size)) HNA.out (by omega) HAR.out (Nat.zero_le _) (RowsAt.nil _ _) (r0.below h)
    have HC1 := Lib.hid h1
    clear h1
    have h2 : ∀ W' V v, Below W5.heap.size W5 W' → A1 ≤ v → RowsAt n₀ W' V A → Calls Try.prog 56 #[.agg #[.slice V A1 v, .int .i64 40, .int .i64 0], .slice TB nb cb] W' (fun e w' => ∃ V v, e = .returned (.agg #[.slice V R1 v, .int .i64 40, .int .i64 0]) ∧ R1 ≤ v ∧ RowsAt n₀ w' V R ∧ Below W'.heap.size W' w') := fun W' V v h hv hr => by rw [HA2.out] at hv ⊢; rw [HR2.out]; exact add_run (n₀ := n₀) (K := A) (l := b) Qeb.out QvA.out (Nat.le_trans hn (Nat.le_trans hw.size h.size)) HNB.out (by omega) HBR.out hv hr (r1.below h)
    have HC2 := Lib.hid h2
    clear h2
    have h3 : ∀ W' V v, Below W5.heap.size W5 W' → R1 ≤ v → RowsAt n₀ W' V R → Calls Try.prog 53 #[.agg #[.slice V R1 v, .int .i64 40, .int .i64 0], .agg #[.slice S5 40 s5, .slice P5 0 p5, .int .i64 (-1), .bool false]] W' (fun e w' => ∃ A' c' S' s' P' p', e = .returned (.tuple #[.agg #[.slice A' R1 c', .int .i64 40, .int .i64 R1], .agg #[.slice S' 40 s', .slice P' 0 p', .int .i64 (-1), .bool false], .int .i64 0]) ∧ R1 ≤ c' ∧ RowsAt n₀ w' A' R ∧ 40 ≤ s' ∧ RowsAt n₀ w' S' c.secs ∧ Below W'.heap.size W' w') := fun W' V v h hv hr => sync_run (n₀ := n₀) (d := dD40) (y := c) good40 Qc1.out rfl Qs1.out (Nat.le_trans hn (Nat.le_trans hw.size h.size)) QhsR.out HR2.out hv hs5 hr (r5.below h)
    have HC3 := Lib.hid h3
    clear h3
    have x8c0 := x8.cell 0
    have x8c1 := x8.cell 1
    have x8c2 := x8.cell 2
    have x8c3 := x8.cell 3
    simp only [List.getElem?_toArray, List.getElem?_cons_zero, List.getElem?_cons_succ] at x8c0 x8c1 x8c2 x8c3
    have x8l := x8.lt
    have x5c0 := x5.cell 0
    have x5c1 := x5.cell 1
    have x5c2 := x5.cell 2
    have x5c3 := x5.cell 3
    simp only [List.getElem?_toArray, List.getElem?_cons_zero, List.getElem?_cons_succ] at x5c0 x5c1 x5c2 x5c3
    have x5l := x5.lt
    go_upto_region 10 with (fail)
    have hss : ∀ W, Below W5.heap.size W5 W → W.cell? ⟨w4.heap.size, 0, none⟩ = some (.slice A8 0 c8) ∧ W.cell? ⟨w4.heap.size, 1, none⟩ = some (.int .i64 40) ∧ W.cell? ⟨w4.heap.size, 2, none⟩ = some (.int .i64 0) ∧ W.cell? ⟨w2.heap.size, 0, none⟩ = some (.slice S5 40 s5) ∧ W.cell? ⟨w2.heap.size, 1, none⟩ = some (.slice P5 0 p5) ∧ W.cell? ⟨w2.heap.size, 2, none⟩ = some (.int .i64 (-1)) ∧ W.cell? ⟨w2.heap.size, 3, none⟩ = some (.bool false) := fun W h => ⟨(h.cell (p := ⟨w4.heap.size, 0, none⟩) x8l).trans x8c0, (h.cell (p := ⟨w4.heap.size, 1, none⟩) x8l).trans x8c1, (h.cell (p := ⟨w4.heap.size, 2, none⟩) x8l).trans x8c2, (h.cell (p := ⟨w2.heap.size, 0, none⟩) x5l).trans x5c0, (h.cell (p := ⟨w2.heap.size, 1, none⟩) x5l).trans x5c1, (h.cell (p := ⟨w2.heap.size, 2, none⟩) x5l).trans x5c2, (h.cell (p := ⟨w2.heap.size, 3, none⟩) x5l).trans x5c3⟩
    have HSS := Lib.hid hss
    clear hss
    go_cut [10, 11, 12] (fun sa sb sc wx => TwoX n₀ R R1 c W5 sa sb sc wx)
    case first =>
      have hn0 := Nat.le_trans hn hw.size
      refine wp_region_held_drew (S := fun W => W.cell? ⟨w4.heap.size, 0, none⟩ = some (.slice A8 0 c8) ∧ W.cell? ⟨w4.heap.size, 1, none⟩ = some (.int .i64 40) ∧ W.cell? ⟨w4.heap.size, 2, none⟩ = some (.int .i64 0) ∧ W.cell? ⟨w2.heap.size, 0, none⟩ = some (.slice S5 40 s5) ∧ W.cell? ⟨w2.heap.size, 1, none⟩ = some (.slice P5 0 p5) ∧ W.cell? ⟨w2.heap.size, 2, none⟩ = some (.int .i64 (-1)) ∧ W.cell? ⟨w2.heap.size, 3, none⟩ = some (.bool false)) (by kernel_rfl) (HSS.out _ (Below.refl _ _).drew) (fun hHeld => ?_)
      refine tkA 0 o10x0 ?_
      refine tkA 1 o10x1 ?_
      refine tkA 2 o10x2 ?_
      refine tkA 3 o10x3 ?_
      refine tkA 5 o10x5 ?_
      refine tkA 7 o10x7 ?_
      refine intro_states (fun G hG a0 ha => ?_)
      have HG := Lib.hid hG
      have HA := Lib.hid ha
      clear hG ha hHeld
      have HZ3tu : Hid (∀ (W : World) (VA : Option Addr) (vA : Nat) (VB : Option Addr) (vB : Nat) (VS : Option Addr) (vS : Nat) (SS : Option Addr) (sS : Nat) (PS : Option Addr) (pS : Nat) (B : Nat) (D : Nat), Below W5.heap.size W5 W → R1 ≤ vS → RowsAt n₀ W VS R → 40 ≤ sS → RowsAt n₀ W SS c.secs → W5.heap.size ≤ B → Blk W B 55 #[.slice none 0 0, .int .i64 0, .int .i64 0] → W5.heap.size ≤ D → Blk W D 25 #[.slice none 0 0, .slice none 0 0, .int .i64 0, .bool false] → G 3 #[true, true, true, true, true, true, true, true, true, true, true, true, true, true, true, false, false, false] (((((((((a0.put (some 58) (.agg #[.slice VA A1 vA, .int .i64 40, .int .i64 0])).put (some 60) (.agg #[.slice VB R1 vB, .int .i64 40, .int .i64 0])).put (some 62) (.tuple #[.agg #[.slice VS R1 vS, .int .i64 40, .int .i64 R1], .agg #[.slice SS 40 sS, .slice PS 0 pS, .int .i64 (-1), .bool false], .int .i64 0])).put (some 53) (.tuple #[.agg #[.slice VS R1 vS, .int .i64 40, .int .i64 R1], .agg #[.slice SS 40 sS, .slice PS 0 pS, .int .i64 (-1), .bool false], .int .i64 0])).put (some 63) (.agg #[.slice VS R1 vS, .int .i64 40, .int .i64 R1])).put (some 64) (.agg #[.slice SS 40 sS, .slice PS 0 pS, .int .i64 (-1), .bool false])).put (some 65) (.int .i64 0)).put (some 10) (.pointer (some ⟨B, 0, none⟩))).put (some 11) (.pointer (some ⟨D, 0, none⟩))) W) := by
        refine Lib.hid ?_
        intro W VA vA VB vB VS vS SS sS PS pS B D hW hcS rS hsS qS tb t ub u
        rw [HG.out, HA.out]
        simp only [Act.put, List.setIfInBounds_toArray, List.set_cons_zero, List.set_cons_succ]
        have tc0 := t.cell 0
        have tf0 := t.frozen 0
        have tc1 := t.cell 1
        have tf1 := t.frozen 1
        have tc2 := t.cell 2
        have tf2 := t.frozen 2
        simp only [List.getElem?_toArray, List.getElem?_cons_zero, List.getElem?_cons_succ] at tc0 tc1 tc2
        have tl := t.lt
        have uc0 := u.cell 0
        have uf0 := u.frozen 0
        have uc1 := u.cell 1
        have uf1 := u.frozen 1
        have uc2 := u.cell 2
        have uf2 := u.frozen 2
        have uc3 := u.cell 3
        have uf3 := u.frozen 3
        simp only [List.getElem?_toArray, List.getElem?_cons_zero, List.getElem?_cons_succ] at uc0 uc1 uc2 uc3
        have ul := u.lt
        have ne1 := t.ne u (by decide)
        have ne2 := ne1.symm
        refine wpAnyH_ready (rs := [15]) (by kernel_rfl) (by simp) ?_
        refine AllReadyH.cons (o := o10x15) rfl (fun K hK => ?_) AllReadyH.nil
        go_simp
        refine hK.out _ _ ?_ (fun hHeld => ?_)
        · refine HSS.out _ ?_; repeat (first | with_reducible exact hW | with_reducible refine Below.setCell ?_ tb _ | with_reducible refine Below.setCell ?_ ub _)
        clear hK K
        try simp only [List.setIfInBounds_toArray, List.set_cons_zero, List.set_cons_succ]
        refine wpAnyH_ready (rs := [16]) (by kernel_rfl) (by simp) ?_
        refine AllReadyH.cons (o := o10x16) rfl (fun K hK => ?_) AllReadyH.nil
        go_simp
        refine hK.out _ _ ?_ (fun hHeld => ?_)
        · refine HSS.out _ ?_; repeat (first | with_reducible exact hW | with_reducible refine Below.setCell ?_ tb _ | with_reducible refine Below.setCell ?_ ub _)
        clear hK K
        try simp only [List.setIfInBounds_toArray, List.set_cons_zero, List.set_cons_succ]
        refine wpAnyH_ready (rs := [17]) (by kernel_rfl) (by simp) ?_
        refine AllReadyH.cons (o := o10x17) rfl (fun K hK => ?_) AllReadyH.nil
        go_simp
        refine hK.out _ _ ?_ (fun hHeld => ?_)
        · refine HSS.out _ ?_; repeat (first | with_reducible exact hW | with_reducible refine Below.setCell ?_ tb _ | with_reducible refine Below.setCell ?_ ub _)
        clear hK K
        try simp only [List.setIfInBounds_toArray, List.set_cons_zero, List.set_cons_succ]
        refine wpAnyH_done (by kernel_rfl) ?_ _
        (try go_wp2_with (fail))
        go_meet
        exact _root_.Go.Proofs.Ytckeopidedoohaa.tf1 hn0 hW hcS rS hsS qS tb ub t u
      have HZ3t : Hid (∀ (W : World) (VA : Option Addr) (vA : Nat) (VB : Option Addr) (vB : Nat) (VS : Option Addr) (vS : Nat) (SS : Option Addr) (sS : Nat) (PS : Option Addr) (pS : Nat) (B : Nat), Below W5.heap.size W5 W → R1 ≤ vS → RowsAt n₀ W VS R → 40 ≤ sS → RowsAt n₀ W SS c.secs → W5.heap.size ≤ B → Blk W B 55 #[.slice none 0 0, .int .i64 0, .int .i64 0] → G 4 #[true, true, true, true, true, true, true, true, true, true, true, true, true, true, false, false, false, false] ((((((((a0.put (some 58) (.agg #[.slice VA A1 vA, .int .i64 40, .int .i64 0])).put (some 60) (.agg #[.slice VB R1 vB, .int .i64 40, .int .i64 0])).put (some 62) (.tuple #[.agg #[.slice VS R1 vS, .int .i64 40, .int .i64 R1], .agg #[.slice SS 40 sS, .slice PS 0 pS, .int .i64 (-1), .bool false], .int .i64 0])).put (some 53) (.tuple #[.agg #[.slice VS R1 vS, .int .i64 40, .int .i64 R1], .agg #[.slice SS 40 sS, .slice PS 0 pS, .int .i64 (-1), .bool false], .int .i64 0])).put (some 63) (.agg #[.slice VS R1 vS, .int .i64 40, .int .i64 R1])).put (some 64) (.agg #[.slice SS 40 sS, .slice PS 0 pS, .int .i64 (-1), .bool false])).put (some 65) (.int .i64 0)).put (some 10) (.pointer (some ⟨B, 0, none⟩))) W) := by
        refine Lib.hid ?_
        intro W VA vA VB vB VS vS SS sS PS pS B hW hcS rS hsS qS tb t
        rw [HG.out, HA.out]
        simp only [Act.put, List.setIfInBounds_toArray, List.set_cons_zero, List.set_cons_succ]
        refine wpAnyH_ready (rs := [14]) (by kernel_rfl) (by simp) ?_
        refine AllReadyH.cons (o := o10x14) rfl (fun K hK => ?_) ?_
        ·
          go_simp
          refine hK.out _ _ (HSS.out _ (hW.alloc hW.size _)) (fun hHeld => ?_)
          clear hK K
          try simp only [List.setIfInBounds_toArray, List.set_cons_zero, List.set_cons_succ]
          have h9 := HZ3tu.out _ VA vA VB vB VS vS SS sS PS pS B W.heap.size (hW.alloc hW.size _) hcS (rS.below ((Below.refl _ W).alloc (Nat.le_refl _) _)) hsS (qS.below ((Below.refl _ W).alloc (Nat.le_refl _) _)) tb (t.alloc _) hW.size (Blk.new W 25 _)
          rw [HG.out, HA.out] at h9
          simp only [Act.put, List.setIfInBounds_toArray, List.set_cons_zero, List.set_cons_succ] at h9
          exact h9
        exact AllReadyH.nil
      have HZ3u : Hid (∀ (W : World) (VA : Option Addr) (vA : Nat) (VB : Option Addr) (vB : Nat) (VS : Option Addr) (vS : Nat) (SS : Option Addr) (sS : Nat) (PS : Option Addr) (pS : Nat) (D : Nat), Below W5.heap.size W5 W → R1 ≤ vS → RowsAt n₀ W VS R → 40 ≤ sS → RowsAt n₀ W SS c.secs → W5.heap.size ≤ D → Blk W D 25 #[.slice none 0 0, .slice none 0 0, .int .i64 0, .bool false] → G 4 #[true, true, true, true, true, true, true, true, true, true, true, true, true, false, true, false, false, false] ((((((((a0.put (some 58) (.agg #[.slice VA A1 vA, .int .i64 40, .int .i64 0])).put (some 60) (.agg #[.slice VB R1 vB, .int .i64 40, .int .i64 0])).put (some 62) (.tuple #[.agg #[.slice VS R1 vS, .int .i64 40, .int .i64 R1], .agg #[.slice SS 40 sS, .slice PS 0 pS, .int .i64 (-1), .bool false], .int .i64 0])).put (some 53) (.tuple #[.agg #[.slice VS R1 vS, .int .i64 40, .int .i64 R1], .agg #[.slice SS 40 sS, .slice PS 0 pS, .int .i64 (-1), .bool false], .int .i64 0])).put (some 63) (.agg #[.slice VS R1 vS, .int .i64 40, .int .i64 R1])).put (some 64) (.agg #[.slice SS 40 sS, .slice PS 0 pS, .int .i64 (-1), .bool false])).put (some 65) (.int .i64 0)).put (some 11) (.pointer (some ⟨D, 0, none⟩))) W) := by
        refine Lib.hid ?_
        intro W VA vA VB vB VS vS SS sS PS pS D hW hcS rS hsS qS ub u
        rw [HG.out, HA.out]
        simp only [Act.put, List.setIfInBounds_toArray, List.set_cons_zero, List.set_cons_succ]
        refine wpAnyH_ready (rs := [13]) (by kernel_rfl) (by simp) ?_
        refine AllReadyH.cons (o := o10x13) rfl (fun K hK => ?_) ?_
        ·
          go_simp
          refine hK.out _ _ (HSS.out _ (hW.alloc hW.size _)) (fun hHeld => ?_)
          clear hK K
          try simp only [List.setIfInBounds_toArray, List.set_cons_zero, List.set_cons_succ]
          have h9 := HZ3tu.out _ VA vA VB vB VS vS SS sS PS pS W.heap.size D (hW.alloc hW.size _) hcS (rS.below ((Below.refl _ W).alloc (Nat.le_refl _) _)) hsS (qS.below ((Below.refl _ W).alloc (Nat.le_refl _) _)) hW.size (Blk.new W 55 _) ub (u.alloc _)
          rw [HG.out, HA.out] at h9
          simp only [Act.put, List.setIfInBounds_toArray, List.set_cons_zero, List.set_cons_succ] at h9
          exact h9
        exact AllReadyH.nil
      have HZ3 : Hid (∀ (W : World) (VA : Option Addr) (vA : Nat) (VB : Option Addr) (vB : Nat) (VS : Option Addr) (vS : Nat) (SS : Option Addr) (sS : Nat) (PS : Option Addr) (pS : Nat), Below W5.heap.size W5 W → R1 ≤ vS → RowsAt n₀ W VS R → 40 ≤ sS → RowsAt n₀ W SS c.secs → G 5 #[true, true, true, true, true, true, true, true, true, true, true, true, true, false, false, false, false, false] (((((((a0.put (some 58) (.agg #[.slice VA A1 vA, .int .i64 40, .int .i64 0])).put (some 60) (.agg #[.slice VB R1 vB, .int .i64 40, .int .i64 0])).put (some 62) (.tuple #[.agg #[.slice VS R1 vS, .int .i64 40, .int .i64 R1], .agg #[.slice SS 40 sS, .slice PS 0 pS, .int .i64 (-1), .bool false], .int .i64 0])).put (some 53) (.tuple #[.agg #[.slice VS R1 vS, .int .i64 40, .int .i64 R1], .agg #[.slice SS 40 sS, .slice PS 0 pS, .int .i64 (-1), .bool false], .int .i64 0])).put (some 63) (.agg #[.slice VS R1 vS, .int .i64 40, .int .i64 R1])).put (some 64) (.agg #[.slice SS 40 sS, .slice PS 0 pS, .int .i64 (-1), .bool false])).put (some 65) (.int .i64 0)) W) := by
        refine Lib.hid ?_
        intro W VA vA VB vB VS vS SS sS PS pS hW hcS rS hsS qS
        rw [HG.out, HA.out]
        simp only [Act.put, List.setIfInBounds_toArray, List.set_cons_zero, List.set_cons_succ]
        refine wpAnyH_ready (rs := [13, 14]) (by kernel_rfl) (by simp) ?_
        refine AllReadyH.cons (o := o10x13) rfl (fun K hK => ?_) ?_
        ·
          go_simp
          refine hK.out _ _ (HSS.out _ (hW.alloc hW.size _)) (fun hHeld => ?_)
          clear hK K
          try simp only [List.setIfInBounds_toArray, List.set_cons_zero, List.set_cons_succ]
          have h9 := HZ3t.out _ VA vA VB vB VS vS SS sS PS pS W.heap.size (hW.alloc hW.size _) hcS (rS.below ((Below.refl _ W).alloc (Nat.le_refl _) _)) hsS (qS.below ((Below.refl _ W).alloc (Nat.le_refl _) _)) hW.size (Blk.new W 55 _)
          rw [HG.out, HA.out] at h9
          simp only [Act.put, List.setIfInBounds_toArray, List.set_cons_zero, List.set_cons_succ] at h9
          exact h9
        refine AllReadyH.cons (o := o10x14) rfl (fun K hK => ?_) ?_
        ·
          go_simp
          refine hK.out _ _ (HSS.out _ (hW.alloc hW.size _)) (fun hHeld => ?_)
          clear hK K
          try simp only [List.setIfInBounds_toArray, List.set_cons_zero, List.set_cons_succ]
          have h9 := HZ3u.out _ VA vA VB vB VS vS SS sS PS pS W.heap.size (hW.alloc hW.size _) hcS (rS.below ((Below.refl _ W).alloc (Nat.le_refl _) _)) hsS (qS.below ((Below.refl _ W).alloc (Nat.le_refl _) _)) hW.size (Blk.new W 25 _)
          rw [HG.out, HA.out] at h9
          simp only [Act.put, List.setIfInBounds_toArray, List.set_cons_zero, List.set_cons_succ] at h9
          exact h9
        exact AllReadyH.nil
      have HZ2tu : Hid (∀ (W : World) (VA : Option Addr) (vA : Nat) (VB : Option Addr) (vB : Nat) (B : Nat) (D : Nat), Below W5.heap.size W5 W → R1 ≤ vB → RowsAt n₀ W VB R → W5.heap.size ≤ B → Blk W B 55 #[.slice none 0 0, .int .i64 0, .int .i64 0] → W5.heap.size ≤ D → Blk W D 25 #[.slice none 0 0, .slice none 0 0, .int .i64 0, .bool false] → G 8 #[true, true, true, true, true, true, true, true, false, false, false, false, false, true, true, false, false, false] ((((a0.put (some 58) (.agg #[.slice VA A1 vA, .int .i64 40, .int .i64 0])).put (some 60) (.agg #[.slice VB R1 vB, .int .i64 40, .int .i64 0])).put (some 10) (.pointer (some ⟨B, 0, none⟩))).put (some 11) (.pointer (some ⟨D, 0, none⟩))) W) := by
        refine Lib.hid ?_
        intro W VA vA VB vB B D hW hcB rB tb t ub u
        rw [HG.out, HA.out]
        simp only [Act.put, List.setIfInBounds_toArray, List.set_cons_zero, List.set_cons_succ]
        refine wpAnyH_ready (rs := [8]) (by kernel_rfl) (by simp) ?_
        refine AllReadyH.cons (o := o10x8) rfl (fun K hK => ?_) ?_
        ·
          go_simp
          go_at_call 53
          refine ((HC3.out _ _ _ hW hcB rB)).mono ?_
          rintro e W9 ⟨VS, vS, SS, sS, PS, pS, rfl, hcS, rS, hsS, qS, hb9⟩
          have hW9 := hW.trans (hb9.mono hW.size)
          refine hK.out _ _ (HSS.out _ hW9) (fun hHeld => ?_)
          clear hK K
          try simp only [List.setIfInBounds_toArray, List.set_cons_zero, List.set_cons_succ]
          refine tkA 9 o10x9 ?_
          refine tkA 10 o10x10 ?_
          refine tkA 11 o10x11 ?_
          refine tkA 12 o10x12 ?_
          have h9 := HZ3tu.out W9 VA vA VB vB VS vS SS sS PS pS B D hW9 hcS rS hsS qS tb (t.below hb9 t.lt) ub (u.below hb9 u.lt)
          rw [HG.out, HA.out] at h9
          simp only [Act.put, List.setIfInBounds_toArray, List.set_cons_zero, List.set_cons_succ] at h9
          exact h9
        exact AllReadyH.nil
      have HZ2t : Hid (∀ (W : World) (VA : Option Addr) (vA : Nat) (VB : Option Addr) (vB : Nat) (B : Nat), Below W5.heap.size W5 W → R1 ≤ vB → RowsAt n₀ W VB R → W5.heap.size ≤ B → Blk W B 55 #[.slice none 0 0, .int .i64 0, .int .i64 0] → G 9 #[true, true, true, true, true, true, true, true, false, false, false, false, false, true, false, false, false, false] (((a0.put (some 58) (.agg #[.slice VA A1 vA, .int .i64 40, .int .i64 0])).put (some 60) (.agg #[.slice VB R1 vB, .int .i64 40, .int .i64 0])).put (some 10) (.pointer (some ⟨B, 0, none⟩))) W) := by
        refine Lib.hid ?_
        intro W VA vA VB vB B hW hcB rB tb t
        rw [HG.out, HA.out]
        simp only [Act.put, List.setIfInBounds_toArray, List.set_cons_zero, List.set_cons_succ]
        refine wpAnyH_ready (rs := [8, 14]) (by kernel_rfl) (by simp) ?_
        refine AllReadyH.cons (o := o10x8) rfl (fun K hK => ?_) ?_
        ·
          go_simp
          go_at_call 53
          refine ((HC3.out _ _ _ hW hcB rB)).mono ?_
          rintro e W9 ⟨VS, vS, SS, sS, PS, pS, rfl, hcS, rS, hsS, qS, hb9⟩
          have hW9 := hW.trans (hb9.mono hW.size)
          refine hK.out _ _ (HSS.out _ hW9) (fun hHeld => ?_)
          clear hK K
          try simp only [List.setIfInBounds_toArray, List.set_cons_zero, List.set_cons_succ]
          refine tkA 9 o10x9 ?_
          refine tkA 10 o10x10 ?_
          refine tkA 11 o10x11 ?_
          refine tkA 12 o10x12 ?_
          have h9 := HZ3t.out W9 VA vA VB vB VS vS SS sS PS pS B hW9 hcS rS hsS qS tb (t.below hb9 t.lt)
          rw [HG.out, HA.out] at h9
          simp only [Act.put, List.setIfInBounds_toArray, List.set_cons_zero, List.set_cons_succ] at h9
          exact h9
        refine AllReadyH.cons (o := o10x14) rfl (fun K hK => ?_) ?_
        ·
          go_simp
          refine hK.out _ _ (HSS.out _ (hW.alloc hW.size _)) (fun hHeld => ?_)
          clear hK K
          try simp only [List.setIfInBounds_toArray, List.set_cons_zero, List.set_cons_succ]
          have h9 := HZ2tu.out _ VA vA VB vB B W.heap.size (hW.alloc hW.size _) hcB (rB.below ((Below.refl _ W).alloc (Nat.le_refl _) _)) tb (t.alloc _) hW.size (Blk.new W 25 _)
          rw [HG.out, HA.out] at h9
          simp only [Act.put, List.setIfInBounds_toArray, List.set_cons_zero, List.set_cons_succ] at h9
          exact h9
        exact AllReadyH.nil
      have HZ2u : Hid (∀ (W : World) (VA : Option Addr) (vA : Nat) (VB : Option Addr) (vB : Nat) (D : Nat), Below W5.heap.size W5 W → R1 ≤ vB → RowsAt n₀ W VB R → W5.heap.size ≤ D → Blk W D 25 #[.slice none 0 0, .slice none 0 0, .int .i64 0, .bool false] → G 9 #[true, true, true, true, true, true, true, true, false, false, false, false, false, false, true, false, false, false] (((a0.put (some 58) (.agg #[.slice VA A1 vA, .int .i64 40, .int .i64 0])).put (some 60) (.agg #[.slice VB R1 vB, .int .i64 40, .int .i64 0])).put (some 11) (.pointer (some ⟨D, 0, none⟩))) W) := by
        refine Lib.hid ?_
        intro W VA vA VB vB D hW hcB rB ub u
        rw [HG.out, HA.out]
        simp only [Act.put, List.setIfInBounds_toArray, List.set_cons_zero, List.set_cons_succ]
        refine wpAnyH_ready (rs := [8, 13]) (by kernel_rfl) (by simp) ?_
        refine AllReadyH.cons (o := o10x8) rfl (fun K hK => ?_) ?_
        ·
          go_simp
          go_at_call 53
          refine ((HC3.out _ _ _ hW hcB rB)).mono ?_
          rintro e W9 ⟨VS, vS, SS, sS, PS, pS, rfl, hcS, rS, hsS, qS, hb9⟩
          have hW9 := hW.trans (hb9.mono hW.size)
          refine hK.out _ _ (HSS.out _ hW9) (fun hHeld => ?_)
          clear hK K
          try simp only [List.setIfInBounds_toArray, List.set_cons_zero, List.set_cons_succ]
          refine tkA 9 o10x9 ?_
          refine tkA 10 o10x10 ?_
          refine tkA 11 o10x11 ?_
          refine tkA 12 o10x12 ?_
          have h9 := HZ3u.out W9 VA vA VB vB VS vS SS sS PS pS D hW9 hcS rS hsS qS ub (u.below hb9 u.lt)
          rw [HG.out, HA.out] at h9
          simp only [Act.put, List.setIfInBounds_toArray, List.set_cons_zero, List.set_cons_succ] at h9
          exact h9
        refine AllReadyH.cons (o := o10x13) rfl (fun K hK => ?_) ?_
        ·
          go_simp
          refine hK.out _ _ (HSS.out _ (hW.alloc hW.size _)) (fun hHeld => ?_)
          clear hK K
          try simp only [List.setIfInBounds_toArray, List.set_cons_zero, List.set_cons_succ]
          have h9 := HZ2tu.out _ VA vA VB vB W.heap.size D (hW.alloc hW.size _) hcB (rB.below ((Below.refl _ W).alloc (Nat.le_refl _) _)) hW.size (Blk.new W 55 _) ub (u.alloc _)
          rw [HG.out, HA.out] at h9
          simp only [Act.put, List.setIfInBounds_toArray, List.set_cons_zero, List.set_cons_succ] at h9
          exact h9
        exact AllReadyH.nil
      have HZ2 : Hid (∀ (W : World) (VA : Option Addr) (vA : Nat) (VB : Option Addr) (vB : Nat), Below W5.heap.size W5 W → R1 ≤ vB → RowsAt n₀ W VB R → G 10 #[true, true, true, true, true, true, true, true, false, false, false, false, false, false, false, false, false, false] ((a0.put (some 58) (.agg #[.slice VA A1 vA, .int .i64 40, .int .i64 0])).put (some 60) (.agg #[.slice VB R1 vB, .int .i64 40, .int .i64 0])) W) := by
        refine Lib.hid ?_
        intro W VA vA VB vB hW hcB rB
        rw [HG.out, HA.out]
        simp only [Act.put, List.setIfInBounds_toArray, List.set_cons_zero, List.set_cons_succ]
        refine wpAnyH_ready (rs := [8, 13, 14]) (by kernel_rfl) (by simp) ?_
        refine AllReadyH.cons (o := o10x8) rfl (fun K hK => ?_) ?_
        ·
          go_simp
          go_at_call 53
          refine ((HC3.out _ _ _ hW hcB rB)).mono ?_
          rintro e W9 ⟨VS, vS, SS, sS, PS, pS, rfl, hcS, rS, hsS, qS, hb9⟩
          have hW9 := hW.trans (hb9.mono hW.size)
          refine hK.out _ _ (HSS.out _ hW9) (fun hHeld => ?_)
          clear hK K
          try simp only [List.setIfInBounds_toArray, List.set_cons_zero, List.set_cons_succ]
          refine tkA 9 o10x9 ?_
          refine tkA 10 o10x10 ?_
          refine tkA 11 o10x11 ?_
          refine tkA 12 o10x12 ?_
          have h9 := HZ3.out W9 VA vA VB vB VS vS SS sS PS pS hW9 hcS rS hsS qS
          rw [HG.out, HA.out] at h9
          simp only [Act.put, List.setIfInBounds_toArray, List.set_cons_zero, List.set_cons_succ] at h9
          exact h9
        refine AllReadyH.cons (o := o10x13) rfl (fun K hK => ?_) ?_
        ·
          go_simp
          refine hK.out _ _ (HSS.out _ (hW.alloc hW.size _)) (fun hHeld => ?_)
          clear hK K
          try simp only [List.setIfInBounds_toArray, List.set_cons_zero, List.set_cons_succ]
          have h9 := HZ2t.out _ VA vA VB vB W.heap.size (hW.alloc hW.size _) hcB (rB.below ((Below.refl _ W).alloc (Nat.le_refl _) _)) hW.size (Blk.new W 55 _)
          rw [HG.out, HA.out] at h9
          simp only [Act.put, List.setIfInBounds_toArray, List.set_cons_zero, List.set_cons_succ] at h9
          exact h9
        refine AllReadyH.cons (o := o10x14) rfl (fun K hK => ?_) ?_
        ·
          go_simp
          refine hK.out _ _ (HSS.out _ (hW.alloc hW.size _)) (fun hHeld => ?_)
          clear hK K
          try simp only [List.setIfInBounds_toArray, List.set_cons_zero, List.set_cons_succ]
          have h9 := HZ2u.out _ VA vA VB vB W.heap.size (hW.alloc hW.size _) hcB (rB.below ((Below.refl _ W).alloc (Nat.le_refl _) _)) hW.size (Blk.new W 25 _)
          rw [HG.out, HA.out] at h9
          simp only [Act.put, List.setIfInBounds_toArray, List.set_cons_zero, List.set_cons_succ] at h9
          exact h9
        exact AllReadyH.nil
      have HZ1tu : Hid (∀ (W : World) (VA : Option Addr) (vA : Nat) (B : Nat) (D : Nat), Below W5.heap.size W5 W → A1 ≤ vA → RowsAt n₀ W VA A → W5.heap.size ≤ B → Blk W B 55 #[.slice none 0 0, .int .i64 0, .int .i64 0] → W5.heap.size ≤ D → Blk W D 25 #[.slice none 0 0, .slice none 0 0, .int .i64 0, .bool false] → G 9 #[true, true, true, true, true, true, false, true, false, false, false, false, false, true, true, false, false, false] (((a0.put (some 58) (.agg #[.slice VA A1 vA, .int .i64 40, .int .i64 0])).put (some 10) (.pointer (some ⟨B, 0, none⟩))).put (some 11) (.pointer (some ⟨D, 0, none⟩))) W) := by
        refine Lib.hid ?_
        intro W VA vA B D hW hcA rA tb t ub u
        rw [HG.out, HA.out]
        simp only [Act.put, List.setIfInBounds_toArray, List.set_cons_zero, List.set_cons_succ]
        refine wpAnyH_ready (rs := [6]) (by kernel_rfl) (by simp) ?_
        refine AllReadyH.cons (o := o10x6) rfl (fun K hK => ?_) ?_
        ·
          go_simp
          go_at_call 56
          refine ((HC2.out _ _ _ hW hcA rA)).mono ?_
          rintro e W9 ⟨VB, vB, rfl, hcB, rB, hb9⟩
          have hW9 := hW.trans (hb9.mono hW.size)
          refine hK.out _ _ (HSS.out _ hW9) (fun hHeld => ?_)
          clear hK K
          try simp only [List.setIfInBounds_toArray, List.set_cons_zero, List.set_cons_succ]
          have h9 := HZ2tu.out W9 VA vA VB vB B D hW9 hcB rB tb (t.below hb9 t.lt) ub (u.below hb9 u.lt)
          rw [HG.out, HA.out] at h9
          simp only [Act.put, List.setIfInBounds_toArray, List.set_cons_zero, List.set_cons_succ] at h9
          exact h9
        exact AllReadyH.nil
      have HZ1t : Hid (∀ (W : World) (VA : Option Addr) (vA : Nat) (B : Nat), Below W5.heap.size W5 W → A1 ≤ vA → RowsAt n₀ W VA A → W5.heap.size ≤ B → Blk W B 55 #[.slice none 0 0, .int .i64 0, .int .i64 0] → G 10 #[true, true, true, true, true, true, false, true, false, false, false, false, false, true, false, false, false, false] ((a0.put (some 58) (.agg #[.slice VA A1 vA, .int .i64 40, .int .i64 0])).put (some 10) (.pointer (some ⟨B, 0, none⟩))) W) := by
        refine Lib.hid ?_
        intro W VA vA B hW hcA rA tb t
        rw [HG.out, HA.out]
        simp only [Act.put, List.setIfInBounds_toArray, List.set_cons_zero, List.set_cons_succ]
        refine wpAnyH_ready (rs := [6, 14]) (by kernel_rfl) (by simp) ?_
        refine AllReadyH.cons (o := o10x6) rfl (fun K hK => ?_) ?_
        ·
          go_simp
          go_at_call 56
          refine ((HC2.out _ _ _ hW hcA rA)).mono ?_
          rintro e W9 ⟨VB, vB, rfl, hcB, rB, hb9⟩
          have hW9 := hW.trans (hb9.mono hW.size)
          refine hK.out _ _ (HSS.out _ hW9) (fun hHeld => ?_)
          clear hK K
          try simp only [List.setIfInBounds_toArray, List.set_cons_zero, List.set_cons_succ]
          have h9 := HZ2t.out W9 VA vA VB vB B hW9 hcB rB tb (t.below hb9 t.lt)
          rw [HG.out, HA.out] at h9
          simp only [Act.put, List.setIfInBounds_toArray, List.set_cons_zero, List.set_cons_succ] at h9
          exact h9
        refine AllReadyH.cons (o := o10x14) rfl (fun K hK => ?_) ?_
        ·
          go_simp
          refine hK.out _ _ (HSS.out _ (hW.alloc hW.size _)) (fun hHeld => ?_)
          clear hK K
          try simp only [List.setIfInBounds_toArray, List.set_cons_zero, List.set_cons_succ]
          have h9 := HZ1tu.out _ VA vA B W.heap.size (hW.alloc hW.size _) hcA (rA.below ((Below.refl _ W).alloc (Nat.le_refl _) _)) tb (t.alloc _) hW.size (Blk.new W 25 _)
          rw [HG.out, HA.out] at h9
          simp only [Act.put, List.setIfInBounds_toArray, List.set_cons_zero, List.set_cons_succ] at h9
          exact h9
        exact AllReadyH.nil
      have HZ1u : Hid (∀ (W : World) (VA : Option Addr) (vA : Nat) (D : Nat), Below W5.heap.size W5 W → A1 ≤ vA → RowsAt n₀ W VA A → W5.heap.size ≤ D → Blk W D 25 #[.slice none 0 0, .slice none 0 0, .int .i64 0, .bool false] → G 10 #[true, true, true, true, true, true, false, true, false, false, false, false, false, false, true, false, false, false] ((a0.put (some 58) (.agg #[.slice VA A1 vA, .int .i64 40, .int .i64 0])).put (some 11) (.pointer (some ⟨D, 0, none⟩))) W) := by
        refine Lib.hid ?_
        intro W VA vA D hW hcA rA ub u
        rw [HG.out, HA.out]
        simp only [Act.put, List.setIfInBounds_toArray, List.set_cons_zero, List.set_cons_succ]
        refine wpAnyH_ready (rs := [6, 13]) (by kernel_rfl) (by simp) ?_
        refine AllReadyH.cons (o := o10x6) rfl (fun K hK => ?_) ?_
        ·
          go_simp
          go_at_call 56
          refine ((HC2.out _ _ _ hW hcA rA)).mono ?_
          rintro e W9 ⟨VB, vB, rfl, hcB, rB, hb9⟩
          have hW9 := hW.trans (hb9.mono hW.size)
          refine hK.out _ _ (HSS.out _ hW9) (fun hHeld => ?_)
          clear hK K
          try simp only [List.setIfInBounds_toArray, List.set_cons_zero, List.set_cons_succ]
          have h9 := HZ2u.out W9 VA vA VB vB D hW9 hcB rB ub (u.below hb9 u.lt)
          rw [HG.out, HA.out] at h9
          simp only [Act.put, List.setIfInBounds_toArray, List.set_cons_zero, List.set_cons_succ] at h9
          exact h9
        refine AllReadyH.cons (o := o10x13) rfl (fun K hK => ?_) ?_
        ·
          go_simp
          refine hK.out _ _ (HSS.out _ (hW.alloc hW.size _)) (fun hHeld => ?_)
          clear hK K
          try simp only [List.setIfInBounds_toArray, List.set_cons_zero, List.set_cons_succ]
          have h9 := HZ1tu.out _ VA vA W.heap.size D (hW.alloc hW.size _) hcA (rA.below ((Below.refl _ W).alloc (Nat.le_refl _) _)) hW.size (Blk.new W 55 _) ub (u.alloc _)
          rw [HG.out, HA.out] at h9
          simp only [Act.put, List.setIfInBounds_toArray, List.set_cons_zero, List.set_cons_succ] at h9
          exact h9
        exact AllReadyH.nil
      have HZ1 : Hid (∀ (W : World) (VA : Option Addr) (vA : Nat), Below W5.heap.size W5 W → A1 ≤ vA → RowsAt n₀ W VA A → G 11 #[true, true, true, true, true, true, false, true, false, false, false, false, false, false, false, false, false, false] (a0.put (some 58) (.agg #[.slice VA A1 vA, .int .i64 40, .int .i64 0])) W) := by
        refine Lib.hid ?_
        intro W VA vA hW hcA rA
        rw [HG.out, HA.out]
        simp only [Act.put, List.setIfInBounds_toArray, List.set_cons_zero, List.set_cons_succ]
        refine wpAnyH_ready (rs := [6, 13, 14]) (by kernel_rfl) (by simp) ?_
        refine AllReadyH.cons (o := o10x6) rfl (fun K hK => ?_) ?_
        ·
          go_simp
          go_at_call 56
          refine ((HC2.out _ _ _ hW hcA rA)).mono ?_
          rintro e W9 ⟨VB, vB, rfl, hcB, rB, hb9⟩
          have hW9 := hW.trans (hb9.mono hW.size)
          refine hK.out _ _ (HSS.out _ hW9) (fun hHeld => ?_)
          clear hK K
          try simp only [List.setIfInBounds_toArray, List.set_cons_zero, List.set_cons_succ]
          have h9 := HZ2.out W9 VA vA VB vB hW9 hcB rB
          rw [HG.out, HA.out] at h9
          simp only [Act.put, List.setIfInBounds_toArray, List.set_cons_zero, List.set_cons_succ] at h9
          exact h9
        refine AllReadyH.cons (o := o10x13) rfl (fun K hK => ?_) ?_
        ·
          go_simp
          refine hK.out _ _ (HSS.out _ (hW.alloc hW.size _)) (fun hHeld => ?_)
          clear hK K
          try simp only [List.setIfInBounds_toArray, List.set_cons_zero, List.set_cons_succ]
          have h9 := HZ1t.out _ VA vA W.heap.size (hW.alloc hW.size _) hcA (rA.below ((Below.refl _ W).alloc (Nat.le_refl _) _)) hW.size (Blk.new W 55 _)
          rw [HG.out, HA.out] at h9
          simp only [Act.put, List.setIfInBounds_toArray, List.set_cons_zero, List.set_cons_succ] at h9
          exact h9
        refine AllReadyH.cons (o := o10x14) rfl (fun K hK => ?_) ?_
        ·
          go_simp
          refine hK.out _ _ (HSS.out _ (hW.alloc hW.size _)) (fun hHeld => ?_)
          clear hK K
          try simp only [List.setIfInBounds_toArray, List.set_cons_zero, List.set_cons_succ]
          have h9 := HZ1u.out _ VA vA W.heap.size (hW.alloc hW.size _) hcA (rA.below ((Below.refl _ W).alloc (Nat.le_refl _) _)) hW.size (Blk.new W 25 _)
          rw [HG.out, HA.out] at h9
          simp only [Act.put, List.setIfInBounds_toArray, List.set_cons_zero, List.set_cons_succ] at h9
          exact h9
        exact AllReadyH.nil
      have HZ0tu : Hid (∀ (W : World) (B : Nat) (D : Nat), Below W5.heap.size W5 W → W5.heap.size ≤ B → Blk W B 55 #[.slice none 0 0, .int .i64 0, .int .i64 0] → W5.heap.size ≤ D → Blk W D 25 #[.slice none 0 0, .slice none 0 0, .int .i64 0, .bool false] → G 10 #[true, true, true, true, false, true, false, true, false, false, false, false, false, true, true, false, false, false] ((a0.put (some 10) (.pointer (some ⟨B, 0, none⟩))).put (some 11) (.pointer (some ⟨D, 0, none⟩))) W) := by
        refine Lib.hid ?_
        intro W B D hW tb t ub u
        rw [HG.out, HA.out]
        simp only [Act.put, List.setIfInBounds_toArray, List.set_cons_zero, List.set_cons_succ]
        refine wpAnyH_ready (rs := [4]) (by kernel_rfl) (by simp) ?_
        refine AllReadyH.cons (o := o10x4) rfl (fun K hK => ?_) ?_
        ·
          go_simp
          go_at_call 56
          refine ((HC1.out _ hW)).mono ?_
          rintro e W9 ⟨VA, vA, rfl, hcA, rA, hb9⟩
          have hW9 := hW.trans (hb9.mono hW.size)
          refine hK.out _ _ (HSS.out _ hW9) (fun hHeld => ?_)
          clear hK K
          try simp only [List.setIfInBounds_toArray, List.set_cons_zero, List.set_cons_succ]
          have h9 := HZ1tu.out W9 VA vA B D hW9 hcA rA tb (t.below hb9 t.lt) ub (u.below hb9 u.lt)
          rw [HG.out, HA.out] at h9
          simp only [Act.put, List.setIfInBounds_toArray, List.set_cons_zero, List.set_cons_succ] at h9
          exact h9
        exact AllReadyH.nil
      have HZ0t : Hid (∀ (W : World) (B : Nat), Below W5.heap.size W5 W → W5.heap.size ≤ B → Blk W B 55 #[.slice none 0 0, .int .i64 0, .int .i64 0] → G 11 #[true, true, true, true, false, true, false, true, false, false, false, false, false, true, false, false, false, false] (a0.put (some 10) (.pointer (some ⟨B, 0, none⟩))) W) := by
        refine Lib.hid ?_
        intro W B hW tb t
        rw [HG.out, HA.out]
        simp only [Act.put, List.setIfInBounds_toArray, List.set_cons_zero, List.set_cons_succ]
        refine wpAnyH_ready (rs := [4, 14]) (by kernel_rfl) (by simp) ?_
        refine AllReadyH.cons (o := o10x4) rfl (fun K hK => ?_) ?_
        ·
          go_simp
          go_at_call 56
          refine ((HC1.out _ hW)).mono ?_
          rintro e W9 ⟨VA, vA, rfl, hcA, rA, hb9⟩
          have hW9 := hW.trans (hb9.mono hW.size)
          refine hK.out _ _ (HSS.out _ hW9) (fun hHeld => ?_)
          clear hK K
          try simp only [List.setIfInBounds_toArray, List.set_cons_zero, List.set_cons_succ]
          have h9 := HZ1t.out W9 VA vA B hW9 hcA rA tb (t.below hb9 t.lt)
          rw [HG.out, HA.out] at h9
          simp only [Act.put, List.setIfInBounds_toArray, List.set_cons_zero, List.set_cons_succ] at h9
          exact h9
        refine AllReadyH.cons (o := o10x14) rfl (fun K hK => ?_) ?_
        ·
          go_simp
          refine hK.out _ _ (HSS.out _ (hW.alloc hW.size _)) (fun hHeld => ?_)
          clear hK K
          try simp only [List.setIfInBounds_toArray, List.set_cons_zero, List.set_cons_succ]
          have h9 := HZ0tu.out _ B W.heap.size (hW.alloc hW.size _) tb (t.alloc _) hW.size (Blk.new W 25 _)
          rw [HG.out, HA.out] at h9
          simp only [Act.put, List.setIfInBounds_toArray, List.set_cons_zero, List.set_cons_succ] at h9
          exact h9
        exact AllReadyH.nil
      have HZ0u : Hid (∀ (W : World) (D : Nat), Below W5.heap.size W5 W → W5.heap.size ≤ D → Blk W D 25 #[.slice none 0 0, .slice none 0 0, .int .i64 0, .bool false] → G 11 #[true, true, true, true, false, true, false, true, false, false, false, false, false, false, true, false, false, false] (a0.put (some 11) (.pointer (some ⟨D, 0, none⟩))) W) := by
        refine Lib.hid ?_
        intro W D hW ub u
        rw [HG.out, HA.out]
        simp only [Act.put, List.setIfInBounds_toArray, List.set_cons_zero, List.set_cons_succ]
        refine wpAnyH_ready (rs := [4, 13]) (by kernel_rfl) (by simp) ?_
        refine AllReadyH.cons (o := o10x4) rfl (fun K hK => ?_) ?_
        ·
          go_simp
          go_at_call 56
          refine ((HC1.out _ hW)).mono ?_
          rintro e W9 ⟨VA, vA, rfl, hcA, rA, hb9⟩
          have hW9 := hW.trans (hb9.mono hW.size)
          refine hK.out _ _ (HSS.out _ hW9) (fun hHeld => ?_)
          clear hK K
          try simp only [List.setIfInBounds_toArray, List.set_cons_zero, List.set_cons_succ]
          have h9 := HZ1u.out W9 VA vA D hW9 hcA rA ub (u.below hb9 u.lt)
          rw [HG.out, HA.out] at h9
          simp only [Act.put, List.setIfInBounds_toArray, List.set_cons_zero, List.set_cons_succ] at h9
          exact h9
        refine AllReadyH.cons (o := o10x13) rfl (fun K hK => ?_) ?_
        ·
          go_simp
          refine hK.out _ _ (HSS.out _ (hW.alloc hW.size _)) (fun hHeld => ?_)
          clear hK K
          try simp only [List.setIfInBounds_toArray, List.set_cons_zero, List.set_cons_succ]
          have h9 := HZ0tu.out _ W.heap.size D (hW.alloc hW.size _) hW.size (Blk.new W 55 _) ub (u.alloc _)
          rw [HG.out, HA.out] at h9
          simp only [Act.put, List.setIfInBounds_toArray, List.set_cons_zero, List.set_cons_succ] at h9
          exact h9
        exact AllReadyH.nil
      have HZ0 : Hid (∀ (W : World), Below W5.heap.size W5 W → G 12 #[true, true, true, true, false, true, false, true, false, false, false, false, false, false, false, false, false, false] a0 W) := by
        refine Lib.hid ?_
        intro W  hW
        rw [HG.out, HA.out]
        try simp only [Act.put, List.setIfInBounds_toArray, List.set_cons_zero, List.set_cons_succ]
        refine wpAnyH_ready (rs := [4, 13, 14]) (by kernel_rfl) (by simp) ?_
        refine AllReadyH.cons (o := o10x4) rfl (fun K hK => ?_) ?_
        ·
          go_simp
          go_at_call 56
          refine ((HC1.out _ hW)).mono ?_
          rintro e W9 ⟨VA, vA, rfl, hcA, rA, hb9⟩
          have hW9 := hW.trans (hb9.mono hW.size)
          refine hK.out _ _ (HSS.out _ hW9) (fun hHeld => ?_)
          clear hK K
          try simp only [List.setIfInBounds_toArray, List.set_cons_zero, List.set_cons_succ]
          have h9 := HZ1.out W9 VA vA hW9 hcA rA
          rw [HG.out, HA.out] at h9
          simp only [Act.put, List.setIfInBounds_toArray, List.set_cons_zero, List.set_cons_succ] at h9
          exact h9
        refine AllReadyH.cons (o := o10x13) rfl (fun K hK => ?_) ?_
        ·
          go_simp
          refine hK.out _ _ (HSS.out _ (hW.alloc hW.size _)) (fun hHeld => ?_)
          clear hK K
          try simp only [List.setIfInBounds_toArray, List.set_cons_zero, List.set_cons_succ]
          have h9 := HZ0t.out _ W.heap.size (hW.alloc hW.size _) hW.size (Blk.new W 55 _)
          rw [HG.out, HA.out] at h9
          simp only [Act.put, List.setIfInBounds_toArray, List.set_cons_zero, List.set_cons_succ] at h9
          exact h9
        refine AllReadyH.cons (o := o10x14) rfl (fun K hK => ?_) ?_
        ·
          go_simp
          refine hK.out _ _ (HSS.out _ (hW.alloc hW.size _)) (fun hHeld => ?_)
          clear hK K
          try simp only [List.setIfInBounds_toArray, List.set_cons_zero, List.set_cons_succ]
          have h9 := HZ0u.out _ W.heap.size (hW.alloc hW.size _) hW.size (Blk.new W 25 _)
          rw [HG.out, HA.out] at h9
          simp only [Act.put, List.setIfInBounds_toArray, List.set_cons_zero, List.set_cons_succ] at h9
          exact h9
        exact AllReadyH.nil
      exact HZ0.out _ (Below.refl _ _).drew
    case rest =>
      obtain ⟨BE, DE, AE, cE, S11, s11, P11, p11, rfl, rfl, rfl, hBE, hDE, x10, x11, hcE, r10, hs11, r11, hb⟩ := hcut
      clear HC1 HC2 HC3 HSS
      replace r0 := r0.below hb
      replace r1 := r1.below hb
      replace r5 := r5.below hb
      replace x5 := x5.below hb x5.lt
      replace x8 := x8.below hb x8.lt
      replace hw := hw.trans (hb.mono hw.size)
      clear x8c0 x8c1 x8c2 x8c3 x8l x5c0 x5c1 x5c2 x5c3 x5l
      clear hb
      obtain ⟨W10, hW10⟩ : ∃ W, W = wc := ⟨_, rfl⟩
      subst hW10
      have h1 : ∀ W' , Below W10.heap.size W10 W' → Calls Try.prog 56 #[.agg #[.slice A8 0 c8, .int .i64 40, .int .i64 0], .slice TA na ca] W' (fun e w' => ∃ V v, e = .returned (.agg #[.slice V A1 v, .int .i64 40, .int .i64 0]) ∧ A1 ≤ v ∧ RowsAt n₀ w' V A ∧ Below W'.heap.size W' w') := fun W' h => by rw [HA2.out]; exact add_run (n₀ := n₀) (K := []) (l := a) Qea.out (by simp [JVal, usedN_nil]) (Nat.le_trans hn (Nat.le_trans hw.size h.size)) HNA.out (by omega) HAR.out (Nat.zero_le _) (RowsAt.nil _ _) (r0.below h)
      have HC1 := Lib.hid h1
      clear h1
      have h3 : ∀ W' V v, Below W10.heap.size W10 W' → A1 ≤ v → RowsAt n₀ W' V A → Calls Try.prog 53 #[.agg #[.slice V A1 v, .int .i64 40, .int .i64 0], .agg #[.slice S5 40 s5, .slice P5 0 p5, .int .i64 (-1), .bool false]] W' (fun e w' => ∃ A' c' S' s' P' p', e = .returned (.tuple #[.agg #[.slice A' A1 c', .int .i64 40, .int .i64 A1], .agg #[.slice S' 40 s', .slice P' 0 p', .int .i64 (-1), .bool false], .int .i64 0]) ∧ A1 ≤ c' ∧ RowsAt n₀ w' A' A ∧ 40 ≤ s' ∧ RowsAt n₀ w' S' x.secs ∧ Below W'.heap.size W' w') := fun W' V v h hv hr => sync_run (n₀ := n₀) (d := dD40) (y := x) good40 Qx1.out rfl Qs2.out (Nat.le_trans hn (Nat.le_trans hw.size h.size)) QhsA.out HA2.out hv hs5 hr (r5.below h)
      have HC3 := Lib.hid h3
      clear h3
      have x8c0 := x8.cell 0
      have x8c1 := x8.cell 1
      have x8c2 := x8.cell 2
      have x8c3 := x8.cell 3
      simp only [List.getElem?_toArray, List.getElem?_cons_zero, List.getElem?_cons_succ] at x8c0 x8c1 x8c2 x8c3
      have x8l := x8.lt
      have x5c0 := x5.cell 0
      have x5c1 := x5.cell 1
      have x5c2 := x5.cell 2
      have x5c3 := x5.cell 3
      simp only [List.getElem?_toArray, List.getElem?_cons_zero, List.getElem?_cons_succ] at x5c0 x5c1 x5c2 x5c3
      have x5l := x5.lt
      go_upto_region 11 with (fail)
      have hss : ∀ W, Below W10.heap.size W10 W → W.cell? ⟨w4.heap.size, 0, none⟩ = some (.slice A8 0 c8) ∧ W.cell? ⟨w4.heap.size, 1, none⟩ = some (.int .i64 40) ∧ W.cell? ⟨w4.heap.size, 2, none⟩ = some (.int .i64 0) ∧ W.cell? ⟨w2.heap.size, 0, none⟩ = some (.slice S5 40 s5) ∧ W.cell? ⟨w2.heap.size, 1, none⟩ = some (.slice P5 0 p5) ∧ W.cell? ⟨w2.heap.size, 2, none⟩ = some (.int .i64 (-1)) ∧ W.cell? ⟨w2.heap.size, 3, none⟩ = some (.bool false) := fun W h => ⟨(h.cell (p := ⟨w4.heap.size, 0, none⟩) x8l).trans x8c0, (h.cell (p := ⟨w4.heap.size, 1, none⟩) x8l).trans x8c1, (h.cell (p := ⟨w4.heap.size, 2, none⟩) x8l).trans x8c2, (h.cell (p := ⟨w2.heap.size, 0, none⟩) x5l).trans x5c0, (h.cell (p := ⟨w2.heap.size, 1, none⟩) x5l).trans x5c1, (h.cell (p := ⟨w2.heap.size, 2, none⟩) x5l).trans x5c2, (h.cell (p := ⟨w2.heap.size, 3, none⟩) x5l).trans x5c3⟩
      have HSS := Lib.hid hss
      clear hss
      go_cut [13, 14, 15] (fun sa sb sc wx => TwoX n₀ A A1 x W10 sa sb sc wx)
      case first =>
        have hn0 := Nat.le_trans hn hw.size
        refine wp_region_held_drew (S := fun W => W.cell? ⟨w4.heap.size, 0, none⟩ = some (.slice A8 0 c8) ∧ W.cell? ⟨w4.heap.size, 1, none⟩ = some (.int .i64 40) ∧ W.cell? ⟨w4.heap.size, 2, none⟩ = some (.int .i64 0) ∧ W.cell? ⟨w2.heap.size, 0, none⟩ = some (.slice S5 40 s5) ∧ W.cell? ⟨w2.heap.size, 1, none⟩ = some (.slice P5 0 p5) ∧ W.cell? ⟨w2.heap.size, 2, none⟩ = some (.int .i64 (-1)) ∧ W.cell? ⟨w2.heap.size, 3, none⟩ = some (.bool false)) (by kernel_rfl) (HSS.out _ (Below.refl _ _).drew) (fun hHeld => ?_)
        refine tkA 0 o11x0 ?_
        refine tkA 1 o11x1 ?_
        refine tkA 2 o11x2 ?_
        refine tkA 4 o11x4 ?_
        refine intro_states (fun G hG a0 ha => ?_)
        have HG := Lib.hid hG
        have HA := Lib.hid ha
        clear hG ha hHeld
        have HZ2tu : Hid (∀ (W : World) (VA : Option Addr) (vA : Nat) (VS : Option Addr) (vS : Nat) (SS : Option Addr) (sS : Nat) (PS : Option Addr) (pS : Nat) (B : Nat) (D : Nat), Below W10.heap.size W10 W → A1 ≤ vS → RowsAt n₀ W VS A → 40 ≤ sS → RowsAt n₀ W SS x.secs → W10.heap.size ≤ B → Blk W B 55 #[.slice none 0 0, .int .i64 0, .int .i64 0] → W10.heap.size ≤ D → Blk W D 25 #[.slice none 0 0, .slice none 0 0, .int .i64 0, .bool false] → G 3 #[true, true, true, true, true, true, true, true, true, true, true, true, false, false, false] ((((((((a0.put (some 70) (.agg #[.slice VA A1 vA, .int .i64 40, .int .i64 0])).put (some 72) (.tuple #[.agg #[.slice VS A1 vS, .int .i64 40, .int .i64 A1], .agg #[.slice SS 40 sS, .slice PS 0 pS, .int .i64 (-1), .bool false], .int .i64 0])).put (some 66) (.tuple #[.agg #[.slice VS A1 vS, .int .i64 40, .int .i64 A1], .agg #[.slice SS 40 sS, .slice PS 0 pS, .int .i64 (-1), .bool false], .int .i64 0])).put (some 73) (.agg #[.slice VS A1 vS, .int .i64 40, .int .i64 A1])).put (some 74) (.agg #[.slice SS 40 sS, .slice PS 0 pS, .int .i64 (-1), .bool false])).put (some 75) (.int .i64 0)).put (some 13) (.pointer (some ⟨B, 0, none⟩))).put (some 14) (.pointer (some ⟨D, 0, none⟩))) W) := by
          refine Lib.hid ?_
          intro W VA vA VS vS SS sS PS pS B D hW hcS rS hsS qS tb t ub u
          rw [HG.out, HA.out]
          simp only [Act.put, List.setIfInBounds_toArray, List.set_cons_zero, List.set_cons_succ]
          have tc0 := t.cell 0
          have tf0 := t.frozen 0
          have tc1 := t.cell 1
          have tf1 := t.frozen 1
          have tc2 := t.cell 2
          have tf2 := t.frozen 2
          simp only [List.getElem?_toArray, List.getElem?_cons_zero, List.getElem?_cons_succ] at tc0 tc1 tc2
          have tl := t.lt
          have uc0 := u.cell 0
          have uf0 := u.frozen 0
          have uc1 := u.cell 1
          have uf1 := u.frozen 1
          have uc2 := u.cell 2
          have uf2 := u.frozen 2
          have uc3 := u.cell 3
          have uf3 := u.frozen 3
          simp only [List.getElem?_toArray, List.getElem?_cons_zero, List.getElem?_cons_succ] at uc0 uc1 uc2 uc3
          have ul := u.lt
          have ne1 := t.ne u (by decide)
          have ne2 := ne1.symm
          refine wpAnyH_ready (rs := [12]) (by kernel_rfl) (by simp) ?_
          refine AllReadyH.cons (o := o11x12) rfl (fun K hK => ?_) AllReadyH.nil
          go_simp
          refine hK.out _ _ ?_ (fun hHeld => ?_)
          · refine HSS.out _ ?_; repeat (first | with_reducible exact hW | with_reducible refine Below.setCell ?_ tb _ | with_reducible refine Below.setCell ?_ ub _)
          clear hK K
          try simp only [List.setIfInBounds_toArray, List.set_cons_zero, List.set_cons_succ]
          refine wpAnyH_ready (rs := [13]) (by kernel_rfl) (by simp) ?_
          refine AllReadyH.cons (o := o11x13) rfl (fun K hK => ?_) AllReadyH.nil
          go_simp
          refine hK.out _ _ ?_ (fun hHeld => ?_)
          · refine HSS.out _ ?_; repeat (first | with_reducible exact hW | with_reducible refine Below.setCell ?_ tb _ | with_reducible refine Below.setCell ?_ ub _)
          clear hK K
          try simp only [List.setIfInBounds_toArray, List.set_cons_zero, List.set_cons_succ]
          refine wpAnyH_ready (rs := [14]) (by kernel_rfl) (by simp) ?_
          refine AllReadyH.cons (o := o11x14) rfl (fun K hK => ?_) AllReadyH.nil
          go_simp
          refine hK.out _ _ ?_ (fun hHeld => ?_)
          · refine HSS.out _ ?_; repeat (first | with_reducible exact hW | with_reducible refine Below.setCell ?_ tb _ | with_reducible refine Below.setCell ?_ ub _)
          clear hK K
          try simp only [List.setIfInBounds_toArray, List.set_cons_zero, List.set_cons_succ]
          refine wpAnyH_done (by kernel_rfl) ?_ _
          (try go_wp2_with (fail))
          go_meet
          exact _root_.Go.Proofs.Ytckeopidedoohaa.tf1 hn0 hW hcS rS hsS qS tb ub t u
        have HZ2t : Hid (∀ (W : World) (VA : Option Addr) (vA : Nat) (VS : Option Addr) (vS : Nat) (SS : Option Addr) (sS : Nat) (PS : Option Addr) (pS : Nat) (B : Nat), Below W10.heap.size W10 W → A1 ≤ vS → RowsAt n₀ W VS A → 40 ≤ sS → RowsAt n₀ W SS x.secs → W10.heap.size ≤ B → Blk W B 55 #[.slice none 0 0, .int .i64 0, .int .i64 0] → G 4 #[true, true, true, true, true, true, true, true, true, true, true, false, false, false, false] (((((((a0.put (some 70) (.agg #[.slice VA A1 vA, .int .i64 40, .int .i64 0])).put (some 72) (.tuple #[.agg #[.slice VS A1 vS, .int .i64 40, .int .i64 A1], .agg #[.slice SS 40 sS, .slice PS 0 pS, .int .i64 (-1), .bool false], .int .i64 0])).put (some 66) (.tuple #[.agg #[.slice VS A1 vS, .int .i64 40, .int .i64 A1], .agg #[.slice SS 40 sS, .slice PS 0 pS, .int .i64 (-1), .bool false], .int .i64 0])).put (some 73) (.agg #[.slice VS A1 vS, .int .i64 40, .int .i64 A1])).put (some 74) (.agg #[.slice SS 40 sS, .slice PS 0 pS, .int .i64 (-1), .bool false])).put (some 75) (.int .i64 0)).put (some 13) (.pointer (some ⟨B, 0, none⟩))) W) := by
          refine Lib.hid ?_
          intro W VA vA VS vS SS sS PS pS B hW hcS rS hsS qS tb t
          rw [HG.out, HA.out]
          simp only [Act.put, List.setIfInBounds_toArray, List.set_cons_zero, List.set_cons_succ]
          refine wpAnyH_ready (rs := [11]) (by kernel_rfl) (by simp) ?_
          refine AllReadyH.cons (o := o11x11) rfl (fun K hK => ?_) ?_
          ·
            go_simp
            refine hK.out _ _ (HSS.out _ (hW.alloc hW.size _)) (fun hHeld => ?_)
            clear hK K
            try simp only [List.setIfInBounds_toArray, List.set_cons_zero, List.set_cons_succ]
            have h9 := HZ2tu.out _ VA vA VS vS SS sS PS pS B W.heap.size (hW.alloc hW.size _) hcS (rS.below ((Below.refl _ W).alloc (Nat.le_refl _) _)) hsS (qS.below ((Below.refl _ W).alloc (Nat.le_refl _) _)) tb (t.alloc _) hW.size (Blk.new W 25 _)
            rw [HG.out, HA.out] at h9
            simp only [Act.put, List.setIfInBounds_toArray, List.set_cons_zero, List.set_cons_succ] at h9
            exact h9
          exact AllReadyH.nil
        have HZ2u : Hid (∀ (W : World) (VA : Option Addr) (vA : Nat) (VS : Option Addr) (vS : Nat) (SS : Option Addr) (sS : Nat) (PS : Option Addr) (pS : Nat) (D : Nat), Below W10.heap.size W10 W → A1 ≤ vS → RowsAt n₀ W VS A → 40 ≤ sS → RowsAt n₀ W SS x.secs → W10.heap.size ≤ D → Blk W D 25 #[.slice none 0 0, .slice none 0 0, .int .i64 0, .bool false] → G 4 #[true, true, true, true, true, true, true, true, true, true, false, true, false, false, false] (((((((a0.put (some 70) (.agg #[.slice VA A1 vA, .int .i64 40, .int .i64 0])).put (some 72) (.tuple #[.agg #[.slice VS A1 vS, .int .i64 40, .int .i64 A1], .agg #[.slice SS 40 sS, .slice PS 0 pS, .int .i64 (-1), .bool false], .int .i64 0])).put (some 66) (.tuple #[.agg #[.slice VS A1 vS, .int .i64 40, .int .i64 A1], .agg #[.slice SS 40 sS, .slice PS 0 pS, .int .i64 (-1), .bool false], .int .i64 0])).put (some 73) (.agg #[.slice VS A1 vS, .int .i64 40, .int .i64 A1])).put (some 74) (.agg #[.slice SS 40 sS, .slice PS 0 pS, .int .i64 (-1), .bool false])).put (some 75) (.int .i64 0)).put (some 14) (.pointer (some ⟨D, 0, none⟩))) W) := by
          refine Lib.hid ?_
          intro W VA vA VS vS SS sS PS pS D hW hcS rS hsS qS ub u
          rw [HG.out, HA.out]
          simp only [Act.put, List.setIfInBounds_toArray, List.set_cons_zero, List.set_cons_succ]
          refine wpAnyH_ready (rs := [10]) (by kernel_rfl) (by simp) ?_
          refine AllReadyH.cons (o := o11x10) rfl (fun K hK => ?_) ?_
          ·
            go_simp
            refine hK.out _ _ (HSS.out _ (hW.alloc hW.size _)) (fun hHeld => ?_)
            clear hK K
            try simp only [List.setIfInBounds_toArray, List.set_cons_zero, List.set_cons_succ]
            have h9 := HZ2tu.out _ VA vA VS vS SS sS PS pS W.heap.size D (hW.alloc hW.size _) hcS (rS.below ((Below.refl _ W).alloc (Nat.le_refl _) _)) hsS (qS.below ((Below.refl _ W).alloc (Nat.le_refl _) _)) hW.size (Blk.new W 55 _) ub (u.alloc _)
            rw [HG.out, HA.out] at h9
            simp only [Act.put, List.setIfInBounds_toArray, List.set_cons_zero, List.set_cons_succ] at h9
            exact h9
          exact AllReadyH.nil
        have HZ2 : Hid (∀ (W : World) (VA : Option Addr) (vA : Nat) (VS : Option Addr) (vS : Nat) (SS : Option Addr) (sS : Nat) (PS : Option Addr) (pS : Nat), Below W10.heap.size W10 W → A1 ≤ vS → RowsAt n₀ W VS A → 40 ≤ sS → RowsAt n₀ W SS x.secs → G 5 #[true, true, true, true, true, true, true, true, true, true, false, false, false, false, false] ((((((a0.put (some 70) (.agg #[.slice VA A1 vA, .int .i64 40, .int .i64 0])).put (some 72) (.tuple #[.agg #[.slice VS A1 vS, .int .i64 40, .int .i64 A1], .agg #[.slice SS 40 sS, .slice PS 0 pS, .int .i64 (-1), .bool false], .int .i64 0])).put (some 66) (.tuple #[.agg #[.slice VS A1 vS, .int .i64 40, .int .i64 A1], .agg #[.slice SS 40 sS, .slice PS 0 pS, .int .i64 (-1), .bool false], .int .i64 0])).put (some 73) (.agg #[.slice VS A1 vS, .int .i64 40, .int .i64 A1])).put (some 74) (.agg #[.slice SS 40 sS, .slice PS 0 pS, .int .i64 (-1), .bool false])).put (some 75) (.int .i64 0)) W) := by
          refine Lib.hid ?_
          intro W VA vA VS vS SS sS PS pS hW hcS rS hsS qS
          rw [HG.out, HA.out]
          simp only [Act.put, List.setIfInBounds_toArray, List.set_cons_zero, List.set_cons_succ]
          refine wpAnyH_ready (rs := [10, 11]) (by kernel_rfl) (by simp) ?_
          refine AllReadyH.cons (o := o11x10) rfl (fun K hK => ?_) ?_
          ·
            go_simp
            refine hK.out _ _ (HSS.out _ (hW.alloc hW.size _)) (fun hHeld => ?_)
            clear hK K
            try simp only [List.setIfInBounds_toArray, List.set_cons_zero, List.set_cons_succ]
            have h9 := HZ2t.out _ VA vA VS vS SS sS PS pS W.heap.size (hW.alloc hW.size _) hcS (rS.below ((Below.refl _ W).alloc (Nat.le_refl _) _)) hsS (qS.below ((Below.refl _ W).alloc (Nat.le_refl _) _)) hW.size (Blk.new W 55 _)
            rw [HG.out, HA.out] at h9
            simp only [Act.put, List.setIfInBounds_toArray, List.set_cons_zero, List.set_cons_succ] at h9
            exact h9
          refine AllReadyH.cons (o := o11x11) rfl (fun K hK => ?_) ?_
          ·
            go_simp
            refine hK.out _ _ (HSS.out _ (hW.alloc hW.size _)) (fun hHeld => ?_)
            clear hK K
            try simp only [List.setIfInBounds_toArray, List.set_cons_zero, List.set_cons_succ]
            have h9 := HZ2u.out _ VA vA VS vS SS sS PS pS W.heap.size (hW.alloc hW.size _) hcS (rS.below ((Below.refl _ W).alloc (Nat.le_refl _) _)) hsS (qS.below ((Below.refl _ W).alloc (Nat.le_refl _) _)) hW.size (Blk.new W 25 _)
            rw [HG.out, HA.out] at h9
            simp only [Act.put, List.setIfInBounds_toArray, List.set_cons_zero, List.set_cons_succ] at h9
            exact h9
          exact AllReadyH.nil
        have HZ1tu : Hid (∀ (W : World) (VA : Option Addr) (vA : Nat) (B : Nat) (D : Nat), Below W10.heap.size W10 W → A1 ≤ vA → RowsAt n₀ W VA A → W10.heap.size ≤ B → Blk W B 55 #[.slice none 0 0, .int .i64 0, .int .i64 0] → W10.heap.size ≤ D → Blk W D 25 #[.slice none 0 0, .slice none 0 0, .int .i64 0, .bool false] → G 8 #[true, true, true, true, true, false, false, false, false, false, true, true, false, false, false] (((a0.put (some 70) (.agg #[.slice VA A1 vA, .int .i64 40, .int .i64 0])).put (some 13) (.pointer (some ⟨B, 0, none⟩))).put (some 14) (.pointer (some ⟨D, 0, none⟩))) W) := by
          refine Lib.hid ?_
          intro W VA vA B D hW hcA rA tb t ub u
          rw [HG.out, HA.out]
          simp only [Act.put, List.setIfInBounds_toArray, List.set_cons_zero, List.set_cons_succ]
          refine wpAnyH_ready (rs := [5]) (by kernel_rfl) (by simp) ?_
          refine AllReadyH.cons (o := o11x5) rfl (fun K hK => ?_) ?_
          ·
            go_simp
            go_at_call 53
            refine ((HC3.out _ _ _ hW hcA rA)).mono ?_
            rintro e W9 ⟨VS, vS, SS, sS, PS, pS, rfl, hcS, rS, hsS, qS, hb9⟩
            have hW9 := hW.trans (hb9.mono hW.size)
            refine hK.out _ _ (HSS.out _ hW9) (fun hHeld => ?_)
            clear hK K
            try simp only [List.setIfInBounds_toArray, List.set_cons_zero, List.set_cons_succ]
            refine tkA 6 o11x6 ?_
            refine tkA 7 o11x7 ?_
            refine tkA 8 o11x8 ?_
            refine tkA 9 o11x9 ?_
            have h9 := HZ2tu.out W9 VA vA VS vS SS sS PS pS B D hW9 hcS rS hsS qS tb (t.below hb9 t.lt) ub (u.below hb9 u.lt)
            rw [HG.out, HA.out] at h9
            simp only [Act.put, List.setIfInBounds_toArray, List.set_cons_zero, List.set_cons_succ] at h9
            exact h9
          exact AllReadyH.nil
        have HZ1t : Hid (∀ (W : World) (VA : Option Addr) (vA : Nat) (B : Nat), Below W10.heap.size W10 W → A1 ≤ vA → RowsAt n₀ W VA A → W10.heap.size ≤ B → Blk W B 55 #[.slice none 0 0, .int .i64 0, .int .i64 0] → G 9 #[true, true, true, true, true, false, false, false, false, false, true, false, false, false, false] ((a0.put (some 70) (.agg #[.slice VA A1 vA, .int .i64 40, .int .i64 0])).put (some 13) (.pointer (some ⟨B, 0, none⟩))) W) := by
          refine Lib.hid ?_
          intro W VA vA B hW hcA rA tb t
          rw [HG.out, HA.out]
          simp only [Act.put, List.setIfInBounds_toArray, List.set_cons_zero, List.set_cons_succ]
          refine wpAnyH_ready (rs := [5, 11]) (by kernel_rfl) (by simp) ?_
          refine AllReadyH.cons (o := o11x5) rfl (fun K hK => ?_) ?_
          ·
            go_simp
            go_at_call 53
            refine ((HC3.out _ _ _ hW hcA rA)).mono ?_
            rintro e W9 ⟨VS, vS, SS, sS, PS, pS, rfl, hcS, rS, hsS, qS, hb9⟩
            have hW9 := hW.trans (hb9.mono hW.size)
            refine hK.out _ _ (HSS.out _ hW9) (fun hHeld => ?_)
            clear hK K
            try simp only [List.setIfInBounds_toArray, List.set_cons_zero, List.set_cons_succ]
            refine tkA 6 o11x6 ?_
            refine tkA 7 o11x7 ?_
            refine tkA 8 o11x8 ?_
            refine tkA 9 o11x9 ?_
            have h9 := HZ2t.out W9 VA vA VS vS SS sS PS pS B hW9 hcS rS hsS qS tb (t.below hb9 t.lt)
            rw [HG.out, HA.out] at h9
            simp only [Act.put, List.setIfInBounds_toArray, List.set_cons_zero, List.set_cons_succ] at h9
            exact h9
          refine AllReadyH.cons (o := o11x11) rfl (fun K hK => ?_) ?_
          ·
            go_simp
            refine hK.out _ _ (HSS.out _ (hW.alloc hW.size _)) (fun hHeld => ?_)
            clear hK K
            try simp only [List.setIfInBounds_toArray, List.set_cons_zero, List.set_cons_succ]
            have h9 := HZ1tu.out _ VA vA B W.heap.size (hW.alloc hW.size _) hcA (rA.below ((Below.refl _ W).alloc (Nat.le_refl _) _)) tb (t.alloc _) hW.size (Blk.new W 25 _)
            rw [HG.out, HA.out] at h9
            simp only [Act.put, List.setIfInBounds_toArray, List.set_cons_zero, List.set_cons_succ] at h9
            exact h9
          exact AllReadyH.nil
        have HZ1u : Hid (∀ (W : World) (VA : Option Addr) (vA : Nat) (D : Nat), Below W10.heap.size W10 W → A1 ≤ vA → RowsAt n₀ W VA A → W10.heap.size ≤ D → Blk W D 25 #[.slice none 0 0, .slice none 0 0, .int .i64 0, .bool false] → G 9 #[true, true, true, true, true, false, false, false, false, false, false, true, false, false, false] ((a0.put (some 70) (.agg #[.slice VA A1 vA, .int .i64 40, .int .i64 0])).put (some 14) (.pointer (some ⟨D, 0, none⟩))) W) := by
          refine Lib.hid ?_
          intro W VA vA D hW hcA rA ub u
          rw [HG.out, HA.out]
          simp only [Act.put, List.setIfInBounds_toArray, List.set_cons_zero, List.set_cons_succ]
          refine wpAnyH_ready (rs := [5, 10]) (by kernel_rfl) (by simp) ?_
          refine AllReadyH.cons (o := o11x5) rfl (fun K hK => ?_) ?_
          ·
            go_simp
            go_at_call 53
            refine ((HC3.out _ _ _ hW hcA rA)).mono ?_
            rintro e W9 ⟨VS, vS, SS, sS, PS, pS, rfl, hcS, rS, hsS, qS, hb9⟩
            have hW9 := hW.trans (hb9.mono hW.size)
            refine hK.out _ _ (HSS.out _ hW9) (fun hHeld => ?_)
            clear hK K
            try simp only [List.setIfInBounds_toArray, List.set_cons_zero, List.set_cons_succ]
            refine tkA 6 o11x6 ?_
            refine tkA 7 o11x7 ?_
            refine tkA 8 o11x8 ?_
            refine tkA 9 o11x9 ?_
            have h9 := HZ2u.out W9 VA vA VS vS SS sS PS pS D hW9 hcS rS hsS qS ub (u.below hb9 u.lt)
            rw [HG.out, HA.out] at h9
            simp only [Act.put, List.setIfInBounds_toArray, List.set_cons_zero, List.set_cons_succ] at h9
            exact h9
          refine AllReadyH.cons (o := o11x10) rfl (fun K hK => ?_) ?_
          ·
            go_simp
            refine hK.out _ _ (HSS.out _ (hW.alloc hW.size _)) (fun hHeld => ?_)
            clear hK K
            try simp only [List.setIfInBounds_toArray, List.set_cons_zero, List.set_cons_succ]
            have h9 := HZ1tu.out _ VA vA W.heap.size D (hW.alloc hW.size _) hcA (rA.below ((Below.refl _ W).alloc (Nat.le_refl _) _)) hW.size (Blk.new W 55 _) ub (u.alloc _)
            rw [HG.out, HA.out] at h9
            simp only [Act.put, List.setIfInBounds_toArray, List.set_cons_zero, List.set_cons_succ] at h9
            exact h9
          exact AllReadyH.nil
        have HZ1 : Hid (∀ (W : World) (VA : Option Addr) (vA : Nat), Below W10.heap.size W10 W → A1 ≤ vA → RowsAt n₀ W VA A → G 10 #[true, true, true, true, true, false, false, false, false, false, false, false, false, false, false] (a0.put (some 70) (.agg #[.slice VA A1 vA, .int .i64 40, .int .i64 0])) W) := by
          refine Lib.hid ?_
          intro W VA vA hW hcA rA
          rw [HG.out, HA.out]
          simp only [Act.put, List.setIfInBounds_toArray, List.set_cons_zero, List.set_cons_succ]
          refine wpAnyH_ready (rs := [5, 10, 11]) (by kernel_rfl) (by simp) ?_
          refine AllReadyH.cons (o := o11x5) rfl (fun K hK => ?_) ?_
          ·
            go_simp
            go_at_call 53
            refine ((HC3.out _ _ _ hW hcA rA)).mono ?_
            rintro e W9 ⟨VS, vS, SS, sS, PS, pS, rfl, hcS, rS, hsS, qS, hb9⟩
            have hW9 := hW.trans (hb9.mono hW.size)
            refine hK.out _ _ (HSS.out _ hW9) (fun hHeld => ?_)
            clear hK K
            try simp only [List.setIfInBounds_toArray, List.set_cons_zero, List.set_cons_succ]
            refine tkA 6 o11x6 ?_
            refine tkA 7 o11x7 ?_
            refine tkA 8 o11x8 ?_
            refine tkA 9 o11x9 ?_
            have h9 := HZ2.out W9 VA vA VS vS SS sS PS pS hW9 hcS rS hsS qS
            rw [HG.out, HA.out] at h9
            simp only [Act.put, List.setIfInBounds_toArray, List.set_cons_zero, List.set_cons_succ] at h9
            exact h9
          refine AllReadyH.cons (o := o11x10) rfl (fun K hK => ?_) ?_
          ·
            go_simp
            refine hK.out _ _ (HSS.out _ (hW.alloc hW.size _)) (fun hHeld => ?_)
            clear hK K
            try simp only [List.setIfInBounds_toArray, List.set_cons_zero, List.set_cons_succ]
            have h9 := HZ1t.out _ VA vA W.heap.size (hW.alloc hW.size _) hcA (rA.below ((Below.refl _ W).alloc (Nat.le_refl _) _)) hW.size (Blk.new W 55 _)
            rw [HG.out, HA.out] at h9
            simp only [Act.put, List.setIfInBounds_toArray, List.set_cons_zero, List.set_cons_succ] at h9
            exact h9
          refine AllReadyH.cons (o := o11x11) rfl (fun K hK => ?_) ?_
          ·
            go_simp
            refine hK.out _ _ (HSS.out _ (hW.alloc hW.size _)) (fun hHeld => ?_)
            clear hK K
            try simp only [List.setIfInBounds_toArray, List.set_cons_zero, List.set_cons_succ]
            have h9 := HZ1u.out _ VA vA W.heap.size (hW.alloc hW.size _) hcA (rA.below ((Below.refl _ W).alloc (Nat.le_refl _) _)) hW.size (Blk.new W 25 _)
            rw [HG.out, HA.out] at h9
            simp only [Act.put, List.setIfInBounds_toArray, List.set_cons_zero, List.set_cons_succ] at h9
            exact h9
          exact AllReadyH.nil
        have HZ0tu : Hid (∀ (W : World) (B : Nat) (D : Nat), Below W10.heap.size W10 W → W10.heap.size ≤ B → Blk W B 55 #[.slice none 0 0, .int .i64 0, .int .i64 0] → W10.heap.size ≤ D → Blk W D 25 #[.slice none 0 0, .slice none 0 0, .int .i64 0, .bool false] → G 9 #[true, true, true, false, true, false, false, false, false, false, true, true, false, false, false] ((a0.put (some 13) (.pointer (some ⟨B, 0, none⟩))).put (some 14) (.pointer (some ⟨D, 0, none⟩))) W) := by
          refine Lib.hid ?_
          intro W B D hW tb t ub u
          rw [HG.out, HA.out]
          simp only [Act.put, List.setIfInBounds_toArray, List.set_cons_zero, List.set_cons_succ]
          refine wpAnyH_ready (rs := [3]) (by kernel_rfl) (by simp) ?_
          refine AllReadyH.cons (o := o11x3) rfl (fun K hK => ?_) ?_
          ·
            go_simp
            go_at_call 56
            refine ((HC1.out _ hW)).mono ?_
            rintro e W9 ⟨VA, vA, rfl, hcA, rA, hb9⟩
            have hW9 := hW.trans (hb9.mono hW.size)
            refine hK.out _ _ (HSS.out _ hW9) (fun hHeld => ?_)
            clear hK K
            try simp only [List.setIfInBounds_toArray, List.set_cons_zero, List.set_cons_succ]
            have h9 := HZ1tu.out W9 VA vA B D hW9 hcA rA tb (t.below hb9 t.lt) ub (u.below hb9 u.lt)
            rw [HG.out, HA.out] at h9
            simp only [Act.put, List.setIfInBounds_toArray, List.set_cons_zero, List.set_cons_succ] at h9
            exact h9
          exact AllReadyH.nil
        have HZ0t : Hid (∀ (W : World) (B : Nat), Below W10.heap.size W10 W → W10.heap.size ≤ B → Blk W B 55 #[.slice none 0 0, .int .i64 0, .int .i64 0] → G 10 #[true, true, true, false, true, false, false, false, false, false, true, false, false, false, false] (a0.put (some 13) (.pointer (some ⟨B, 0, none⟩))) W) := by
          refine Lib.hid ?_
          intro W B hW tb t
          rw [HG.out, HA.out]
          simp only [Act.put, List.setIfInBounds_toArray, List.set_cons_zero, List.set_cons_succ]
          refine wpAnyH_ready (rs := [3, 11]) (by kernel_rfl) (by simp) ?_
          refine AllReadyH.cons (o := o11x3) rfl (fun K hK => ?_) ?_
          ·
            go_simp
            go_at_call 56
            refine ((HC1.out _ hW)).mono ?_
            rintro e W9 ⟨VA, vA, rfl, hcA, rA, hb9⟩
            have hW9 := hW.trans (hb9.mono hW.size)
            refine hK.out _ _ (HSS.out _ hW9) (fun hHeld => ?_)
            clear hK K
            try simp only [List.setIfInBounds_toArray, List.set_cons_zero, List.set_cons_succ]
            have h9 := HZ1t.out W9 VA vA B hW9 hcA rA tb (t.below hb9 t.lt)
            rw [HG.out, HA.out] at h9
            simp only [Act.put, List.setIfInBounds_toArray, List.set_cons_zero, List.set_cons_succ] at h9
            exact h9
          refine AllReadyH.cons (o := o11x11) rfl (fun K hK => ?_) ?_
          ·
            go_simp
            refine hK.out _ _ (HSS.out _ (hW.alloc hW.size _)) (fun hHeld => ?_)
            clear hK K
            try simp only [List.setIfInBounds_toArray, List.set_cons_zero, List.set_cons_succ]
            have h9 := HZ0tu.out _ B W.heap.size (hW.alloc hW.size _) tb (t.alloc _) hW.size (Blk.new W 25 _)
            rw [HG.out, HA.out] at h9
            simp only [Act.put, List.setIfInBounds_toArray, List.set_cons_zero, List.set_cons_succ] at h9
            exact h9
          exact AllReadyH.nil
        have HZ0u : Hid (∀ (W : World) (D : Nat), Below W10.heap.size W10 W → W10.heap.size ≤ D → Blk W D 25 #[.slice none 0 0, .slice none 0 0, .int .i64 0, .bool false] → G 10 #[true, true, true, false, true, false, false, false, false, false, false, true, false, false, false] (a0.put (some 14) (.pointer (some ⟨D, 0, none⟩))) W) := by
          refine Lib.hid ?_
          intro W D hW ub u
          rw [HG.out, HA.out]
          simp only [Act.put, List.setIfInBounds_toArray, List.set_cons_zero, List.set_cons_succ]
          refine wpAnyH_ready (rs := [3, 10]) (by kernel_rfl) (by simp) ?_
          refine AllReadyH.cons (o := o11x3) rfl (fun K hK => ?_) ?_
          ·
            go_simp
            go_at_call 56
            refine ((HC1.out _ hW)).mono ?_
            rintro e W9 ⟨VA, vA, rfl, hcA, rA, hb9⟩
            have hW9 := hW.trans (hb9.mono hW.size)
            refine hK.out _ _ (HSS.out _ hW9) (fun hHeld => ?_)
            clear hK K
            try simp only [List.setIfInBounds_toArray, List.set_cons_zero, List.set_cons_succ]
            have h9 := HZ1u.out W9 VA vA D hW9 hcA rA ub (u.below hb9 u.lt)
            rw [HG.out, HA.out] at h9
            simp only [Act.put, List.setIfInBounds_toArray, List.set_cons_zero, List.set_cons_succ] at h9
            exact h9
          refine AllReadyH.cons (o := o11x10) rfl (fun K hK => ?_) ?_
          ·
            go_simp
            refine hK.out _ _ (HSS.out _ (hW.alloc hW.size _)) (fun hHeld => ?_)
            clear hK K
            try simp only [List.setIfInBounds_toArray, List.set_cons_zero, List.set_cons_succ]
            have h9 := HZ0tu.out _ W.heap.size D (hW.alloc hW.size _) hW.size (Blk.new W 55 _) ub (u.alloc _)
            rw [HG.out, HA.out] at h9
            simp only [Act.put, List.setIfInBounds_toArray, List.set_cons_zero, List.set_cons_succ] at h9
            exact h9
          exact AllReadyH.nil
        have HZ0 : Hid (∀ (W : World), Below W10.heap.size W10 W → G 11 #[true, true, true, false, true, false, false, false, false, false, false, false, false, false, false] a0 W) := by
          refine Lib.hid ?_
          intro W  hW
          rw [HG.out, HA.out]
          try simp only [Act.put, List.setIfInBounds_toArray, List.set_cons_zero, List.set_cons_succ]
          refine wpAnyH_ready (rs := [3, 10, 11]) (by kernel_rfl) (by simp) ?_
          refine AllReadyH.cons (o := o11x3) rfl (fun K hK => ?_) ?_
          ·
            go_simp
            go_at_call 56
            refine ((HC1.out _ hW)).mono ?_
            rintro e W9 ⟨VA, vA, rfl, hcA, rA, hb9⟩
            have hW9 := hW.trans (hb9.mono hW.size)
            refine hK.out _ _ (HSS.out _ hW9) (fun hHeld => ?_)
            clear hK K
            try simp only [List.setIfInBounds_toArray, List.set_cons_zero, List.set_cons_succ]
            have h9 := HZ1.out W9 VA vA hW9 hcA rA
            rw [HG.out, HA.out] at h9
            simp only [Act.put, List.setIfInBounds_toArray, List.set_cons_zero, List.set_cons_succ] at h9
            exact h9
          refine AllReadyH.cons (o := o11x10) rfl (fun K hK => ?_) ?_
          ·
            go_simp
            refine hK.out _ _ (HSS.out _ (hW.alloc hW.size _)) (fun hHeld => ?_)
            clear hK K
            try simp only [List.setIfInBounds_toArray, List.set_cons_zero, List.set_cons_succ]
            have h9 := HZ0t.out _ W.heap.size (hW.alloc hW.size _) hW.size (Blk.new W 55 _)
            rw [HG.out, HA.out] at h9
            simp only [Act.put, List.setIfInBounds_toArray, List.set_cons_zero, List.set_cons_succ] at h9
            exact h9
          refine AllReadyH.cons (o := o11x11) rfl (fun K hK => ?_) ?_
          ·
            go_simp
            refine hK.out _ _ (HSS.out _ (hW.alloc hW.size _)) (fun hHeld => ?_)
            clear hK K
            try simp only [List.setIfInBounds_toArray, List.set_cons_zero, List.set_cons_succ]
            have h9 := HZ0u.out _ W.heap.size (hW.alloc hW.size _) hW.size (Blk.new W 25 _)
            rw [HG.out, HA.out] at h9
            simp only [Act.put, List.setIfInBounds_toArray, List.set_cons_zero, List.set_cons_succ] at h9
            exact h9
          exact AllReadyH.nil
        exact HZ0.out _ (Below.refl _ _).drew
      case rest =>
        obtain ⟨BF, DF, AF, cF, S14, s14, P14, p14, rfl, rfl, rfl, hBF, hDF, x13, x14, hcF, r13, hs14, r14, hb⟩ := hcut
        clear HC1 HC3 HSS
        replace r0 := r0.below hb
        replace r1 := r1.below hb
        replace r5 := r5.below hb
        replace r10 := r10.below hb
        replace r11 := r11.below hb
        replace x5 := x5.below hb x5.lt
        replace x8 := x8.below hb x8.lt
        replace x10 := x10.below hb x10.lt
        replace x11 := x11.below hb x11.lt
        replace hw := hw.trans (hb.mono hw.size)
        clear x8c0 x8c1 x8c2 x8c3 x8l x5c0 x5c1 x5c2 x5c3 x5l
        clear hb
        obtain ⟨W13, hW13⟩ : ∃ W, W = wc := ⟨_, rfl⟩
        subst hW13
        clear x8
        have h1 : ∀ W' , Below W13.heap.size W13 W' → Calls Try.prog 56 #[.agg #[.slice AF A1 cF, .int .i64 40, .int .i64 A1], .slice TB nb cb] W' (fun e w' => ∃ V v, e = .returned (.agg #[.slice V R1 v, .int .i64 40, .int .i64 A1]) ∧ R1 ≤ v ∧ RowsAt n₀ w' V R ∧ Below W'.heap.size W' w') := fun W' h => by have hcF' := hcF; rw [HA2.out] at hcF' ⊢; rw [HR2.out]; exact add_run (n₀ := n₀) (K := A) (l := b) Qeb2.out QvA2.out (Nat.le_trans hn (Nat.le_trans hw.size h.size)) HNB.out (by omega) HBR.out hcF' (r13.below h) (r1.below h)
        have HC1 := Lib.hid h1
        clear h1
        have h3 : ∀ W' V v, Below W13.heap.size W13 W' → R1 ≤ v → RowsAt n₀ W' V R → Calls Try.prog 53 #[.agg #[.slice V R1 v, .int .i64 40, .int .i64 A1], .agg #[.slice S14 40 s14, .slice P14 0 p14, .int .i64 (-1), .bool false]] W' (fun e w' => ∃ A' c' S' s' P' p', e = .returned (.tuple #[.agg #[.slice A' R1 c', .int .i64 40, .int .i64 R1], .agg #[.slice S' 40 s', .slice P' 0 p', .int .i64 (-1), .bool false], .int .i64 0]) ∧ R1 ≤ c' ∧ RowsAt n₀ w' A' R ∧ 40 ≤ s' ∧ RowsAt n₀ w' S' y.secs ∧ Below W'.heap.size W' w') := fun W' V v h hv hr => sync_run (n₀ := n₀) (d := x) (y := y) Qx1.out Qy1.out HA2.out.symm Qs3.out (Nat.le_trans hn (Nat.le_trans hw.size h.size)) QhsR.out HR2.out hv hs14 hr (r14.below h)
        have HC3 := Lib.hid h3
        clear h3
        have x13c0 := x13.cell 0
        have x13c1 := x13.cell 1
        have x13c2 := x13.cell 2
        have x13c3 := x13.cell 3
        simp only [List.getElem?_toArray, List.getElem?_cons_zero, List.getElem?_cons_succ] at x13c0 x13c1 x13c2 x13c3
        have x13l := x13.lt
        have x14c0 := x14.cell 0
        have x14c1 := x14.cell 1
        have x14c2 := x14.cell 2
        have x14c3 := x14.cell 3
        simp only [List.getElem?_toArray, List.getElem?_cons_zero, List.getElem?_cons_succ] at x14c0 x14c1 x14c2 x14c3
        have x14l := x14.lt
        go_upto_region 12 with (fail)
        have hss : ∀ W, Below W13.heap.size W13 W → W.cell? ⟨BF, 0, none⟩ = some (.slice AF A1 cF) ∧ W.cell? ⟨BF, 1, none⟩ = some (.int .i64 40) ∧ W.cell? ⟨BF, 2, none⟩ = some (.int .i64 A1) ∧ W.cell? ⟨DF, 0, none⟩ = some (.slice S14 40 s14) ∧ W.cell? ⟨DF, 1, none⟩ = some (.slice P14 0 p14) ∧ W.cell? ⟨DF, 2, none⟩ = some (.int .i64 (-1)) ∧ W.cell? ⟨DF, 3, none⟩ = some (.bool false) := fun W h => ⟨(h.cell (p := ⟨BF, 0, none⟩) x13l).trans x13c0, (h.cell (p := ⟨BF, 1, none⟩) x13l).trans x13c1, (h.cell (p := ⟨BF, 2, none⟩) x13l).trans x13c2, (h.cell (p := ⟨DF, 0, none⟩) x14l).trans x14c0, (h.cell (p := ⟨DF, 1, none⟩) x14l).trans x14c1, (h.cell (p := ⟨DF, 2, none⟩) x14l).trans x14c2, (h.cell (p := ⟨DF, 3, none⟩) x14l).trans x14c3⟩
        have HSS := Lib.hid hss
        clear hss
        go_cut [16, 17, 18] (fun sa sb sc wx => TwoX n₀ R R1 y W13 sa sb sc wx)
        case first =>
          have hn0 := Nat.le_trans hn hw.size
          refine wp_region_held_drew (S := fun W => W.cell? ⟨BF, 0, none⟩ = some (.slice AF A1 cF) ∧ W.cell? ⟨BF, 1, none⟩ = some (.int .i64 40) ∧ W.cell? ⟨BF, 2, none⟩ = some (.int .i64 A1) ∧ W.cell? ⟨DF, 0, none⟩ = some (.slice S14 40 s14) ∧ W.cell? ⟨DF, 1, none⟩ = some (.slice P14 0 p14) ∧ W.cell? ⟨DF, 2, none⟩ = some (.int .i64 (-1)) ∧ W.cell? ⟨DF, 3, none⟩ = some (.bool false)) (by kernel_rfl) (HSS.out _ (Below.refl _ _).drew) (fun hHeld => ?_)
          refine tkA 0 o12x0 ?_
          refine tkA 1 o12x1 ?_
          refine tkA 2 o12x2 ?_
          refine tkA 4 o12x4 ?_
          refine intro_states (fun G hG a0 ha => ?_)
          have HG := Lib.hid hG
          have HA := Lib.hid ha
          clear hG ha hHeld
          have HZ2tu : Hid (∀ (W : World) (VA : Option Addr) (vA : Nat) (VS : Option Addr) (vS : Nat) (SS : Option Addr) (sS : Nat) (PS : Option Addr) (pS : Nat) (B : Nat) (D : Nat), Below W13.heap.size W13 W → R1 ≤ vS → RowsAt n₀ W VS R → 40 ≤ sS → RowsAt n₀ W SS y.secs → W13.heap.size ≤ B → Blk W B 55 #[.slice none 0 0, .int .i64 0, .int .i64 0] → W13.heap.size ≤ D → Blk W D 25 #[.slice none 0 0, .slice none 0 0, .int .i64 0, .bool false] → G 3 #[true, true, true, true, true, true, true, true, true, true, true, true, false, false, false] ((((((((a0.put (some 80) (.agg #[.slice VA R1 vA, .int .i64 40, .int .i64 A1])).put (some 82) (.tuple #[.agg #[.slice VS R1 vS, .int .i64 40, .int .i64 R1], .agg #[.slice SS 40 sS, .slice PS 0 pS, .int .i64 (-1), .bool false], .int .i64 0])).put (some 76) (.tuple #[.agg #[.slice VS R1 vS, .int .i64 40, .int .i64 R1], .agg #[.slice SS 40 sS, .slice PS 0 pS, .int .i64 (-1), .bool false], .int .i64 0])).put (some 83) (.agg #[.slice VS R1 vS, .int .i64 40, .int .i64 R1])).put (some 84) (.agg #[.slice SS 40 sS, .slice PS 0 pS, .int .i64 (-1), .bool false])).put (some 85) (.int .i64 0)).put (some 16) (.pointer (some ⟨B, 0, none⟩))).put (some 17) (.pointer (some ⟨D, 0, none⟩))) W) := by
            refine Lib.hid ?_
            intro W VA vA VS vS SS sS PS pS B D hW hcS rS hsS qS tb t ub u
            rw [HG.out, HA.out]
            simp only [Act.put, List.setIfInBounds_toArray, List.set_cons_zero, List.set_cons_succ]
            have tc0 := t.cell 0
            have tf0 := t.frozen 0
            have tc1 := t.cell 1
            have tf1 := t.frozen 1
            have tc2 := t.cell 2
            have tf2 := t.frozen 2
            simp only [List.getElem?_toArray, List.getElem?_cons_zero, List.getElem?_cons_succ] at tc0 tc1 tc2
            have tl := t.lt
            have uc0 := u.cell 0
            have uf0 := u.frozen 0
            have uc1 := u.cell 1
            have uf1 := u.frozen 1
            have uc2 := u.cell 2
            have uf2 := u.frozen 2
            have uc3 := u.cell 3
            have uf3 := u.frozen 3
            simp only [List.getElem?_toArray, List.getElem?_cons_zero, List.getElem?_cons_succ] at uc0 uc1 uc2 uc3
            have ul := u.lt
            have ne1 := t.ne u (by decide)
            have ne2 := ne1.symm
            refine wpAnyH_ready (rs := [12]) (by kernel_rfl) (by simp) ?_
            refine AllReadyH.cons (o := o12x12) rfl (fun K hK => ?_) AllReadyH.nil
            go_simp
            refine hK.out _ _ ?_ (fun hHeld => ?_)
            · refine HSS.out _ ?_; repeat (first | with_reducible exact hW | with_reducible refine Below.setCell ?_ tb _ | with_reducible refine Below.setCell ?_ ub _)
            clear hK K
            try simp only [List.setIfInBounds_toArray, List.set_cons_zero, List.set_cons_succ]
            refine wpAnyH_ready (rs := [13]) (by kernel_rfl) (by simp) ?_
            refine AllReadyH.cons (o := o12x13) rfl (fun K hK => ?_) AllReadyH.nil
            go_simp
            refine hK.out _ _ ?_ (fun hHeld => ?_)
            · refine HSS.out _ ?_; repeat (first | with_reducible exact hW | with_reducible refine Below.setCell ?_ tb _ | with_reducible refine Below.setCell ?_ ub _)
            clear hK K
            try simp only [List.setIfInBounds_toArray, List.set_cons_zero, List.set_cons_succ]
            refine wpAnyH_ready (rs := [14]) (by kernel_rfl) (by simp) ?_
            refine AllReadyH.cons (o := o12x14) rfl (fun K hK => ?_) AllReadyH.nil
            go_simp
            refine hK.out _ _ ?_ (fun hHeld => ?_)
            · refine HSS.out _ ?_; repeat (first | with_reducible exact hW | with_reducible refine Below.setCell ?_ tb _ | with_reducible refine Below.setCell ?_ ub _)
            clear hK K
            try simp only [List.setIfInBounds_toArray, List.set_cons_zero, List.set_cons_succ]
            refine wpAnyH_done (by kernel_rfl) ?_ _
            (try go_wp2_with (fail))
            go_meet
            exact _root_.Go.Proofs.Ytckeopidedoohaa.tf1 hn0 hW hcS rS hsS qS tb ub t u
          have HZ2t : Hid (∀ (W : World) (VA : Option Addr) (vA : Nat) (VS : Option Addr) (vS : Nat) (SS : Option Addr) (sS : Nat) (PS : Option Addr) (pS : Nat) (B : Nat), Below W13.heap.size W13 W → R1 ≤ vS → RowsAt n₀ W VS R → 40 ≤ sS → RowsAt n₀ W SS y.secs → W13.heap.size ≤ B → Blk W B 55 #[.slice none 0 0, .int .i64 0, .int .i64 0] → G 4 #[true, true, true, true, true, true, true, true, true, true, true, false, false, false, false] (((((((a0.put (some 80) (.agg #[.slice VA R1 vA, .int .i64 40, .int .i64 A1])).put (some 82) (.tuple #[.agg #[.slice VS R1 vS, .int .i64 40, .int .i64 R1], .agg #[.slice SS 40 sS, .slice PS 0 pS, .int .i64 (-1), .bool false], .int .i64 0])).put (some 76) (.tuple #[.agg #[.slice VS R1 vS, .int .i64 40, .int .i64 R1], .agg #[.slice SS 40 sS, .slice PS 0 pS, .int .i64 (-1), .bool false], .int .i64 0])).put (some 83) (.agg #[.slice VS R1 vS, .int .i64 40, .int .i64 R1])).put (some 84) (.agg #[.slice SS 40 sS, .slice PS 0 pS, .int .i64 (-1), .bool false])).put (some 85) (.int .i64 0)).put (some 16) (.pointer (some ⟨B, 0, none⟩))) W) := by
            refine Lib.hid ?_
            intro W VA vA VS vS SS sS PS pS B hW hcS rS hsS qS tb t
            rw [HG.out, HA.out]
            simp only [Act.put, List.setIfInBounds_toArray, List.set_cons_zero, List.set_cons_succ]
            refine wpAnyH_ready (rs := [11]) (by kernel_rfl) (by simp) ?_
            refine AllReadyH.cons (o := o12x11) rfl (fun K hK => ?_) ?_
            ·
              go_simp
              refine hK.out _ _ (HSS.out _ (hW.alloc hW.size _)) (fun hHeld => ?_)
              clear hK K
              try simp only [List.setIfInBounds_toArray, List.set_cons_zero, List.set_cons_succ]
              have h9 := HZ2tu.out _ VA vA VS vS SS sS PS pS B W.heap.size (hW.alloc hW.size _) hcS (rS.below ((Below.refl _ W).alloc (Nat.le_refl _) _)) hsS (qS.below ((Below.refl _ W).alloc (Nat.le_refl _) _)) tb (t.alloc _) hW.size (Blk.new W 25 _)
              rw [HG.out, HA.out] at h9
              simp only [Act.put, List.setIfInBounds_toArray, List.set_cons_zero, List.set_cons_succ] at h9
              exact h9
            exact AllReadyH.nil
          have HZ2u : Hid (∀ (W : World) (VA : Option Addr) (vA : Nat) (VS : Option Addr) (vS : Nat) (SS : Option Addr) (sS : Nat) (PS : Option Addr) (pS : Nat) (D : Nat), Below W13.heap.size W13 W → R1 ≤ vS → RowsAt n₀ W VS R → 40 ≤ sS → RowsAt n₀ W SS y.secs → W13.heap.size ≤ D → Blk W D 25 #[.slice none 0 0, .slice none 0 0, .int .i64 0, .bool false] → G 4 #[true, true, true, true, true, true, true, true, true, true, false, true, false, false, false] (((((((a0.put (some 80) (.agg #[.slice VA R1 vA, .int .i64 40, .int .i64 A1])).put (some 82) (.tuple #[.agg #[.slice VS R1 vS, .int .i64 40, .int .i64 R1], .agg #[.slice SS 40 sS, .slice PS 0 pS, .int .i64 (-1), .bool false], .int .i64 0])).put (some 76) (.tuple #[.agg #[.slice VS R1 vS, .int .i64 40, .int .i64 R1], .agg #[.slice SS 40 sS, .slice PS 0 pS, .int .i64 (-1), .bool false], .int .i64 0])).put (some 83) (.agg #[.slice VS R1 vS, .int .i64 40, .int .i64 R1])).put (some 84) (.agg #[.slice SS 40 sS, .slice PS 0 pS, .int .i64 (-1), .bool false])).put (some 85) (.int .i64 0)).put (some 17) (.pointer (some ⟨D, 0, none⟩))) W) := by
            refine Lib.hid ?_
            intro W VA vA VS vS SS sS PS pS D hW hcS rS hsS qS ub u
            rw [HG.out, HA.out]
            simp only [Act.put, List.setIfInBounds_toArray, List.set_cons_zero, List.set_cons_succ]
            refine wpAnyH_ready (rs := [10]) (by kernel_rfl) (by simp) ?_
            refine AllReadyH.cons (o := o12x10) rfl (fun K hK => ?_) ?_
            ·
              go_simp
              refine hK.out _ _ (HSS.out _ (hW.alloc hW.size _)) (fun hHeld => ?_)
              clear hK K
              try simp only [List.setIfInBounds_toArray, List.set_cons_zero, List.set_cons_succ]
              have h9 := HZ2tu.out _ VA vA VS vS SS sS PS pS W.heap.size D (hW.alloc hW.size _) hcS (rS.below ((Below.refl _ W).alloc (Nat.le_refl _) _)) hsS (qS.below ((Below.refl _ W).alloc (Nat.le_refl _) _)) hW.size (Blk.new W 55 _) ub (u.alloc _)
              rw [HG.out, HA.out] at h9
              simp only [Act.put, List.setIfInBounds_toArray, List.set_cons_zero, List.set_cons_succ] at h9
              exact h9
            exact AllReadyH.nil
          have HZ2 : Hid (∀ (W : World) (VA : Option Addr) (vA : Nat) (VS : Option Addr) (vS : Nat) (SS : Option Addr) (sS : Nat) (PS : Option Addr) (pS : Nat), Below W13.heap.size W13 W → R1 ≤ vS → RowsAt n₀ W VS R → 40 ≤ sS → RowsAt n₀ W SS y.secs → G 5 #[true, true, true, true, true, true, true, true, true, true, false, false, false, false, false] ((((((a0.put (some 80) (.agg #[.slice VA R1 vA, .int .i64 40, .int .i64 A1])).put (some 82) (.tuple #[.agg #[.slice VS R1 vS, .int .i64 40, .int .i64 R1], .agg #[.slice SS 40 sS, .slice PS 0 pS, .int .i64 (-1), .bool false], .int .i64 0])).put (some 76) (.tuple #[.agg #[.slice VS R1 vS, .int .i64 40, .int .i64 R1], .agg #[.slice SS 40 sS, .slice PS 0 pS, .int .i64 (-1), .bool false], .int .i64 0])).put (some 83) (.agg #[.slice VS R1 vS, .int .i64 40, .int .i64 R1])).put (some 84) (.agg #[.slice SS 40 sS, .slice PS 0 pS, .int .i64 (-1), .bool false])).put (some 85) (.int .i64 0)) W) := by
            refine Lib.hid ?_
            intro W VA vA VS vS SS sS PS pS hW hcS rS hsS qS
            rw [HG.out, HA.out]
            simp only [Act.put, List.setIfInBounds_toArray, List.set_cons_zero, List.set_cons_succ]
            refine wpAnyH_ready (rs := [10, 11]) (by kernel_rfl) (by simp) ?_
            refine AllReadyH.cons (o := o12x10) rfl (fun K hK => ?_) ?_
            ·
              go_simp
              refine hK.out _ _ (HSS.out _ (hW.alloc hW.size _)) (fun hHeld => ?_)
              clear hK K
              try simp only [List.setIfInBounds_toArray, List.set_cons_zero, List.set_cons_succ]
              have h9 := HZ2t.out _ VA vA VS vS SS sS PS pS W.heap.size (hW.alloc hW.size _) hcS (rS.below ((Below.refl _ W).alloc (Nat.le_refl _) _)) hsS (qS.below ((Below.refl _ W).alloc (Nat.le_refl _) _)) hW.size (Blk.new W 55 _)
              rw [HG.out, HA.out] at h9
              simp only [Act.put, List.setIfInBounds_toArray, List.set_cons_zero, List.set_cons_succ] at h9
              exact h9
            refine AllReadyH.cons (o := o12x11) rfl (fun K hK => ?_) ?_
            ·
              go_simp
              refine hK.out _ _ (HSS.out _ (hW.alloc hW.size _)) (fun hHeld => ?_)
              clear hK K
              try simp only [List.setIfInBounds_toArray, List.set_cons_zero, List.set_cons_succ]
              have h9 := HZ2u.out _ VA vA VS vS SS sS PS pS W.heap.size (hW.alloc hW.size _) hcS (rS.below ((Below.refl _ W).alloc (Nat.le_refl _) _)) hsS (qS.below ((Below.refl _ W).alloc (Nat.le_refl _) _)) hW.size (Blk.new W 25 _)
              rw [HG.out, HA.out] at h9
              simp only [Act.put, List.setIfInBounds_toArray, List.set_cons_zero, List.set_cons_succ] at h9
              exact h9
            exact AllReadyH.nil
          have HZ1tu : Hid (∀ (W : World) (VA : Option Addr) (vA : Nat) (B : Nat) (D : Nat), Below W13.heap.size W13 W → R1 ≤ vA → RowsAt n₀ W VA R → W13.heap.size ≤ B → Blk W B 55 #[.slice none 0 0, .int .i64 0, .int .i64 0] → W13.heap.size ≤ D → Blk W D 25 #[.slice none 0 0, .slice none 0 0, .int .i64 0, .bool false] → G 8 #[true, true, true, true, true, false, false, false, false, false, true, true, false, false, false] (((a0.put (some 80) (.agg #[.slice VA R1 vA, .int .i64 40, .int .i64 A1])).put (some 16) (.pointer (some ⟨B, 0, none⟩))).put (some 17) (.pointer (some ⟨D, 0, none⟩))) W) := by
            refine Lib.hid ?_
            intro W VA vA B D hW hcA rA tb t ub u
            rw [HG.out, HA.out]
            simp only [Act.put, List.setIfInBounds_toArray, List.set_cons_zero, List.set_cons_succ]
            refine wpAnyH_ready (rs := [5]) (by kernel_rfl) (by simp) ?_
            refine AllReadyH.cons (o := o12x5) rfl (fun K hK => ?_) ?_
            ·
              go_simp
              go_at_call 53
              refine ((HC3.out _ _ _ hW hcA rA)).mono ?_
              rintro e W9 ⟨VS, vS, SS, sS, PS, pS, rfl, hcS, rS, hsS, qS, hb9⟩
              have hW9 := hW.trans (hb9.mono hW.size)
              refine hK.out _ _ (HSS.out _ hW9) (fun hHeld => ?_)
              clear hK K
              try simp only [List.setIfInBounds_toArray, List.set_cons_zero, List.set_cons_succ]
              refine tkA 6 o12x6 ?_
              refine tkA 7 o12x7 ?_
              refine tkA 8 o12x8 ?_
              refine tkA 9 o12x9 ?_
              have h9 := HZ2tu.out W9 VA vA VS vS SS sS PS pS B D hW9 hcS rS hsS qS tb (t.below hb9 t.lt) ub (u.below hb9 u.lt)
              rw [HG.out, HA.out] at h9
              simp only [Act.put, List.setIfInBounds_toArray, List.set_cons_zero, List.set_cons_succ] at h9
              exact h9
            exact AllReadyH.nil
          have HZ1t : Hid (∀ (W : World) (VA : Option Addr) (vA : Nat) (B : Nat), Below W13.heap.size W13 W → R1 ≤ vA → RowsAt n₀ W VA R → W13.heap.size ≤ B → Blk W B 55 #[.slice none 0 0, .int .i64 0, .int .i64 0] → G 9 #[true, true, true, true, true, false, false, false, false, false, true, false, false, false, false] ((a0.put (some 80) (.agg #[.slice VA R1 vA, .int .i64 40, .int .i64 A1])).put (some 16) (.pointer (some ⟨B, 0, none⟩))) W) := by
            refine Lib.hid ?_
            intro W VA vA B hW hcA rA tb t
            rw [HG.out, HA.out]
            simp only [Act.put, List.setIfInBounds_toArray, List.set_cons_zero, List.set_cons_succ]
            refine wpAnyH_ready (rs := [5, 11]) (by kernel_rfl) (by simp) ?_
            refine AllReadyH.cons (o := o12x5) rfl (fun K hK => ?_) ?_
            ·
              go_simp
              go_at_call 53
              refine ((HC3.out _ _ _ hW hcA rA)).mono ?_
              rintro e W9 ⟨VS, vS, SS, sS, PS, pS, rfl, hcS, rS, hsS, qS, hb9⟩
              have hW9 := hW.trans (hb9.mono hW.size)
              refine hK.out _ _ (HSS.out _ hW9) (fun hHeld => ?_)
              clear hK K
              try simp only [List.setIfInBounds_toArray, List.set_cons_zero, List.set_cons_succ]
              refine tkA 6 o12x6 ?_
              refine tkA 7 o12x7 ?_
              refine tkA 8 o12x8 ?_
              refine tkA 9 o12x9 ?_
              have h9 := HZ2t.out W9 VA vA VS vS SS sS PS pS B hW9 hcS rS hsS qS tb (t.below hb9 t.lt)
              rw [HG.out, HA.out] at h9
              simp only [Act.put, List.setIfInBounds_toArray, List.set_cons_zero, List.set_cons_succ] at h9
              exact h9
            refine AllReadyH.cons (o := o12x11) rfl (fun K hK => ?_) ?_
            ·
              go_simp
              refine hK.out _ _ (HSS.out _ (hW.alloc hW.size _)) (fun hHeld => ?_)
              clear hK K
              try simp only [List.setIfInBounds_toArray, List.set_cons_zero, List.set_cons_succ]
              have h9 := HZ1tu.out _ VA vA B W.heap.size (hW.alloc hW.size _) hcA (rA.below ((Below.refl _ W).alloc (Nat.le_refl _) _)) tb (t.alloc _) hW.size (Blk.new W 25 _)
              rw [HG.out, HA.out] at h9
              simp only [Act.put, List.setIfInBounds_toArray, List.set_cons_zero, List.set_cons_succ] at h9
              exact h9
            exact AllReadyH.nil
          have HZ1u : Hid (∀ (W : World) (VA : Option Addr) (vA : Nat) (D : Nat), Below W13.heap.size W13 W → R1 ≤ vA → RowsAt n₀ W VA R → W13.heap.size ≤ D → Blk W D 25 #[.slice none 0 0, .slice none 0 0, .int .i64 0, .bool false] → G 9 #[true, true, true, true, true, false, false, false, false, false, false, true, false, false, false] ((a0.put (some 80) (.agg #[.slice VA R1 vA, .int .i64 40, .int .i64 A1])).put (some 17) (.pointer (some ⟨D, 0, none⟩))) W) := by
            refine Lib.hid ?_
            intro W VA vA D hW hcA rA ub u
            rw [HG.out, HA.out]
            simp only [Act.put, List.setIfInBounds_toArray, List.set_cons_zero, List.set_cons_succ]
            refine wpAnyH_ready (rs := [5, 10]) (by kernel_rfl) (by simp) ?_
            refine AllReadyH.cons (o := o12x5) rfl (fun K hK => ?_) ?_
            ·
              go_simp
              go_at_call 53
              refine ((HC3.out _ _ _ hW hcA rA)).mono ?_
              rintro e W9 ⟨VS, vS, SS, sS, PS, pS, rfl, hcS, rS, hsS, qS, hb9⟩
              have hW9 := hW.trans (hb9.mono hW.size)
              refine hK.out _ _ (HSS.out _ hW9) (fun hHeld => ?_)
              clear hK K
              try simp only [List.setIfInBounds_toArray, List.set_cons_zero, List.set_cons_succ]
              refine tkA 6 o12x6 ?_
              refine tkA 7 o12x7 ?_
              refine tkA 8 o12x8 ?_
              refine tkA 9 o12x9 ?_
              have h9 := HZ2u.out W9 VA vA VS vS SS sS PS pS D hW9 hcS rS hsS qS ub (u.below hb9 u.lt)
              rw [HG.out, HA.out] at h9
              simp only [Act.put, List.setIfInBounds_toArray, List.set_cons_zero, List.set_cons_succ] at h9
              exact h9
            refine AllReadyH.cons (o := o12x10) rfl (fun K hK => ?_) ?_
            ·
              go_simp
              refine hK.out _ _ (HSS.out _ (hW.alloc hW.size _)) (fun hHeld => ?_)
              clear hK K
              try simp only [List.setIfInBounds_toArray, List.set_cons_zero, List.set_cons_succ]
              have h9 := HZ1tu.out _ VA vA W.heap.size D (hW.alloc hW.size _) hcA (rA.below ((Below.refl _ W).alloc (Nat.le_refl _) _)) hW.size (Blk.new W 55 _) ub (u.alloc _)
              rw [HG.out, HA.out] at h9
              simp only [Act.put, List.setIfInBounds_toArray, List.set_cons_zero, List.set_cons_succ] at h9
              exact h9
            exact AllReadyH.nil
          have HZ1 : Hid (∀ (W : World) (VA : Option Addr) (vA : Nat), Below W13.heap.size W13 W → R1 ≤ vA → RowsAt n₀ W VA R → G 10 #[true, true, true, true, true, false, false, false, false, false, false, false, false, false, false] (a0.put (some 80) (.agg #[.slice VA R1 vA, .int .i64 40, .int .i64 A1])) W) := by
            refine Lib.hid ?_
            intro W VA vA hW hcA rA
            rw [HG.out, HA.out]
            simp only [Act.put, List.setIfInBounds_toArray, List.set_cons_zero, List.set_cons_succ]
            refine wpAnyH_ready (rs := [5, 10, 11]) (by kernel_rfl) (by simp) ?_
            refine AllReadyH.cons (o := o12x5) rfl (fun K hK => ?_) ?_
            ·
              go_simp
              go_at_call 53
              refine ((HC3.out _ _ _ hW hcA rA)).mono ?_
              rintro e W9 ⟨VS, vS, SS, sS, PS, pS, rfl, hcS, rS, hsS, qS, hb9⟩
              have hW9 := hW.trans (hb9.mono hW.size)
              refine hK.out _ _ (HSS.out _ hW9) (fun hHeld => ?_)
              clear hK K
              try simp only [List.setIfInBounds_toArray, List.set_cons_zero, List.set_cons_succ]
              refine tkA 6 o12x6 ?_
              refine tkA 7 o12x7 ?_
              refine tkA 8 o12x8 ?_
              refine tkA 9 o12x9 ?_
              have h9 := HZ2.out W9 VA vA VS vS SS sS PS pS hW9 hcS rS hsS qS
              rw [HG.out, HA.out] at h9
              simp only [Act.put, List.setIfInBounds_toArray, List.set_cons_zero, List.set_cons_succ] at h9
              exact h9
            refine AllReadyH.cons (o := o12x10) rfl (fun K hK => ?_) ?_
            ·
              go_simp
              refine hK.out _ _ (HSS.out _ (hW.alloc hW.size _)) (fun hHeld => ?_)
              clear hK K
              try simp only [List.setIfInBounds_toArray, List.set_cons_zero, List.set_cons_succ]
              have h9 := HZ1t.out _ VA vA W.heap.size (hW.alloc hW.size _) hcA (rA.below ((Below.refl _ W).alloc (Nat.le_refl _) _)) hW.size (Blk.new W 55 _)
              rw [HG.out, HA.out] at h9
              simp only [Act.put, List.setIfInBounds_toArray, List.set_cons_zero, List.set_cons_succ] at h9
              exact h9
            refine AllReadyH.cons (o := o12x11) rfl (fun K hK => ?_) ?_
            ·
              go_simp
              refine hK.out _ _ (HSS.out _ (hW.alloc hW.size _)) (fun hHeld => ?_)
              clear hK K
              try simp only [List.setIfInBounds_toArray, List.set_cons_zero, List.set_cons_succ]
              have h9 := HZ1u.out _ VA vA W.heap.size (hW.alloc hW.size _) hcA (rA.below ((Below.refl _ W).alloc (Nat.le_refl _) _)) hW.size (Blk.new W 25 _)
              rw [HG.out, HA.out] at h9
              simp only [Act.put, List.setIfInBounds_toArray, List.set_cons_zero, List.set_cons_succ] at h9
              exact h9
            exact AllReadyH.nil
          have HZ0tu : Hid (∀ (W : World) (B : Nat) (D : Nat), Below W13.heap.size W13 W → W13.heap.size ≤ B → Blk W B 55 #[.slice none 0 0, .int .i64 0, .int .i64 0] → W13.heap.size ≤ D → Blk W D 25 #[.slice none 0 0, .slice none 0 0, .int .i64 0, .bool false] → G 9 #[true, true, true, false, true, false, false, false, false, false, true, true, false, false, false] ((a0.put (some 16) (.pointer (some ⟨B, 0, none⟩))).put (some 17) (.pointer (some ⟨D, 0, none⟩))) W) := by
            refine Lib.hid ?_
            intro W B D hW tb t ub u
            rw [HG.out, HA.out]
            simp only [Act.put, List.setIfInBounds_toArray, List.set_cons_zero, List.set_cons_succ]
            refine wpAnyH_ready (rs := [3]) (by kernel_rfl) (by simp) ?_
            refine AllReadyH.cons (o := o12x3) rfl (fun K hK => ?_) ?_
            ·
              go_simp
              go_at_call 56
              refine ((HC1.out _ hW)).mono ?_
              rintro e W9 ⟨VA, vA, rfl, hcA, rA, hb9⟩
              have hW9 := hW.trans (hb9.mono hW.size)
              refine hK.out _ _ (HSS.out _ hW9) (fun hHeld => ?_)
              clear hK K
              try simp only [List.setIfInBounds_toArray, List.set_cons_zero, List.set_cons_succ]
              have h9 := HZ1tu.out W9 VA vA B D hW9 hcA rA tb (t.below hb9 t.lt) ub (u.below hb9 u.lt)
              rw [HG.out, HA.out] at h9
              simp only [Act.put, List.setIfInBounds_toArray, List.set_cons_zero, List.set_cons_succ] at h9
              exact h9
            exact AllReadyH.nil
          have HZ0t : Hid (∀ (W : World) (B : Nat), Below W13.heap.size W13 W → W13.heap.size ≤ B → Blk W B 55 #[.slice none 0 0, .int .i64 0, .int .i64 0] → G 10 #[true, true, true, false, true, false, false, false, false, false, true, false, false, false, false] (a0.put (some 16) (.pointer (some ⟨B, 0, none⟩))) W) := by
            refine Lib.hid ?_
            intro W B hW tb t
            rw [HG.out, HA.out]
            simp only [Act.put, List.setIfInBounds_toArray, List.set_cons_zero, List.set_cons_succ]
            refine wpAnyH_ready (rs := [3, 11]) (by kernel_rfl) (by simp) ?_
            refine AllReadyH.cons (o := o12x3) rfl (fun K hK => ?_) ?_
            ·
              go_simp
              go_at_call 56
              refine ((HC1.out _ hW)).mono ?_
              rintro e W9 ⟨VA, vA, rfl, hcA, rA, hb9⟩
              have hW9 := hW.trans (hb9.mono hW.size)
              refine hK.out _ _ (HSS.out _ hW9) (fun hHeld => ?_)
              clear hK K
              try simp only [List.setIfInBounds_toArray, List.set_cons_zero, List.set_cons_succ]
              have h9 := HZ1t.out W9 VA vA B hW9 hcA rA tb (t.below hb9 t.lt)
              rw [HG.out, HA.out] at h9
              simp only [Act.put, List.setIfInBounds_toArray, List.set_cons_zero, List.set_cons_succ] at h9
              exact h9
            refine AllReadyH.cons (o := o12x11) rfl (fun K hK => ?_) ?_
            ·
              go_simp
              refine hK.out _ _ (HSS.out _ (hW.alloc hW.size _)) (fun hHeld => ?_)
              clear hK K
              try simp only [List.setIfInBounds_toArray, List.set_cons_zero, List.set_cons_succ]
              have h9 := HZ0tu.out _ B W.heap.size (hW.alloc hW.size _) tb (t.alloc _) hW.size (Blk.new W 25 _)
              rw [HG.out, HA.out] at h9
              simp only [Act.put, List.setIfInBounds_toArray, List.set_cons_zero, List.set_cons_succ] at h9
              exact h9
            exact AllReadyH.nil
          have HZ0u : Hid (∀ (W : World) (D : Nat), Below W13.heap.size W13 W → W13.heap.size ≤ D → Blk W D 25 #[.slice none 0 0, .slice none 0 0, .int .i64 0, .bool false] → G 10 #[true, true, true, false, true, false, false, false, false, false, false, true, false, false, false] (a0.put (some 17) (.pointer (some ⟨D, 0, none⟩))) W) := by
            refine Lib.hid ?_
            intro W D hW ub u
            rw [HG.out, HA.out]
            simp only [Act.put, List.setIfInBounds_toArray, List.set_cons_zero, List.set_cons_succ]
            refine wpAnyH_ready (rs := [3, 10]) (by kernel_rfl) (by simp) ?_
            refine AllReadyH.cons (o := o12x3) rfl (fun K hK => ?_) ?_
            ·
              go_simp
              go_at_call 56
              refine ((HC1.out _ hW)).mono ?_
              rintro e W9 ⟨VA, vA, rfl, hcA, rA, hb9⟩
              have hW9 := hW.trans (hb9.mono hW.size)
              refine hK.out _ _ (HSS.out _ hW9) (fun hHeld => ?_)
              clear hK K
              try simp only [List.setIfInBounds_toArray, List.set_cons_zero, List.set_cons_succ]
              have h9 := HZ1u.out W9 VA vA D hW9 hcA rA ub (u.below hb9 u.lt)
              rw [HG.out, HA.out] at h9
              simp only [Act.put, List.setIfInBounds_toArray, List.set_cons_zero, List.set_cons_succ] at h9
              exact h9
            refine AllReadyH.cons (o := o12x10) rfl (fun K hK => ?_) ?_
            ·
              go_simp
              refine hK.out _ _ (HSS.out _ (hW.alloc hW.size _)) (fun hHeld => ?_)
              clear hK K
              try simp only [List.setIfInBounds_toArray, List.set_cons_zero, List.set_cons_succ]
              have h9 := HZ0tu.out _ W.heap.size D (hW.alloc hW.size _) hW.size (Blk.new W 55 _) ub (u.alloc _)
              rw [HG.out, HA.out] at h9
              simp only [Act.put, List.setIfInBounds_toArray, List.set_cons_zero, List.set_cons_succ] at h9
              exact h9
            exact AllReadyH.nil
          have HZ0 : Hid (∀ (W : World), Below W13.heap.size W13 W → G 11 #[true, true, true, false, true, false, false, false, false, false, false, false, false, false, false] a0 W) := by
            refine Lib.hid ?_
            intro W  hW
            rw [HG.out, HA.out]
            try simp only [Act.put, List.setIfInBounds_toArray, List.set_cons_zero, List.set_cons_succ]
            refine wpAnyH_ready (rs := [3, 10, 11]) (by kernel_rfl) (by simp) ?_
            refine AllReadyH.cons (o := o12x3) rfl (fun K hK => ?_) ?_
            ·
              go_simp
              go_at_call 56
              refine ((HC1.out _ hW)).mono ?_
              rintro e W9 ⟨VA, vA, rfl, hcA, rA, hb9⟩
              have hW9 := hW.trans (hb9.mono hW.size)
              refine hK.out _ _ (HSS.out _ hW9) (fun hHeld => ?_)
              clear hK K
              try simp only [List.setIfInBounds_toArray, List.set_cons_zero, List.set_cons_succ]
              have h9 := HZ1.out W9 VA vA hW9 hcA rA
              rw [HG.out, HA.out] at h9
              simp only [Act.put, List.setIfInBounds_toArray, List.set_cons_zero, List.set_cons_succ] at h9
              exact h9
            refine AllReadyH.cons (o := o12x10) rfl (fun K hK => ?_) ?_
            ·
              go_simp
              refine hK.out _ _ (HSS.out _ (hW.alloc hW.size _)) (fun hHeld => ?_)
              clear hK K
              try simp only [List.setIfInBounds_toArray, List.set_cons_zero, List.set_cons_succ]
              have h9 := HZ0t.out _ W.heap.size (hW.alloc hW.size _) hW.size (Blk.new W 55 _)
              rw [HG.out, HA.out] at h9
              simp only [Act.put, List.setIfInBounds_toArray, List.set_cons_zero, List.set_cons_succ] at h9
              exact h9
            refine AllReadyH.cons (o := o12x11) rfl (fun K hK => ?_) ?_
            ·
              go_simp
              refine hK.out _ _ (HSS.out _ (hW.alloc hW.size _)) (fun hHeld => ?_)
              clear hK K
              try simp only [List.setIfInBounds_toArray, List.set_cons_zero, List.set_cons_succ]
              have h9 := HZ0u.out _ W.heap.size (hW.alloc hW.size _) hW.size (Blk.new W 25 _)
              rw [HG.out, HA.out] at h9
              simp only [Act.put, List.setIfInBounds_toArray, List.set_cons_zero, List.set_cons_succ] at h9
              exact h9
            exact AllReadyH.nil
          exact HZ0.out _ (Below.refl _ _).drew
        case rest =>
          obtain ⟨BG, DG, AG, cG, S17, s17, P17, p17, rfl, rfl, rfl, hBG, hDG, x16, x17, hcG, r16, hs17, r17, hb⟩ := hcut
          clear HC1 HC3 HSS
          replace r0 := r0.below hb
          replace r1 := r1.below hb
          replace r5 := r5.below hb
          replace r10 := r10.below hb
          replace r11 := r11.below hb
          replace r13 := r13.below hb
          replace r14 := r14.below hb
          replace x5 := x5.below hb x5.lt
          replace x10 := x10.below hb x10.lt
          replace x11 := x11.below hb x11.lt
          replace x13 := x13.below hb x13.lt
          replace x14 := x14.below hb x14.lt
          replace hw := hw.trans (hb.mono hw.size)
          clear x13c0 x13c1 x13c2 x13c3 x13l x14c0 x14c1 x14c2 x14c3 x14l
          clear hb
          obtain ⟨W16, hW16⟩ : ∃ W, W = wc := ⟨_, rfl⟩
          subst hW16
          clear x13 x14 x5
          clear r13 r14 r5 r0 r1
          have h3 : ∀ W' V v, Below W16.heap.size W16 W' → R1 ≤ v → RowsAt n₀ W' V R → Calls Try.prog 53 #[.agg #[.slice V R1 v, .int .i64 40, .int .i64 R1], .agg #[.slice S17 40 s17, .slice P17 0 p17, .int .i64 (-1), .bool false]] W' (fun e w' => ∃ A' c' S' s' P' p', e = .returned (.tuple #[.agg #[.slice A' R1 c', .int .i64 40, .int .i64 R1], .agg #[.slice S' 40 s', .slice P' 0 p', .int .i64 (-1), .bool false], .int .i64 0]) ∧ R1 ≤ c' ∧ RowsAt n₀ w' A' R ∧ 40 ≤ s' ∧ RowsAt n₀ w' S' y.secs ∧ Below W'.heap.size W' w') := fun W' V v h hv hr => sync_run (n₀ := n₀) (d := y) (y := y) Qy1.out Qy1.out HR2.out.symm Qs4.out (Nat.le_trans hn (Nat.le_trans hw.size h.size)) QhsR.out HR2.out hv hs17 hr (r17.below h)
          have HC3 := Lib.hid h3
          clear h3
          have x16c0 := x16.cell 0
          have x16c1 := x16.cell 1
          have x16c2 := x16.cell 2
          have x16c3 := x16.cell 3
          simp only [List.getElem?_toArray, List.getElem?_cons_zero, List.getElem?_cons_succ] at x16c0 x16c1 x16c2 x16c3
          have x16l := x16.lt
          have x17c0 := x17.cell 0
          have x17c1 := x17.cell 1
          have x17c2 := x17.cell 2
          have x17c3 := x17.cell 3
          simp only [List.getElem?_toArray, List.getElem?_cons_zero, List.getElem?_cons_succ] at x17c0 x17c1 x17c2 x17c3
          have x17l := x17.lt
          go_wp2_with (fail)
          have K : Calls Try.prog 53 #[.agg #[.slice AG R1 cG, .int .i64 40, .int .i64 R1], .agg #[.slice S17 40 s17, .slice P17 0 p17, .int .i64 (-1), .bool false]] W16 (fun e w' => ∃ A' c' S' s' P' p', e = .returned (.tuple #[.agg #[.slice A' R1 c', .int .i64 40, .int .i64 R1], .agg #[.slice S' 40 s', .slice P' 0 p', .int .i64 (-1), .bool false], .int .i64 0]) ∧ R1 ≤ c' ∧ RowsAt n₀ w' A' R ∧ 40 ≤ s' ∧ RowsAt n₀ w' S' y.secs ∧ Below W16.heap.size W16 w') := HC3.out _ _ _ (Below.refl _ _) hcG r16
          go_at_call 53
          refine K.mono ?_
          rintro e w6 ⟨A19, c19, S20, s20, P20, p20, rfl, hc19, r19, hs20, r20, hb⟩
          clear K
          replace r10 := r10.below hb
          replace r11 := r11.below hb
          replace r16 := r16.below hb
          replace r17 := r17.below hb
          replace x10 := x10.below hb x10.lt
          replace x11 := x11.below hb x11.lt
          replace x16 := x16.below hb x16.lt
          replace x17 := x17.below hb x17.lt
          replace hw := hw.trans (hb.mono hw.size)
          clear x16c0 x16c1 x16c2 x16c3 x16l x17c0 x17c1 x17c2 x17c3 x17l
          clear hb
          clear HC3
          go_upto_region 14 with (fail)
          obtain ⟨W7, hW7⟩ : ∃ W, W = (w6.alloc (.cells #[.slice A19 R1 c19, .int .i64 40, .int .i64 R1] 55)).alloc (.cells #[.slice S20 40 s20, .slice P20 0 p20, .int .i64 (-1), .bool false] 25) := ⟨_, rfl⟩
          rw [← hW7]
          have hb : Below w6.heap.size w6 W7 := by rw [hW7]; exact ((Below.refl _ _).alloc (Nat.le_refl _) _).alloc (by simp) _
          have x19 : Blk W7 w6.heap.size 55 #[.slice A19 R1 c19, .int .i64 40, .int .i64 R1] := by rw [hW7]; exact (Blk.new w6 55 _).alloc _
          have x20 : Blk W7 (w6.heap.size + 1) 25 #[.slice S20 40 s20, .slice P20 0 p20, .int .i64 (-1), .bool false] := by rw [hW7]; exact Blk.newAt (by simp) 25 _
          clear hW7
          replace r10 := r10.below hb
          replace r11 := r11.below hb
          replace r16 := r16.below hb
          replace r17 := r17.below hb
          replace r19 := r19.below hb
          replace r20 := r20.below hb
          replace x10 := x10.below hb x10.lt
          replace x11 := x11.below hb x11.lt
          replace x16 := x16.below hb x16.lt
          replace x17 := x17.below hb x17.lt
          replace hw := hw.trans (hb.mono hw.size)
          clear hb
          have x11c0 := x11.cell 0
          have x11c1 := x11.cell 1
          have x11c2 := x11.cell 2
          have x11c3 := x11.cell 3
          simp only [List.getElem?_toArray, List.getElem?_cons_zero, List.getElem?_cons_succ] at x11c0 x11c1 x11c2 x11c3
          have x11l := x11.lt
          go_wp2_with (fail)
          have K : Calls Try.prog 44 #[.agg #[.slice S11 40 s11, .slice P11 0 p11, .int .i64 (-1), .bool false]] W7 (fun e w' => ∃ A' c', e = .returned (.tuple #[.agg #[.slice A' R1 c', .int .i64 40, .int .i64 R1], .int .i64 0]) ∧ R1 ≤ c' ∧ RowsAt n₀ w' A' R ∧ Below W7.heap.size W7 w') := open_good (n₀ := n₀) Qc1.out (by decide) (Nat.le_trans hn hw.size) r11 HR2.out.symm
          go_at_call 44
          refine K.mono ?_
          rintro e w8 ⟨A22, c22, rfl, hc22, r22, hb⟩
          clear K
          replace r10 := r10.below hb
          replace r11 := r11.below hb
          replace r16 := r16.below hb
          replace r17 := r17.below hb
          replace r19 := r19.below hb
          replace r20 := r20.below hb
          replace x10 := x10.below hb x10.lt
          replace x11 := x11.below hb x11.lt
          replace x16 := x16.below hb x16.lt
          replace x17 := x17.below hb x17.lt
          replace x19 := x19.below hb x19.lt
          replace x20 := x20.below hb x20.lt
          replace hw := hw.trans (hb.mono hw.size)
          clear x11c0 x11c1 x11c2 x11c3 x11l
          clear hb
          go_upto_region 15 with (fail)
          obtain ⟨W9, hW9⟩ : ∃ W, W = w8.alloc (.cells #[.slice A22 R1 c22, .int .i64 40, .int .i64 R1] 55) := ⟨_, rfl⟩
          rw [← hW9]
          have hb : Below w8.heap.size w8 W9 := by rw [hW9]; exact (Below.refl _ _).alloc (Nat.le_refl _) _
          have x22 : Blk W9 w8.heap.size 55 #[.slice A22 R1 c22, .int .i64 40, .int .i64 R1] := by rw [hW9]; exact Blk.new w8 55 _
          clear hW9
          replace r10 := r10.below hb
          replace r11 := r11.below hb
          replace r16 := r16.below hb
          replace r17 := r17.below hb
          replace r19 := r19.below hb
          replace r20 := r20.below hb
          replace r22 := r22.below hb
          replace x10 := x10.below hb x10.lt
          replace x11 := x11.below hb x11.lt
          replace x16 := x16.below hb x16.lt
          replace x17 := x17.below hb x17.lt
          replace x19 := x19.below hb x19.lt
          replace x20 := x20.below hb x20.lt
          replace hw := hw.trans (hb.mono hw.size)
          clear hb
          have x20c0 := x20.cell 0
          have x20c1 := x20.cell 1
          have x20c2 := x20.cell 2
          have x20c3 := x20.cell 3
          simp only [List.getElem?_toArray, List.getElem?_cons_zero, List.getElem?_cons_succ] at x20c0 x20c1 x20c2 x20c3
          have x20l := x20.lt
          go_wp2_with (fail)
          have K : Calls Try.prog 44 #[.agg #[.slice S20 40 s20, .slice P20 0 p20, .int .i64 (-1), .bool false]] W9 (fun e w' => ∃ A' c', e = .returned (.tuple #[.agg #[.slice A' R1 c', .int .i64 40, .int .i64 R1], .int .i64 0]) ∧ R1 ≤ c' ∧ RowsAt n₀ w' A' R ∧ Below W9.heap.size W9 w') := open_good (n₀ := n₀) Qy1.out (by decide) (Nat.le_trans hn hw.size) r20 HR2.out.symm
          go_at_call 44
          refine K.mono ?_
          rintro e w10 ⟨A24, c24, rfl, hc24, r24, hb⟩
          clear K
          replace r10 := r10.below hb
          replace r11 := r11.below hb
          replace r16 := r16.below hb
          replace r17 := r17.below hb
          replace r19 := r19.below hb
          replace r20 := r20.below hb
          replace r22 := r22.below hb
          replace x10 := x10.below hb x10.lt
          replace x11 := x11.below hb x11.lt
          replace x16 := x16.below hb x16.lt
          replace x17 := x17.below hb x17.lt
          replace x19 := x19.below hb x19.lt
          replace x20 := x20.below hb x20.lt
          replace x22 := x22.below hb x22.lt
          replace hw := hw.trans (hb.mono hw.size)
          clear x20c0 x20c1 x20c2 x20c3 x20l
          clear hb
          go_upto_region 16 with (fail)
          obtain ⟨W11, hW11⟩ : ∃ W, W = w10.alloc (.cells #[.slice A24 R1 c24, .int .i64 40, .int .i64 R1] 55) := ⟨_, rfl⟩
          rw [← hW11]
          have hb : Below w10.heap.size w10 W11 := by rw [hW11]; exact (Below.refl _ _).alloc (Nat.le_refl _) _
          have x24 : Blk W11 w10.heap.size 55 #[.slice A24 R1 c24, .int .i64 40, .int .i64 R1] := by rw [hW11]; exact Blk.new w10 55 _
          clear hW11
          replace r10 := r10.below hb
          replace r11 := r11.below hb
          replace r16 := r16.below hb
          replace r17 := r17.below hb
          replace r19 := r19.below hb
          replace r20 := r20.below hb
          replace r22 := r22.below hb
          replace r24 := r24.below hb
          replace x10 := x10.below hb x10.lt
          replace x11 := x11.below hb x11.lt
          replace x16 := x16.below hb x16.lt
          replace x17 := x17.below hb x17.lt
          replace x19 := x19.below hb x19.lt
          replace x20 := x20.below hb x20.lt
          replace x22 := x22.below hb x22.lt
          replace hw := hw.trans (hb.mono hw.size)
          clear hb
          have x10c0 := x10.cell 0
          have x10c1 := x10.cell 1
          have x10c2 := x10.cell 2
          have x10c3 := x10.cell 3
          simp only [List.getElem?_toArray, List.getElem?_cons_zero, List.getElem?_cons_succ] at x10c0 x10c1 x10c2 x10c3
          have x10l := x10.lt
          have x16c0 := x16.cell 0
          have x16c1 := x16.cell 1
          have x16c2 := x16.cell 2
          have x16c3 := x16.cell 3
          simp only [List.getElem?_toArray, List.getElem?_cons_zero, List.getElem?_cons_succ] at x16c0 x16c1 x16c2 x16c3
          have x16l := x16.lt
          go_wp2_with (fail)
          have K : Calls Try.prog 46 #[.agg #[.slice AE R1 cE, .int .i64 40, .int .i64 R1], .agg #[.slice AG R1 cG, .int .i64 40, .int .i64 R1]] W11 (fun e w' => e = .returned (.bool true) ∧ Below W11.heap.size W11 w') := (by have hl : R.length ≤ 140737488355328 := (by have := HR2.out; omega); have h := jsame_t (n₀ := n₀) AE AG cE cG ⟨R, 40, R1⟩ ⟨R, 40, R1⟩ W11 hl hl r10 r16; rw [sameJ_self] at h; rw [← HR2.out] at h; exact h)
          go_at_call 46
          refine K.mono ?_
          rintro e w12 ⟨rfl, hb⟩
          clear K
          replace r10 := r10.below hb
          replace r11 := r11.below hb
          replace r16 := r16.below hb
          replace r17 := r17.below hb
          replace r19 := r19.below hb
          replace r20 := r20.below hb
          replace r22 := r22.below hb
          replace r24 := r24.below hb
          replace x10 := x10.below hb x10.lt
          replace x11 := x11.below hb x11.lt
          replace x16 := x16.below hb x16.lt
          replace x17 := x17.below hb x17.lt
          replace x19 := x19.below hb x19.lt
          replace x20 := x20.below hb x20.lt
          replace x22 := x22.below hb x22.lt
          replace x24 := x24.below hb x24.lt
          replace hw := hw.trans (hb.mono hw.size)
          clear x10c0 x10c1 x10c2 x10c3 x10l x16c0 x16c1 x16c2 x16c3 x16l
          clear hb
          have x19c0 := x19.cell 0
          have x19c1 := x19.cell 1
          have x19c2 := x19.cell 2
          have x19c3 := x19.cell 3
          simp only [List.getElem?_toArray, List.getElem?_cons_zero, List.getElem?_cons_succ] at x19c0 x19c1 x19c2 x19c3
          have x19l := x19.lt
          have x16c0 := x16.cell 0
          have x16c1 := x16.cell 1
          have x16c2 := x16.cell 2
          have x16c3 := x16.cell 3
          simp only [List.getElem?_toArray, List.getElem?_cons_zero, List.getElem?_cons_succ] at x16c0 x16c1 x16c2 x16c3
          have x16l := x16.lt
          go_wp2_with (fail)
          have K : Calls Try.prog 46 #[.agg #[.slice A19 R1 c19, .int .i64 40, .int .i64 R1], .agg #[.slice AG R1 cG, .int .i64 40, .int .i64 R1]] w12 (fun e w' => e = .returned (.bool true) ∧ Below w12.heap.size w12 w') := (by have hl : R.length ≤ 140737488355328 := (by have := HR2.out; omega); have h := jsame_t (n₀ := n₀) A19 AG c19 cG ⟨R, 40, R1⟩ ⟨R, 40, R1⟩ w12 hl hl r19 r16; rw [sameJ_self] at h; rw [← HR2.out] at h; exact h)
          go_at_call 46
          refine K.mono ?_
          rintro e w13 ⟨rfl, hb⟩
          clear K
          replace r10 := r10.below hb
          replace r11 := r11.below hb
          replace r16 := r16.below hb
          replace r17 := r17.below hb
          replace r19 := r19.below hb
          replace r20 := r20.below hb
          replace r22 := r22.below hb
          replace r24 := r24.below hb
          replace x10 := x10.below hb x10.lt
          replace x11 := x11.below hb x11.lt
          replace x16 := x16.below hb x16.lt
          replace x17 := x17.below hb x17.lt
          replace x19 := x19.below hb x19.lt
          replace x20 := x20.below hb x20.lt
          replace x22 := x22.below hb x22.lt
          replace x24 := x24.below hb x24.lt
          replace hw := hw.trans (hb.mono hw.size)
          clear x19c0 x19c1 x19c2 x19c3 x19l x16c0 x16c1 x16c2 x16c3 x16l
          clear hb
          have x22c0 := x22.cell 0
          have x22c1 := x22.cell 1
          have x22c2 := x22.cell 2
          have x22c3 := x22.cell 3
          simp only [List.getElem?_toArray, List.getElem?_cons_zero, List.getElem?_cons_succ] at x22c0 x22c1 x22c2 x22c3
          have x22l := x22.lt
          have x24c0 := x24.cell 0
          have x24c1 := x24.cell 1
          have x24c2 := x24.cell 2
          have x24c3 := x24.cell 3
          simp only [List.getElem?_toArray, List.getElem?_cons_zero, List.getElem?_cons_succ] at x24c0 x24c1 x24c2 x24c3
          have x24l := x24.lt
          go_wp2_with (fail)
          have K : Calls Try.prog 55 #[.slice A22 R1 c22, .slice A24 R1 c24] w13 (fun e w' => e = .returned (.bool true) ∧ Below w13.heap.size w13 w') := (by have hl : R.length ≤ 140737488355328 := (by have := HR2.out; omega); have h := sameR_t (n₀ := n₀) A22 A24 c22 c24 R R w13 hl hl r22 r24; rw [decide_eq_true rfl, ← HR2.out] at h; exact h)
          go_at_call 55
          refine K.mono ?_
          rintro e w14 ⟨rfl, hb⟩
          clear K
          replace r10 := r10.below hb
          replace r11 := r11.below hb
          replace r16 := r16.below hb
          replace r17 := r17.below hb
          replace r19 := r19.below hb
          replace r20 := r20.below hb
          replace r22 := r22.below hb
          replace r24 := r24.below hb
          replace x10 := x10.below hb x10.lt
          replace x11 := x11.below hb x11.lt
          replace x16 := x16.below hb x16.lt
          replace x17 := x17.below hb x17.lt
          replace x19 := x19.below hb x19.lt
          replace x20 := x20.below hb x20.lt
          replace x22 := x22.below hb x22.lt
          replace x24 := x24.below hb x24.lt
          replace hw := hw.trans (hb.mono hw.size)
          clear x22c0 x22c1 x22c2 x22c3 x22l x24c0 x24c1 x24c2 x24c3 x24l
          clear hb
          have x22c0 := x22.cell 0
          have x22c1 := x22.cell 1
          have x22c2 := x22.cell 2
          have x22c3 := x22.cell 3
          simp only [List.getElem?_toArray, List.getElem?_cons_zero, List.getElem?_cons_succ] at x22c0 x22c1 x22c2 x22c3
          have x22l := x22.lt
          have x10c0 := x10.cell 0
          have x10c1 := x10.cell 1
          have x10c2 := x10.cell 2
          have x10c3 := x10.cell 3
          simp only [List.getElem?_toArray, List.getElem?_cons_zero, List.getElem?_cons_succ] at x10c0 x10c1 x10c2 x10c3
          have x10l := x10.lt
          go_wp2_with (fail)
          have K : Calls Try.prog 55 #[.slice A22 R1 c22, .slice AE R1 cE] w14 (fun e w' => e = .returned (.bool true) ∧ Below w14.heap.size w14 w') := (by have hl : R.length ≤ 140737488355328 := (by have := HR2.out; omega); have h := sameR_t (n₀ := n₀) A22 AE c22 cE R R w14 hl hl r22 r10; rw [decide_eq_true rfl, ← HR2.out] at h; exact h)
          go_at_call 55
          refine K.mono ?_
          rintro e w15 ⟨rfl, hb⟩
          clear K
          replace r10 := r10.below hb
          replace r11 := r11.below hb
          replace r16 := r16.below hb
          replace r17 := r17.below hb
          replace r19 := r19.below hb
          replace r20 := r20.below hb
          replace r22 := r22.below hb
          replace r24 := r24.below hb
          replace x10 := x10.below hb x10.lt
          replace x11 := x11.below hb x11.lt
          replace x16 := x16.below hb x16.lt
          replace x17 := x17.below hb x17.lt
          replace x19 := x19.below hb x19.lt
          replace x20 := x20.below hb x20.lt
          replace x22 := x22.below hb x22.lt
          replace x24 := x24.below hb x24.lt
          replace hw := hw.trans (hb.mono hw.size)
          clear x22c0 x22c1 x22c2 x22c3 x22l x10c0 x10c1 x10c2 x10c3 x10l
          clear hb
          have x17c0 := x17.cell 0
          have x17c1 := x17.cell 1
          have x17c2 := x17.cell 2
          have x17c3 := x17.cell 3
          simp only [List.getElem?_toArray, List.getElem?_cons_zero, List.getElem?_cons_succ] at x17c0 x17c1 x17c2 x17c3
          have x17l := x17.lt
          have x20c0 := x20.cell 0
          have x20c1 := x20.cell 1
          have x20c2 := x20.cell 2
          have x20c3 := x20.cell 3
          simp only [List.getElem?_toArray, List.getElem?_cons_zero, List.getElem?_cons_succ] at x20c0 x20c1 x20c2 x20c3
          have x20l := x20.lt
          go_wp2_with (fail)
          have K : Calls Try.prog 27 #[.agg #[.slice S17 40 s17, .slice P17 0 p17, .int .i64 (-1), .bool false], .agg #[.slice S20 40 s20, .slice P20 0 p20, .int .i64 (-1), .bool false]] w15 (fun e w' => e = .returned (.bool true) ∧ Below w15.heap.size w15 w') := (by have q1 : WrsAt n₀ w15 P17 y.pend := (by rw [Qy1.out.pend]; exact WrsAt.nil _ _); have q2 : WrsAt n₀ w15 P20 y.pend := (by rw [Qy1.out.pend]; exact WrsAt.nil _ _); have h := same_t (n₀ := n₀) S17 P17 S20 P20 s17 p17 s20 p20 40 0 40 0 y y w15 Qy1.out.len.symm (by rw [Qy1.out.pend]; rfl) Qy1.out.len.symm (by rw [Qy1.out.pend]; rfl) (by decide) (by decide) (by decide) (by decide) r17 q1 r20 q2; rw [same_yes rfl, Qy1.out.left, Qy1.out.runs.2] at h; exact h)
          go_at_call 27
          refine K.mono ?_
          rintro e w16 ⟨rfl, hb⟩
          clear K
          replace r10 := r10.below hb
          replace r11 := r11.below hb
          replace r16 := r16.below hb
          replace r17 := r17.below hb
          replace r19 := r19.below hb
          replace r20 := r20.below hb
          replace r22 := r22.below hb
          replace r24 := r24.below hb
          replace x10 := x10.below hb x10.lt
          replace x11 := x11.below hb x11.lt
          replace x16 := x16.below hb x16.lt
          replace x17 := x17.below hb x17.lt
          replace x19 := x19.below hb x19.lt
          replace x20 := x20.below hb x20.lt
          replace x22 := x22.below hb x22.lt
          replace x24 := x24.below hb x24.lt
          replace hw := hw.trans (hb.mono hw.size)
          clear x17c0 x17c1 x17c2 x17c3 x17l x20c0 x20c1 x20c2 x20c3 x20l
          clear hb
          go_wp2
          go_ret
          exact ⟨rfl, hw⟩
end Go.Proofs.Ytckeopidedoohaa
