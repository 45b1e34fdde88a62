/-
  JournalOpenSpec walked: it answers true. Conditions: at most 1048576 sectors and writes.
-/
import Derived.Test.YtckeopidedoohaaJro
import Derived.Test.YtckeopidedoohaaJfw
import Derived.Test.YtckeopidedoohaaJsn
namespace Go.Proofs.Ytckeopidedoohaa
open Go.RowKit
variable {n₀ : Nat}
attribute [local go_sem] Oper.semAt_some

/-- The law answers true, and leaves alone what lay. -/
def YesO (w : World) (e : Ending) (w' : World) : Prop := e = .returned (.bool true) ∧ Below w.heap.size w w'
theorem gRecs_len (l : List Bs) : (gRecs l).length ≤ l.length := by
  unfold gRecs
  rw [List.length_map]
  exact recs_len l _ _ _
theorem gOpen_len (d : Dk) : (gOpen d).1.recs.length ≤ d.secs.length := by
  unfold gOpen
  split
  · exact Nat.zero_le _
  split
  · exact Nat.zero_le _
  split
  · exact Nat.zero_le _
  exact gRecs_len _

set_option maxRecDepth 20000 in
set_option maxHeartbeats 4000000 in
theorem journalOpen_t (SA PA : Option Addr) (sc pc : Nat) (d : Dk) (w : World) (hn : n₀ ≤ w.heap.size) (hl1 : d.secs.length ≤ 1048576) (hl2 : d.pend.length ≤ 1048576) (h1 : RowsAt n₀ w SA d.secs) (h2 : WrsAt n₀ w PA d.pend) :
    Calls Try.prog 10 #[.agg #[.slice SA d.secs.length sc, .slice PA d.pend.length pc, .int .i64 d.left, .bool d.stop]] w (YesO w) := by
  obtain ⟨j, hj⟩ : ∃ j, j = (gOpen d).1 := ⟨_, rfl⟩
  obtain ⟨f, hf⟩ : ∃ j, j = (gOpen d).2 := ⟨_, rfl⟩
  have hjl : j.recs.length ≤ 1048576 := by rw [hj]; exact Nat.le_trans (gOpen_len d) hl1
  have HJ := Lib.hid hj
  have HF := Lib.hid hf
  clear hj hf
  go_enter Try.func10, Try.ntmps10
  go_upto_region 1 with (fail)
  obtain ⟨W1, hW1⟩ : ∃ W, W = w.alloc (.cells #[.slice SA d.secs.length sc, .slice PA d.pend.length pc, .int .i64 d.left, .bool d.stop] 25) := ⟨_, rfl⟩
  rw [← hW1]
  have hb : Below w.heap.size w W1 := by rw [hW1]; exact (Below.refl _ _).alloc (Nat.le_refl _) _
  have x1 : Blk W1 w.heap.size 25 #[.slice SA d.secs.length sc, .slice PA d.pend.length pc, .int .i64 d.left, .bool d.stop] := by rw [hW1]; exact Blk.new w 25 _
  clear hW1
  replace h1 := h1.below hb
  replace h2 := h2.below hb
  have hw := hb
  clear hb
  go_wp2_with (fail)
  have K : Calls Try.prog 42 #[] W1 (fun e w' => e = .returned (.bool true) ∧ Below W1.heap.size W1 w') := jsane_t W1
  go_at_call 42
  refine K.mono ?_
  rintro e w2 ⟨rfl, hb⟩
  clear K
  replace h1 := h1.below hb
  replace h2 := h2.below hb
  replace x1 := x1.below hb x1.lt
  replace hw := hw.trans (hb.mono hw.size)
  clear hb
  have x1c0 := x1.cell 0
  have x1c1 := x1.cell 1
  have x1c2 := x1.cell 2
  have x1c3 := x1.cell 3
  simp only [List.getElem?_toArray, List.getElem?_cons_zero, List.getElem?_cons_succ] at x1c0 x1c1 x1c2 x1c3
  have x1l := x1.lt
  go_wp2_with (fail)
  obtain ⟨y, hy⟩ : ∃ y, y = fewB d.secs.length d.pend.length [] := ⟨_, rfl⟩
  have HY := Lib.hid hy
  clear hy
  have K : Calls Try.prog 43 #[.agg #[.slice SA d.secs.length sc, .slice PA d.pend.length pc, .int .i64 d.left, .bool d.stop], .slice none 0 0] w2 (fun e w' => e = .returned (.bool y) ∧ Below w2.heap.size w2 w') := by rw [HY.out]; exact few5_t (n₀ := n₀) SA PA none sc pc 0 d.secs.length d.pend.length d.left d.stop [] w2 hl1 hl2 (by simp) (fun b hb => by cases hb) (RowsAt.nil _ _)
  go_at_call 43
  refine K.mono ?_
  rintro e w3 ⟨rfl, hb⟩
  clear K
  replace h1 := h1.below hb
  replace h2 := h2.below hb
  replace x1 := x1.below hb x1.lt
  replace hw := hw.trans (hb.mono hw.size)
  clear x1c0 x1c1 x1c2 x1c3 x1l
  clear hb
  cases y
  case false =>
    go_wp2
    go_ret
    exact ⟨rfl, hw⟩
  have x1c0 := x1.cell 0
  have x1c1 := x1.cell 1
  have x1c2 := x1.cell 2
  have x1c3 := x1.cell 3
  simp only [List.getElem?_toArray, List.getElem?_cons_zero, List.getElem?_cons_succ] at x1c0 x1c1 x1c2 x1c3
  have x1l := x1.lt
  go_wp2_with (fail)
  have K : Calls Try.prog 44 #[.agg #[.slice SA d.secs.length sc, .slice PA d.pend.length pc, .int .i64 d.left, .bool d.stop]] w3 (fun e w' => ∃ A c, e = .returned (.tuple #[.agg #[.slice A j.recs.length c, .int .i64 j.many, .int .i64 j.sync], .int .i64 f]) ∧ RowsAt n₀ w' A j.recs ∧ Below w3.heap.size w3 w') := (by have h := open_t (n₀ := n₀) SA PA sc pc d w3 (Nat.le_trans hn hw.size) (by omega) (by omega) h1 h2; refine h.mono fun e w9 hx => ?_; obtain ⟨v, rfl, ⟨A, c, rfl, hc, hr⟩, hb⟩ := hx; rw [HJ.out, HF.out]; exact ⟨A, c, rfl, hr, hb⟩)
  go_at_call 44
  refine K.mono ?_
  rintro e w4 ⟨A3, c3, rfl, r3, hb⟩
  clear K
  replace h1 := h1.below hb
  replace h2 := h2.below hb
  replace x1 := x1.below hb x1.lt
  replace hw := hw.trans (hb.mono hw.size)
  clear x1c0 x1c1 x1c2 x1c3 x1l
  clear hb
  go_upto_region 6 with (fail)
  obtain ⟨W5, hW5⟩ : ∃ W, W = w4.alloc (.cells #[.slice A3 j.recs.length c3, .int .i64 j.many, .int .i64 j.sync] 55) := ⟨_, rfl⟩
  rw [← hW5]
  have hb : Below w4.heap.size w4 W5 := by rw [hW5]; exact (Below.refl _ _).alloc (Nat.le_refl _) _
  have x3 : Blk W5 w4.heap.size 55 #[.slice A3 j.recs.length c3, .int .i64 j.many, .int .i64 j.sync] := by rw [hW5]; exact Blk.new w4 55 _
  clear hW5
  replace h1 := h1.below hb
  replace h2 := h2.below hb
  replace r3 := r3.below hb
  replace x1 := x1.below hb x1.lt
  replace hw := hw.trans (hb.mono hw.size)
  clear hb
  have x1c0 := x1.cell 0
  have x1c1 := x1.cell 1
  have x1c2 := x1.cell 2
  have x1c3 := x1.cell 3
  simp only [List.getElem?_toArray, List.getElem?_cons_zero, List.getElem?_cons_succ] at x1c0 x1c1 x1c2 x1c3
  have x1l := x1.lt
  go_wp2_with (fail)
  have K : Calls Try.prog 45 #[.agg #[.slice SA d.secs.length sc, .slice PA d.pend.length pc, .int .i64 d.left, .bool d.stop]] W5 (fun e w' => ∃ A c, e = .returned (.tuple #[.agg #[.slice A j.recs.length c, .int .i64 j.many, .int .i64 j.sync], .int .i64 f]) ∧ RowsAt n₀ w' A j.recs ∧ Below W5.heap.size W5 w') := (by have h := ropenJ_t (n₀ := n₀) SA PA sc pc d W5 (Nat.le_trans hn hw.size) (by omega) (by omega) h1 h2; refine h.mono fun e w9 hx => ?_; obtain ⟨v, rfl, ⟨A, c, rfl, hc, hr⟩, hb⟩ := hx; rw [HJ.out, HF.out]; exact ⟨A, c, rfl, hr, hb⟩)
  go_at_call 45
  refine K.mono ?_
  rintro e w6 ⟨A5, c5, rfl, r5, hb⟩
  clear K
  replace h1 := h1.below hb
  replace h2 := h2.below hb
  replace r3 := r3.below hb
  replace x1 := x1.below hb x1.lt
  replace x3 := x3.below hb x3.lt
  replace hw := hw.trans (hb.mono hw.size)
  clear x1c0 x1c1 x1c2 x1c3 x1l
  clear hb
  go_upto_region 7 with (fail)
  obtain ⟨W7, hW7⟩ : ∃ W, W = w6.alloc (.cells #[.slice A5 j.recs.length c5, .int .i64 j.many, .int .i64 j.sync] 55) := ⟨_, rfl⟩
  rw [← hW7]
  have hb : Below w6.heap.size w6 W7 := by rw [hW7]; exact (Below.refl _ _).alloc (Nat.le_refl _) _
  have x5 : Blk W7 w6.heap.size 55 #[.slice A5 j.recs.length c5, .int .i64 j.many, .int .i64 j.sync] := by rw [hW7]; exact Blk.new w6 55 _
  clear hW7
  replace h1 := h1.below hb
  replace h2 := h2.below hb
  replace r3 := r3.below hb
  replace r5 := r5.below hb
  replace x1 := x1.below hb x1.lt
  replace x3 := x3.below hb x3.lt
  replace hw := hw.trans (hb.mono hw.size)
  clear hb
  have x3c0 := x3.cell 0
  have x3c1 := x3.cell 1
  have x3c2 := x3.cell 2
  simp only [List.getElem?_toArray, List.getElem?_cons_zero, List.getElem?_cons_succ] at x3c0 x3c1 x3c2
  have x3l := x3.lt
  have x5c0 := x5.cell 0
  have x5c1 := x5.cell 1
  have x5c2 := x5.cell 2
  simp only [List.getElem?_toArray, List.getElem?_cons_zero, List.getElem?_cons_succ] at x5c0 x5c1 x5c2
  have x5l := x5.lt
  go_wp2_with (fail)
  have K : Calls Try.prog 46 #[.agg #[.slice A3 j.recs.length c3, .int .i64 j.many, .int .i64 j.sync], .agg #[.slice A5 j.recs.length c5, .int .i64 j.many, .int .i64 j.sync]] W7 (fun e w' => e = .returned (.bool true) ∧ Below W7.heap.size W7 w') := (by have h := jsame_t (n₀ := n₀) A3 A5 c3 c5 j j W7 (by omega) (by omega) r3 r5; rw [sameJ_self] at h; exact h)
  go_at_call 46
  refine K.mono ?_
  rintro e w8 ⟨rfl, hb⟩
  clear K
  replace h1 := h1.below hb
  replace h2 := h2.below hb
  replace r3 := r3.below hb
  replace r5 := r5.below hb
  replace x1 := x1.below hb x1.lt
  replace x3 := x3.below hb x3.lt
  replace x5 := x5.below hb x5.lt
  replace hw := hw.trans (hb.mono hw.size)
  clear x3c0 x3c1 x3c2 x3l x5c0 x5c1 x5c2 x5l
  clear hb
  go_wp2_with (fail)
  go_ret
  exact ⟨rfl, hw⟩
end Go.Proofs.Ytckeopidedoohaa
