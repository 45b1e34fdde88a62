/-
  DiskSyncSpec walked: it answers true.
-/
import Derived.Test.YtckeopidedoohaaLw9
import Derived.Test.YtckeopidedoohaaDrs
namespace Go.Proofs.Ytckeopidedoohaa
open Go.RowKit
variable {n₀ : Nat}
attribute [local go_sem] Oper.semAt_some

theorem sync_small (d : Dk) : (gSync d).1.secs.length ≤ d.secs.length ∧ (gSync d).1.pend.length = 0 := by
  unfold gSync
  split
  · exact ⟨Nat.zero_le _, rfl⟩
  · split
    · exact ⟨by simp [tornL, perfL_len], rfl⟩
    · exact ⟨by simp [perfL_len], rfl⟩
theorem stop_small (d : Dk) (left : Int) : (gStop d left).1.secs.length ≤ d.secs.length ∧ (gStop d left).1.pend.length ≤ d.pend.length := by
  unfold gStop
  split
  · exact ⟨Nat.zero_le _, Nat.zero_le _⟩
  · split
    · exact ⟨Nat.zero_le _, Nat.zero_le _⟩
    · exact ⟨Nat.le_refl _, Nat.le_refl _⟩

set_option maxRecDepth 20000 in
set_option maxHeartbeats 4000000 in
theorem syncSpec_t (SA PA : Option Addr) (sc pc : Nat) (d : Dk) (left : Int) (w : World) (hn : n₀ ≤ w.heap.size) (hre : Reach d) (hcs : d.secs.length ≤ sc) (hcp : d.pend.length ≤ pc) (r0 : RowsAt n₀ w SA d.secs) (q0 : WrsAt n₀ w PA d.pend) :
    Calls Try.prog 5 #[.agg #[.slice SA d.secs.length sc, .slice PA d.pend.length pc, .int .i64 d.left, .bool d.stop], .int .i64 left] w (Yes w) := by
  obtain ⟨hl1, hl2⟩ := reach_le hre
  have HRE := Lib.hid hre
  clear hre
  obtain ⟨⟨x, ex⟩, hgw⟩ : ∃ r, r = gSync d := ⟨_, rfl⟩
  have hsm := sync_small d
  rw [← hgw] at hsm
  obtain ⟨hx1, hx2⟩ := hsm
  have HGW := Lib.hid hgw
  dsimp only at hx1 hx2
  obtain ⟨⟨z, ez⟩, hgr⟩ : ∃ r, r = gStop d left := ⟨_, rfl⟩
  have hsm := stop_small d left
  rw [← hgr] at hsm
  obtain ⟨hz1, hz2⟩ := hsm
  have HGR := Lib.hid hgr
  dsimp only at hz1 hz2
  clear hgw hgr
  have hx3 : x.pend.length ≤ 0 := by omega
  clear hx2
  go_enter Try.func5, Try.ntmps5
  go_wp2_with (fail)
  obtain ⟨W1, hW1⟩ : ∃ W, W = w.alloc (.cells #[.slice SA d.secs.length sc, .slice PA d.pend.length pc, .int .i64 d.left, .bool d.stop] 25) := ⟨_, rfl⟩
  rw [← hW1]
  have hb : Below w.heap.size w W1 := by rw [hW1]; exact (Below.refl _ _).alloc (Nat.le_refl _) _
  have x2 : Blk W1 w.heap.size 25 #[.slice SA d.secs.length sc, .slice PA d.pend.length pc, .int .i64 d.left, .bool d.stop] := by rw [hW1]; exact Blk.new w 25 _
  clear hW1
  replace r0 := r0.below hb
  replace q0 := q0.below hb
  have hw := hb
  clear hb
  have K : Calls Try.prog 23 #[] W1 (fun e w' => e = .returned (.bool true) ∧ Below W1.heap.size W1 w') := sane_t W1
  go_at_call 23
  refine K.mono ?_
  rintro e w2 ⟨rfl, hb⟩
  clear K
  replace r0 := r0.below hb
  replace q0 := q0.below hb
  replace x2 := x2.below hb x2.lt
  replace hw := hw.trans (hb.mono hw.size)
  clear hb
  have x2c0 := x2.cell 0
  have x2c1 := x2.cell 1
  have x2c2 := x2.cell 2
  have x2c3 := x2.cell 3
  simp only [List.getElem?_toArray, List.getElem?_cons_zero, List.getElem?_cons_succ] at x2c0 x2c1 x2c2 x2c3
  have x2l := x2.lt
  go_wp2_with (fail)
  have K : Calls Try.prog 24 #[.agg #[.slice SA d.secs.length sc, .slice PA d.pend.length pc, .int .i64 d.left, .bool d.stop]] w2 (FewIs w2 d) := few_t SA PA sc pc d w2 HRE.out r0 q0
  go_at_call 24
  refine K.mono ?_
  rintro e w3 ⟨y, rfl, hy, hb⟩
  clear K
  replace r0 := r0.below hb
  replace q0 := q0.below hb
  replace x2 := x2.below hb x2.lt
  replace hw := hw.trans (hb.mono hw.size)
  clear x2c0 x2c1 x2c2 x2c3 x2l
  clear hb
  cases y
  case false =>
    go_wp2
    go_ret
    exact ⟨rfl, hw⟩
  obtain ⟨hy1, hy2⟩ := hy rfl
  clear hy
  have x2c0 := x2.cell 0
  have x2c1 := x2.cell 1
  have x2c2 := x2.cell 2
  have x2c3 := x2.cell 3
  simp only [List.getElem?_toArray, List.getElem?_cons_zero, List.getElem?_cons_succ] at x2c0 x2c1 x2c2 x2c3
  have x2l := x2.lt
  go_wp2_with (fail)
  have K : Calls Try.prog 36 #[.agg #[.slice SA d.secs.length sc, .slice PA d.pend.length pc, .int .i64 d.left, .bool d.stop]] w3 (DkIs n₀ w3 ((x, ex))) := by rw [HGW.out]; exact sync_t SA PA sc pc d w3 hl1 hl2 hcp r0 q0
  go_at_call 36
  refine K.mono ?_
  rintro e w4 ⟨v5, rfl, ⟨S5, s5, P5, p5, rfl, hs5, hp5, r5, q5⟩, hb⟩
  clear K
  replace r0 := r0.below hb
  replace q0 := q0.below hb
  replace x2 := x2.below hb x2.lt
  replace hw := hw.trans (hb.mono hw.size)
  clear x2c0 x2c1 x2c2 x2c3 x2l
  clear hb
  have x2c0 := x2.cell 0
  have x2c1 := x2.cell 1
  have x2c2 := x2.cell 2
  have x2c3 := x2.cell 3
  simp only [List.getElem?_toArray, List.getElem?_cons_zero, List.getElem?_cons_succ] at x2c0 x2c1 x2c2 x2c3
  have x2l := x2.lt
  go_upto_region 6 with (fail)
  clear x2c0 x2c1 x2c2 x2c3 x2l
  obtain ⟨W5, hW5⟩ : ∃ W, W = w4.alloc (.cells #[.slice S5 x.secs.length s5, .slice P5 x.pend.length p5, .int .i64 x.left, .bool x.stop] 25) := ⟨_, rfl⟩
  rw [← hW5]
  have hb : Below w4.heap.size w4 W5 := by rw [hW5]; exact (Below.refl _ _).alloc (Nat.le_refl _) _
  have x5 : Blk W5 w4.heap.size 25 #[.slice S5 x.secs.length s5, .slice P5 x.pend.length p5, .int .i64 x.left, .bool x.stop] := by rw [hW5]; exact Blk.new w4 25 _
  clear hW5
  replace r0 := r0.below hb
  replace q0 := q0.below hb
  replace r5 := r5.below hb
  replace q5 := q5.below hb
  replace x2 := x2.below hb x2.lt
  replace hw := hw.trans (hb.mono hw.size)
  clear hb
  have x2c0 := x2.cell 0
  have x2c1 := x2.cell 1
  have x2c2 := x2.cell 2
  have x2c3 := x2.cell 3
  simp only [List.getElem?_toArray, List.getElem?_cons_zero, List.getElem?_cons_succ] at x2c0 x2c1 x2c2 x2c3
  have x2l := x2.lt
  go_wp2_with (fail)
  have K : Calls Try.prog 37 #[.agg #[.slice SA d.secs.length sc, .slice PA d.pend.length pc, .int .i64 d.left, .bool d.stop]] W5 (DkIs n₀ W5 ((x, ex))) := by rw [HGW.out]; exact rsync_t SA PA sc pc d W5 hl1 hl2 r0 q0
  go_at_call 37
  refine K.mono ?_
  rintro e w6 ⟨v7, rfl, ⟨S7, s7, P7, p7, rfl, hs7, hp7, r7, q7⟩, hb⟩
  clear K
  replace r0 := r0.below hb
  replace q0 := q0.below hb
  replace r5 := r5.below hb
  replace q5 := q5.below hb
  replace x2 := x2.below hb x2.lt
  replace x5 := x5.below hb x5.lt
  replace hw := hw.trans (hb.mono hw.size)
  clear x2c0 x2c1 x2c2 x2c3 x2l
  clear hb
  have x2c0 := x2.cell 0
  have x2c1 := x2.cell 1
  have x2c2 := x2.cell 2
  have x2c3 := x2.cell 3
  simp only [List.getElem?_toArray, List.getElem?_cons_zero, List.getElem?_cons_succ] at x2c0 x2c1 x2c2 x2c3
  have x2l := x2.lt
  go_upto_region 7 with (fail)
  clear x2c0 x2c1 x2c2 x2c3 x2l
  obtain ⟨W7, hW7⟩ : ∃ W, W = w6.alloc (.cells #[.slice S7 x.secs.length s7, .slice P7 x.pend.length p7, .int .i64 x.left, .bool x.stop] 25) := ⟨_, rfl⟩
  rw [← hW7]
  have hb : Below w6.heap.size w6 W7 := by rw [hW7]; exact (Below.refl _ _).alloc (Nat.le_refl _) _
  have x7 : Blk W7 w6.heap.size 25 #[.slice S7 x.secs.length s7, .slice P7 x.pend.length p7, .int .i64 x.left, .bool x.stop] := by rw [hW7]; exact Blk.new w6 25 _
  clear hW7
  replace r0 := r0.below hb
  replace q0 := q0.below hb
  replace r5 := r5.below hb
  replace q5 := q5.below hb
  replace r7 := r7.below hb
  replace q7 := q7.below hb
  replace x2 := x2.below hb x2.lt
  replace x5 := x5.below hb x5.lt
  replace hw := hw.trans (hb.mono hw.size)
  clear hb
  have x2c0 := x2.cell 0
  have x2c1 := x2.cell 1
  have x2c2 := x2.cell 2
  have x2c3 := x2.cell 3
  simp only [List.getElem?_toArray, List.getElem?_cons_zero, List.getElem?_cons_succ] at x2c0 x2c1 x2c2 x2c3
  have x2l := x2.lt
  go_wp2_with (fail)
  have K : Calls Try.prog 38 #[.agg #[.slice SA d.secs.length sc, .slice PA d.pend.length pc, .int .i64 d.left, .bool d.stop], .int .i64 left] W7 (DkIs n₀ W7 ((z, ez))) := by rw [HGR.out]; exact stop_t SA PA sc pc d left W7 hl1 hl2 hcs hcp r0 q0
  go_at_call 38
  refine K.mono ?_
  rintro e w8 ⟨v9, rfl, ⟨S9, s9, P9, p9, rfl, hs9, hp9, r9, q9⟩, hb⟩
  clear K
  replace r0 := r0.below hb
  replace q0 := q0.below hb
  replace r5 := r5.below hb
  replace q5 := q5.below hb
  replace r7 := r7.below hb
  replace q7 := q7.below hb
  replace x2 := x2.below hb x2.lt
  replace x5 := x5.below hb x5.lt
  replace x7 := x7.below hb x7.lt
  replace hw := hw.trans (hb.mono hw.size)
  clear x2c0 x2c1 x2c2 x2c3 x2l
  clear hb
  have x2c0 := x2.cell 0
  have x2c1 := x2.cell 1
  have x2c2 := x2.cell 2
  have x2c3 := x2.cell 3
  simp only [List.getElem?_toArray, List.getElem?_cons_zero, List.getElem?_cons_succ] at x2c0 x2c1 x2c2 x2c3
  have x2l := x2.lt
  go_upto_region 8 with (fail)
  clear x2c0 x2c1 x2c2 x2c3 x2l
  obtain ⟨W9, hW9⟩ : ∃ W, W = w8.alloc (.cells #[.slice S9 z.secs.length s9, .slice P9 z.pend.length p9, .int .i64 z.left, .bool z.stop] 25) := ⟨_, rfl⟩
  rw [← hW9]
  have hb : Below w8.heap.size w8 W9 := by rw [hW9]; exact (Below.refl _ _).alloc (Nat.le_refl _) _
  have x9 : Blk W9 w8.heap.size 25 #[.slice S9 z.secs.length s9, .slice P9 z.pend.length p9, .int .i64 z.left, .bool z.stop] := by rw [hW9]; exact Blk.new w8 25 _
  clear hW9
  replace r0 := r0.below hb
  replace q0 := q0.below hb
  replace r5 := r5.below hb
  replace q5 := q5.below hb
  replace r7 := r7.below hb
  replace q7 := q7.below hb
  replace r9 := r9.below hb
  replace q9 := q9.below hb
  replace x2 := x2.below hb x2.lt
  replace x5 := x5.below hb x5.lt
  replace x7 := x7.below hb x7.lt
  replace hw := hw.trans (hb.mono hw.size)
  clear hb
  have x2c0 := x2.cell 0
  have x2c1 := x2.cell 1
  have x2c2 := x2.cell 2
  have x2c3 := x2.cell 3
  simp only [List.getElem?_toArray, List.getElem?_cons_zero, List.getElem?_cons_succ] at x2c0 x2c1 x2c2 x2c3
  have x2l := x2.lt
  go_wp2_with (fail)
  have K : Calls Try.prog 39 #[.agg #[.slice SA d.secs.length sc, .slice PA d.pend.length pc, .int .i64 d.left, .bool d.stop], .int .i64 left] W9 (DkIs n₀ W9 ((z, ez))) := by rw [HGR.out]; exact rstop_t SA PA sc pc d left W9 hl1 hl2 hcs hcp r0 q0
  go_at_call 39
  refine K.mono ?_
  rintro e w10 ⟨v11, rfl, ⟨S11, s11, P11, p11, rfl, hs11, hp11, r11, q11⟩, hb⟩
  clear K
  replace r0 := r0.below hb
  replace q0 := q0.below hb
  replace r5 := r5.below hb
  replace q5 := q5.below hb
  replace r7 := r7.below hb
  replace q7 := q7.below hb
  replace r9 := r9.below hb
  replace q9 := q9.below hb
  replace x2 := x2.below hb x2.lt
  replace x5 := x5.below hb x5.lt
  replace x7 := x7.below hb x7.lt
  replace x9 := x9.below hb x9.lt
  replace hw := hw.trans (hb.mono hw.size)
  clear x2c0 x2c1 x2c2 x2c3 x2l
  clear hb
  go_upto_region 9 with (fail)
  obtain ⟨W11, hW11⟩ : ∃ W, W = w10.alloc (.cells #[.slice S11 z.secs.length s11, .slice P11 z.pend.length p11, .int .i64 z.left, .bool z.stop] 25) := ⟨_, rfl⟩
  rw [← hW11]
  have hb : Below w10.heap.size w10 W11 := by rw [hW11]; exact (Below.refl _ _).alloc (Nat.le_refl _) _
  have x11 : Blk W11 w10.heap.size 25 #[.slice S11 z.secs.length s11, .slice P11 z.pend.length p11, .int .i64 z.left, .bool z.stop] := by rw [hW11]; exact Blk.new w10 25 _
  clear hW11
  replace r0 := r0.below hb
  replace q0 := q0.below hb
  replace r5 := r5.below hb
  replace q5 := q5.below hb
  replace r7 := r7.below hb
  replace q7 := q7.below hb
  replace r9 := r9.below hb
  replace q9 := q9.below hb
  replace r11 := r11.below hb
  replace q11 := q11.below hb
  replace x2 := x2.below hb x2.lt
  replace x5 := x5.below hb x5.lt
  replace x7 := x7.below hb x7.lt
  replace x9 := x9.below hb x9.lt
  replace hw := hw.trans (hb.mono hw.size)
  clear hb
  have e1 : (ex == ex) = true := beq_self_eq_true _
  have e2 : (ez == ez) = true := beq_self_eq_true _
  have x5c0 := x5.cell 0
  have x5c1 := x5.cell 1
  have x5c2 := x5.cell 2
  have x5c3 := x5.cell 3
  simp only [List.getElem?_toArray, List.getElem?_cons_zero, List.getElem?_cons_succ] at x5c0 x5c1 x5c2 x5c3
  have x5l := x5.lt
  have x7c0 := x7.cell 0
  have x7c1 := x7.cell 1
  have x7c2 := x7.cell 2
  have x7c3 := x7.cell 3
  simp only [List.getElem?_toArray, List.getElem?_cons_zero, List.getElem?_cons_succ] at x7c0 x7c1 x7c2 x7c3
  have x7l := x7.lt
  go_wp2_with (fail)
  have K : Calls Try.prog 27 #[.agg #[.slice S5 x.secs.length s5, .slice P5 x.pend.length p5, .int .i64 x.left, .bool x.stop], .agg #[.slice S7 x.secs.length s7, .slice P7 x.pend.length p7, .int .i64 x.left, .bool x.stop]] W11 (fun e w' => e = .returned (.bool (sameD x x)) ∧ Below W11.heap.size W11 w') := same_t S5 P5 S7 P7 s5 p5 s7 p7 x.secs.length x.pend.length x.secs.length x.pend.length x x W11 rfl rfl rfl rfl (by omega) (by omega) (by omega) (by omega) r5 q5 r7 q7
  go_at_call 27
  refine K.mono ?_
  rintro e w12 ⟨rfl, hb⟩
  rw [same_yes rfl]
  clear K
  replace r0 := r0.below hb
  replace q0 := q0.below hb
  replace r5 := r5.below hb
  replace q5 := q5.below hb
  replace r7 := r7.below hb
  replace q7 := q7.below hb
  replace r9 := r9.below hb
  replace q9 := q9.below hb
  replace r11 := r11.below hb
  replace q11 := q11.below hb
  replace x2 := x2.below hb x2.lt
  replace x5 := x5.below hb x5.lt
  replace x7 := x7.below hb x7.lt
  replace x9 := x9.below hb x9.lt
  replace x11 := x11.below hb x11.lt
  replace hw := hw.trans (hb.mono hw.size)
  clear x5c0 x5c1 x5c2 x5c3 x5l x7c0 x7c1 x7c2 x7c3 x7l
  clear hb
  have x9c0 := x9.cell 0
  have x9c1 := x9.cell 1
  have x9c2 := x9.cell 2
  have x9c3 := x9.cell 3
  simp only [List.getElem?_toArray, List.getElem?_cons_zero, List.getElem?_cons_succ] at x9c0 x9c1 x9c2 x9c3
  have x9l := x9.lt
  have x11c0 := x11.cell 0
  have x11c1 := x11.cell 1
  have x11c2 := x11.cell 2
  have x11c3 := x11.cell 3
  simp only [List.getElem?_toArray, List.getElem?_cons_zero, List.getElem?_cons_succ] at x11c0 x11c1 x11c2 x11c3
  have x11l := x11.lt
  go_wp2_with (fail)
  have K : Calls Try.prog 27 #[.agg #[.slice S9 z.secs.length s9, .slice P9 z.pend.length p9, .int .i64 z.left, .bool z.stop], .agg #[.slice S11 z.secs.length s11, .slice P11 z.pend.length p11, .int .i64 z.left, .bool z.stop]] w12 (fun e w' => e = .returned (.bool (sameD z z)) ∧ Below w12.heap.size w12 w') := same_t S9 P9 S11 P11 s9 p9 s11 p11 z.secs.length z.pend.length z.secs.length z.pend.length z z w12 rfl rfl rfl rfl (by omega) (by omega) (by omega) (by omega) r9 q9 r11 q11
  go_at_call 27
  refine K.mono ?_
  rintro e w13 ⟨rfl, hb⟩
  rw [same_yes rfl]
  clear K
  replace r0 := r0.below hb
  replace q0 := q0.below hb
  replace r5 := r5.below hb
  replace q5 := q5.below hb
  replace r7 := r7.below hb
  replace q7 := q7.below hb
  replace r9 := r9.below hb
  replace q9 := q9.below hb
  replace r11 := r11.below hb
  replace q11 := q11.below hb
  replace x2 := x2.below hb x2.lt
  replace x5 := x5.below hb x5.lt
  replace x7 := x7.below hb x7.lt
  replace x9 := x9.below hb x9.lt
  replace x11 := x11.below hb x11.lt
  replace hw := hw.trans (hb.mono hw.size)
  clear x9c0 x9c1 x9c2 x9c3 x9l x11c0 x11c1 x11c2 x11c3 x11l
  clear hb
  go_wp2
  go_ret
  exact ⟨rfl, hw⟩
end Go.Proofs.Ytckeopidedoohaa
