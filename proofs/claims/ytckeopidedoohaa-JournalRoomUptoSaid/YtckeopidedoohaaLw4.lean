/-
  DiskWriteSpec walked: it answers true.
-/
import Derived.Test.YtckeopidedoohaaLw9
namespace Go.Proofs.Ytckeopidedoohaa
open Go.RowKit
variable {n₀ : Nat}
attribute [local go_sem] Oper.semAt_some

theorem write_small (d : Dk) (at_ : Int) (b : Bs) : (gWrite d at_ b).1.secs.length ≤ d.secs.length ∧ (gWrite d at_ b).1.pend.length ≤ d.pend.length + 1 := by
  by_cases h : Runs d ∧ 0 ≤ at_ ∧ at_ < d.secs.length
  · by_cases h1 : 128 < b.length
    · rw [gWrite_arg h h1]; exact ⟨Nat.zero_le _, Nat.zero_le _⟩
    · by_cases h2 : d.pend.length = 4096
      · rw [gWrite_lim h h1 h2]; exact ⟨Nat.zero_le _, Nat.zero_le _⟩
      · rw [gWrite_ok h h1 h2]; simp
  · rw [gWrite_no h]; exact ⟨Nat.zero_le _, Nat.zero_le _⟩

set_option maxRecDepth 20000 in
set_option maxHeartbeats 4000000 in
theorem writeSpec_t (SA PA A : Option Addr) (sc pc c : Nat) (d : Dk) (at_ : Int) (b : Bs) (w : World) (_hn : n₀ ≤ w.heap.size) (hre : Reach d) (hcs : d.secs.length ≤ sc) (_hcp : d.pend.length ≤ pc) (r0 : RowsAt n₀ w SA d.secs) (q0 : WrsAt n₀ w PA d.pend) (b0 : BsAt n₀ w A b) (_hbc : b.length ≤ c) (hbl : b.length ≤ reachBytes) :
    Calls Try.prog 4 #[.agg #[.slice SA d.secs.length sc, .slice PA d.pend.length pc, .int .i64 d.left, .bool d.stop], .int .i64 at_, .slice A b.length c] w (Yes w) := by
  have hbl2 : b.length ≤ 140737488355328 := Nat.le_trans hbl (by decide)
  obtain ⟨hl1, hl2⟩ := reach_le hre
  have HRE := Lib.hid hre
  clear hre hbl
  obtain ⟨⟨x, ex⟩, hgw⟩ : ∃ r, r = gWrite d at_ b := ⟨_, rfl⟩
  have hsm := write_small d at_ b
  rw [← hgw] at hsm
  obtain ⟨hx1, hx2⟩ := hsm
  have HGW := Lib.hid hgw
  dsimp only at hx1 hx2
  obtain ⟨⟨rb, er⟩, hgr⟩ : ∃ r, r = gRead d at_ := ⟨_, rfl⟩
  have HGR := Lib.hid hgr
  clear hgw hgr
  go_enter Try.func4, Try.ntmps4
  go_wp2_with (fail)
  obtain ⟨W1, hW1⟩ : ∃ W, W = w.alloc (.cells #[.slice SA d.secs.length sc, .slice PA d.pend.length pc, .int .i64 d.left, .bool d.stop] 25) := ⟨_, rfl⟩
  rw [← hW1]
  have hb : Below w.heap.size w W1 := by rw [hW1]; exact (Below.refl _ _).alloc (Nat.le_refl _) _
  have x3 : Blk W1 w.heap.size 25 #[.slice SA d.secs.length sc, .slice PA d.pend.length pc, .int .i64 d.left, .bool d.stop] := by rw [hW1]; exact Blk.new w 25 _
  clear hW1
  replace r0 := r0.below hb
  replace q0 := q0.below hb
  replace b0 := b0.below hb
  have hw := hb
  clear hb
  have K : Calls Try.prog 23 #[] W1 (fun e w' => e = .returned (.bool true) ∧ Below W1.heap.size W1 w') := sane_t W1
  go_at_call 23
  refine K.mono ?_
  rintro e w2 ⟨rfl, hb⟩
  clear K
  replace r0 := r0.below hb
  replace q0 := q0.below hb
  replace b0 := b0.below hb
  replace x3 := x3.below hb x3.lt
  replace hw := hw.trans (hb.mono hw.size)
  clear hb
  have x3c0 := x3.cell 0
  have x3c1 := x3.cell 1
  have x3c2 := x3.cell 2
  have x3c3 := x3.cell 3
  simp only [List.getElem?_toArray, List.getElem?_cons_zero, List.getElem?_cons_succ] at x3c0 x3c1 x3c2 x3c3
  have x3l := x3.lt
  go_wp2_with (fail)
  have K : Calls Try.prog 24 #[.agg #[.slice SA d.secs.length sc, .slice PA d.pend.length pc, .int .i64 d.left, .bool d.stop]] w2 (FewIs w2 d) := few_t SA PA sc pc d w2 HRE.out r0 q0
  go_at_call 24
  refine K.mono ?_
  rintro e w3 ⟨y, rfl, hy, hb⟩
  clear K
  replace r0 := r0.below hb
  replace q0 := q0.below hb
  replace b0 := b0.below hb
  replace x3 := x3.below hb x3.lt
  replace hw := hw.trans (hb.mono hw.size)
  clear x3c0 x3c1 x3c2 x3c3 x3l
  clear hb
  cases y
  case false =>
    go_wp2
    go_ret
    exact ⟨rfl, hw⟩
  obtain ⟨hy1, hy2⟩ := hy rfl
  clear hy
  by_cases hb1 : 1000 < b.length
  case pos =>
    have db : decide (1000 < (b.length : Int)) = true := decide_eq_true (by omega)
    go_wp2
    go_ret
    exact ⟨rfl, hw⟩
  have db : decide (1000 < (b.length : Int)) = false := decide_eq_false (by omega)
  have hb2 : b.length ≤ 1000 := by omega
  clear hb1
  have x3c0 := x3.cell 0
  have x3c1 := x3.cell 1
  have x3c2 := x3.cell 2
  have x3c3 := x3.cell 3
  simp only [List.getElem?_toArray, List.getElem?_cons_zero, List.getElem?_cons_succ] at x3c0 x3c1 x3c2 x3c3
  have x3l := x3.lt
  go_wp2_with (fail)
  have K : Calls Try.prog 32 #[.agg #[.slice SA d.secs.length sc, .slice PA d.pend.length pc, .int .i64 d.left, .bool d.stop], .int .i64 at_, .slice A b.length c] w3 (DkIs n₀ w3 ((x, ex))) := by rw [HGW.out]; exact write_t SA PA A sc pc c d at_ b w3 hl1 hl2 hbl2 hcs r0 q0 b0
  go_at_call 32
  refine K.mono ?_
  rintro e w4 ⟨v7, rfl, ⟨S7, s7, P7, p7, rfl, hs7, hp7, r7, q7⟩, hb⟩
  clear K
  replace r0 := r0.below hb
  replace q0 := q0.below hb
  replace b0 := b0.below hb
  replace x3 := x3.below hb x3.lt
  replace hw := hw.trans (hb.mono hw.size)
  clear x3c0 x3c1 x3c2 x3c3 x3l
  clear hb
  clear db
  have x3c0 := x3.cell 0
  have x3c1 := x3.cell 1
  have x3c2 := x3.cell 2
  have x3c3 := x3.cell 3
  simp only [List.getElem?_toArray, List.getElem?_cons_zero, List.getElem?_cons_succ] at x3c0 x3c1 x3c2 x3c3
  have x3l := x3.lt
  go_upto_region 6 with (fail)
  clear x3c0 x3c1 x3c2 x3c3 x3l
  obtain ⟨W5, hW5⟩ : ∃ W, W = w4.alloc (.cells #[.slice S7 x.secs.length s7, .slice P7 x.pend.length p7, .int .i64 x.left, .bool x.stop] 25) := ⟨_, rfl⟩
  rw [← hW5]
  have hb : Below w4.heap.size w4 W5 := by rw [hW5]; exact (Below.refl _ _).alloc (Nat.le_refl _) _
  have x7 : Blk W5 w4.heap.size 25 #[.slice S7 x.secs.length s7, .slice P7 x.pend.length p7, .int .i64 x.left, .bool x.stop] := by rw [hW5]; exact Blk.new w4 25 _
  clear hW5
  replace r0 := r0.below hb
  replace q0 := q0.below hb
  replace b0 := b0.below hb
  replace r7 := r7.below hb
  replace q7 := q7.below hb
  replace x3 := x3.below hb x3.lt
  replace hw := hw.trans (hb.mono hw.size)
  clear hb
  have x3c0 := x3.cell 0
  have x3c1 := x3.cell 1
  have x3c2 := x3.cell 2
  have x3c3 := x3.cell 3
  simp only [List.getElem?_toArray, List.getElem?_cons_zero, List.getElem?_cons_succ] at x3c0 x3c1 x3c2 x3c3
  have x3l := x3.lt
  go_wp2_with (fail)
  have K : Calls Try.prog 33 #[.agg #[.slice SA d.secs.length sc, .slice PA d.pend.length pc, .int .i64 d.left, .bool d.stop], .int .i64 at_, .slice A b.length c] W5 (DkIs n₀ W5 ((x, ex))) := by rw [HGW.out]; exact rwrite_t SA PA A sc pc c d at_ b W5 hl1 hl2 hbl2 hcs r0 q0 b0
  go_at_call 33
  refine K.mono ?_
  rintro e w6 ⟨v9, rfl, ⟨S9, s9, P9, p9, rfl, hs9, hp9, r9, q9⟩, hb⟩
  clear K
  replace r0 := r0.below hb
  replace q0 := q0.below hb
  replace b0 := b0.below hb
  replace r7 := r7.below hb
  replace q7 := q7.below hb
  replace x3 := x3.below hb x3.lt
  replace x7 := x7.below hb x7.lt
  replace hw := hw.trans (hb.mono hw.size)
  clear x3c0 x3c1 x3c2 x3c3 x3l
  clear hb
  have x3c0 := x3.cell 0
  have x3c1 := x3.cell 1
  have x3c2 := x3.cell 2
  have x3c3 := x3.cell 3
  simp only [List.getElem?_toArray, List.getElem?_cons_zero, List.getElem?_cons_succ] at x3c0 x3c1 x3c2 x3c3
  have x3l := x3.lt
  go_upto_region 7 with (fail)
  clear x3c0 x3c1 x3c2 x3c3 x3l
  obtain ⟨W7, hW7⟩ : ∃ W, W = w6.alloc (.cells #[.slice S9 x.secs.length s9, .slice P9 x.pend.length p9, .int .i64 x.left, .bool x.stop] 25) := ⟨_, rfl⟩
  rw [← hW7]
  have hb : Below w6.heap.size w6 W7 := by rw [hW7]; exact (Below.refl _ _).alloc (Nat.le_refl _) _
  have x9 : Blk W7 w6.heap.size 25 #[.slice S9 x.secs.length s9, .slice P9 x.pend.length p9, .int .i64 x.left, .bool x.stop] := by rw [hW7]; exact Blk.new w6 25 _
  clear hW7
  replace r0 := r0.below hb
  replace q0 := q0.below hb
  replace b0 := b0.below hb
  replace r7 := r7.below hb
  replace q7 := q7.below hb
  replace r9 := r9.below hb
  replace q9 := q9.below hb
  replace x3 := x3.below hb x3.lt
  replace x7 := x7.below hb x7.lt
  replace hw := hw.trans (hb.mono hw.size)
  clear hb
  have x3c0 := x3.cell 0
  have x3c1 := x3.cell 1
  have x3c2 := x3.cell 2
  have x3c3 := x3.cell 3
  simp only [List.getElem?_toArray, List.getElem?_cons_zero, List.getElem?_cons_succ] at x3c0 x3c1 x3c2 x3c3
  have x3l := x3.lt
  go_wp2_with (fail)
  have K : Calls Try.prog 34 #[.agg #[.slice SA d.secs.length sc, .slice PA d.pend.length pc, .int .i64 d.left, .bool d.stop], .int .i64 at_] W7 (RdIs n₀ W7 ((rb, er))) := by rw [HGR.out]; exact read_t SA PA sc pc d at_ W7 hl1 hl2 r0 q0
  go_at_call 34
  refine K.mono ?_
  rintro e w8 ⟨A11, c11, rfl, hc11, b11, hb⟩
  clear K
  replace r0 := r0.below hb
  replace q0 := q0.below hb
  replace b0 := b0.below hb
  replace r7 := r7.below hb
  replace q7 := q7.below hb
  replace r9 := r9.below hb
  replace q9 := q9.below hb
  replace x3 := x3.below hb x3.lt
  replace x7 := x7.below hb x7.lt
  replace x9 := x9.below hb x9.lt
  replace hw := hw.trans (hb.mono hw.size)
  clear x3c0 x3c1 x3c2 x3c3 x3l
  clear hb
  have x3c0 := x3.cell 0
  have x3c1 := x3.cell 1
  have x3c2 := x3.cell 2
  have x3c3 := x3.cell 3
  simp only [List.getElem?_toArray, List.getElem?_cons_zero, List.getElem?_cons_succ] at x3c0 x3c1 x3c2 x3c3
  have x3l := x3.lt
  go_wp2_with (fail)
  have K : Calls Try.prog 35 #[.agg #[.slice SA d.secs.length sc, .slice PA d.pend.length pc, .int .i64 d.left, .bool d.stop], .int .i64 at_] w8 (RdIs n₀ w8 ((rb, er))) := by rw [HGR.out]; exact rread_t SA PA sc pc d at_ w8 hl1 hl2 r0 q0
  go_at_call 35
  refine K.mono ?_
  rintro e w9 ⟨A13, c13, rfl, hc13, b13, hb⟩
  clear K
  replace r0 := r0.below hb
  replace q0 := q0.below hb
  replace b0 := b0.below hb
  replace r7 := r7.below hb
  replace q7 := q7.below hb
  replace r9 := r9.below hb
  replace q9 := q9.below hb
  replace b11 := b11.below hb
  replace x3 := x3.below hb x3.lt
  replace x7 := x7.below hb x7.lt
  replace x9 := x9.below hb x9.lt
  replace hw := hw.trans (hb.mono hw.size)
  clear x3c0 x3c1 x3c2 x3c3 x3l
  clear hb
  have x7c0 := x7.cell 0
  have x7c1 := x7.cell 1
  have x7c2 := x7.cell 2
  have x7c3 := x7.cell 3
  simp only [List.getElem?_toArray, List.getElem?_cons_zero, List.getElem?_cons_succ] at x7c0 x7c1 x7c2 x7c3
  have x7l := x7.lt
  have x9c0 := x9.cell 0
  have x9c1 := x9.cell 1
  have x9c2 := x9.cell 2
  have x9c3 := x9.cell 3
  simp only [List.getElem?_toArray, List.getElem?_cons_zero, List.getElem?_cons_succ] at x9c0 x9c1 x9c2 x9c3
  have x9l := x9.lt
  go_wp2_with (fail)
  have K : Calls Try.prog 27 #[.agg #[.slice S7 x.secs.length s7, .slice P7 x.pend.length p7, .int .i64 x.left, .bool x.stop], .agg #[.slice S9 x.secs.length s9, .slice P9 x.pend.length p9, .int .i64 x.left, .bool x.stop]] w9 (fun e w' => e = .returned (.bool (sameD x x)) ∧ Below w9.heap.size w9 w') := same_t S7 P7 S9 P9 s7 p7 s9 p9 x.secs.length x.pend.length x.secs.length x.pend.length x x w9 rfl rfl rfl rfl (by omega) (by omega) (by omega) (by omega) r7 q7 r9 q9
  go_at_call 27
  refine K.mono ?_
  rintro e w10 ⟨rfl, hb⟩
  rw [same_yes rfl]
  clear K
  replace r0 := r0.below hb
  replace q0 := q0.below hb
  replace b0 := b0.below hb
  replace r7 := r7.below hb
  replace q7 := q7.below hb
  replace r9 := r9.below hb
  replace q9 := q9.below hb
  replace b11 := b11.below hb
  replace b13 := b13.below hb
  replace x3 := x3.below hb x3.lt
  replace x7 := x7.below hb x7.lt
  replace x9 := x9.below hb x9.lt
  replace hw := hw.trans (hb.mono hw.size)
  clear x7c0 x7c1 x7c2 x7c3 x7l x9c0 x9c1 x9c2 x9c3 x9l
  clear hb
  have cv1 := conv_bs b11 c11
  have cv2 := conv_bs b13 c13
  obtain ⟨rn, hrn⟩ : ∃ n, n = rb.length := ⟨_, rfl⟩
  dsimp only
  rw [← hrn] at cv1 cv2 ⊢
  clear hrn b11 b13 hc11 hc13
  go_wp2
  go_ret
  exact ⟨rfl, hw⟩
end Go.Proofs.Ytckeopidedoohaa
