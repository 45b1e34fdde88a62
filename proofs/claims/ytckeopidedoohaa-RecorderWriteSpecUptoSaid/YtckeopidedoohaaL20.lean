/-
  RecorderWriteSpec walked: it answers true. Conditions: arguments of at most 1048576 values.
-/
import Derived.Test.YtckeopidedoohaaRrw
import Derived.Test.YtckeopidedoohaaJfw
import Derived.Deep.CutBlock
import Derived.Deep.DeepCutAuto
namespace Go.Proofs.Ytckeopidedoohaa
open Go.RowKit
variable {n₀ : Nat}
attribute [local go_sem] Oper.semAt_some

/-- The law answers true, and leaves alone what lay. -/
def YesX (w : World) (e : Ending) (w' : World) : Prop := e = .returned (.bool true) ∧ Below w.heap.size w w'
theorem write_len (j : Jn) (l : List Int) : (rWrite j l).1.recs.length ≤ j.recs.length + 1 := by
  by_cases hf : (rWrite j l).2 = 0
  · obtain ⟨-, -, -, h, -⟩ := write_ok hf
    rw [h]
    dsimp only
    rw [List.length_append, List.length_singleton]
    omega
  · rw [(back_no hf).1]
    exact Nat.zero_le _

set_option maxRecDepth 20000 in
set_option maxHeartbeats 8000000 in
theorem recorderWrite_t (RA A : Option Addr) (rc c : Nat) (j : Jn) (l : List Int) (w : World) (hn : n₀ ≤ w.heap.size) (hrl : j.recs.length ≤ 1048576) (hrb : ∀ x ∈ j.recs, x.length ≤ 1048576) (hll : l.length ≤ 1048576) (hrc : j.recs.length ≤ rc) (r0 : RowsAt n₀ w RA j.recs) (ni : NumsAt n₀ w A l) :
    Calls Try.prog 20 #[.agg #[.slice RA j.recs.length rc, .int .i64 j.many, .int .i64 j.sync], .slice A l.length c] w (YesX w) := by
  have HRB := Lib.hid hrb
  clear hrb
  obtain ⟨nn, hnn⟩ : ∃ n, n = j.recs.length := ⟨_, rfl⟩
  have HNN := Lib.hid hnn
  rw [← hnn] at hrl hrc ⊢
  clear hnn
  go_enter Try.func20, Try.ntmps20
  go_upto_region 1 with (fail)
  obtain ⟨W1, hW1⟩ : ∃ W, W = w.alloc (.cells #[.slice RA nn rc, .int .i64 j.many, .int .i64 j.sync] 55) := ⟨_, rfl⟩
  rw [← hW1]
  have hb : Below w.heap.size w W1 := by rw [hW1]; exact (Below.refl _ _).alloc (Nat.le_refl _) _
  have x2 : Blk W1 w.heap.size 55 #[.slice RA nn rc, .int .i64 j.many, .int .i64 j.sync] := by rw [hW1]; exact Blk.new w 55 _
  clear hW1
  replace r0 := r0.below hb
  replace ni := ni.below hb
  have hw := hb
  clear hb
  go_wp2_with (fail)
  have K : Calls Try.prog 57 #[] W1 (fun e w' => e = .returned (.bool true) ∧ Below W1.heap.size W1 w') := rsane_t W1
  go_at_call 57
  refine K.mono ?_
  rintro e w2 ⟨rfl, hb⟩
  clear K
  replace r0 := r0.below hb
  replace ni := ni.below hb
  replace x2 := x2.below hb x2.lt
  replace hw := hw.trans (hb.mono hw.size)
  clear hb
  have x2c0 := x2.cell 0
  have x2c1 := x2.cell 1
  have x2c2 := x2.cell 2
  simp only [List.getElem?_toArray, List.getElem?_cons_zero, List.getElem?_cons_succ] at x2c0 x2c1 x2c2
  have x2l := x2.lt
  go_wp2_with (fail)
  obtain ⟨y, hy⟩ : ∃ y, y = fewB 0 0 j.recs := ⟨_, rfl⟩
  have HY := Lib.hid hy
  clear hy
  have K : Calls Try.prog 63 #[.agg #[.slice none 0 0, .slice none 0 0, .int .i64 0, .bool false], .slice RA nn rc] w2 (fun e w' => e = .returned (.bool y) ∧ Below w2.heap.size w2 w') := by rw [HY.out, HNN.out]; exact few63_t none none RA 0 0 rc 0 0 0 false j.recs w2 (by decide) (by decide) (by rw [← HNN.out]; exact hrl) HRB.out r0
  go_at_call 63
  refine K.mono ?_
  rintro e w3 ⟨rfl, hb⟩
  clear K
  replace r0 := r0.below hb
  replace ni := ni.below hb
  replace x2 := x2.below hb x2.lt
  replace hw := hw.trans (hb.mono hw.size)
  clear x2c0 x2c1 x2c2 x2l
  clear hb
  cases y
  case false =>
    go_wp2
    go_ret
    exact ⟨rfl, hw⟩
  have hsm := (fewB_sm HY.out.symm).2.2.2
  have hs4 := (fewB_sm HY.out.symm).2.2.1
  have hjl := sumB_len j.recs
  have hnn4 : nn ≤ 4000 := by rw [HNN.out]; omega
  have hb4 : ∀ b ∈ j.recs, b.length ≤ 4000 := fun b hb => Nat.le_trans (sumB_mem hb) hs4
  have HB4 := Lib.hid hb4
  have HSM := Lib.hid hsm
  clear hsm hs4 hjl hb4
  by_cases k1 : 100 < l.length
  case pos =>
    have d1 : decide (100 < (l.length : Int)) = true := decide_eq_true (by omega)
    have d1n : decide (100 < l.length) = true := decide_eq_true k1
    go_wp2
    go_ret
    exact ⟨rfl, hw⟩
  have d1 : decide (100 < (l.length : Int)) = false := decide_eq_false (by omega)
  have d1n : decide (100 < l.length) = false := decide_eq_false k1
  obtain ⟨a, ha⟩ : ∃ a, a = (rData j).1 := ⟨_, rfl⟩
  obtain ⟨e0, he0⟩ : ∃ a, a = (rData j).2 := ⟨_, rfl⟩
  have HA := Lib.hid ha
  have HE0 := Lib.hid he0
  have hal : a.length ≤ 4000000 := by rw [ha]; exact rData_len HB4.out (by rw [← HNN.out]; exact hnn4)
  clear ha he0
  obtain ⟨r, hr⟩ : ∃ r, r = rWrite j l := ⟨_, rfl⟩
  have HR := Lib.hid hr
  have hrl2 : r.1.recs.length ≤ 4001 := by rw [hr]; have := write_len j l; have := HNN.out; omega
  clear hr
  have x2c0 := x2.cell 0
  have x2c1 := x2.cell 1
  have x2c2 := x2.cell 2
  simp only [List.getElem?_toArray, List.getElem?_cons_zero, List.getElem?_cons_succ] at x2c0 x2c1 x2c2
  have x2l := x2.lt
  go_wp2_with (fail)
  have K : Calls Try.prog 59 #[.agg #[.slice RA nn rc, .int .i64 j.many, .int .i64 j.sync], .slice A l.length c] w3 (fun e w' => ∃ A c, e = .returned (.tuple #[.agg #[.slice A r.1.recs.length c, .int .i64 r.1.many, .int .i64 r.1.sync], .int .i64 r.2]) ∧ RowsAt n₀ w' A r.1.recs ∧ Below w3.heap.size w3 w') := (by have h := rwriteR_t RA A rc c j l w3 (Nat.le_trans hn hw.size) HSM.out (by rw [← HNN.out]; exact hrc) (by omega) r0 ni; rw [← HNN.out, ← HR.out] at h; exact h.mono fun e w9 hx => by obtain ⟨v, rfl, ⟨A, c, rfl, h2, h3⟩, h4⟩ := hx; exact ⟨A, c, rfl, h3, h4⟩)
  go_at_call 59
  refine K.mono ?_
  rintro e w4 ⟨A5, c5, rfl, r5, hb⟩
  clear K
  replace r0 := r0.below hb
  replace ni := ni.below hb
  replace x2 := x2.below hb x2.lt
  replace hw := hw.trans (hb.mono hw.size)
  clear x2c0 x2c1 x2c2 x2l
  clear hb
  go_upto_region 6 with (fail)
  obtain ⟨W5, hW5⟩ : ∃ W, W = w4.alloc (.cells #[.slice A5 r.1.recs.length c5, .int .i64 r.1.many, .int .i64 r.1.sync] 55) := ⟨_, rfl⟩
  rw [← hW5]
  have hb : Below w4.heap.size w4 W5 := by rw [hW5]; exact (Below.refl _ _).alloc (Nat.le_refl _) _
  have x5 : Blk W5 w4.heap.size 55 #[.slice A5 r.1.recs.length c5, .int .i64 r.1.many, .int .i64 r.1.sync] := by rw [hW5]; exact Blk.new w4 55 _
  clear hW5
  replace r0 := r0.below hb
  replace ni := ni.below hb
  replace r5 := r5.below hb
  replace x2 := x2.below hb x2.lt
  replace hw := hw.trans (hb.mono hw.size)
  clear hb
  have x2c0 := x2.cell 0
  have x2c1 := x2.cell 1
  have x2c2 := x2.cell 2
  simp only [List.getElem?_toArray, List.getElem?_cons_zero, List.getElem?_cons_succ] at x2c0 x2c1 x2c2
  have x2l := x2.lt
  go_wp2_with (fail)
  have K : Calls Try.prog 65 #[.agg #[.slice RA nn rc, .int .i64 j.many, .int .i64 j.sync], .slice A l.length c] W5 (fun e w' => ∃ A c, e = .returned (.tuple #[.agg #[.slice A r.1.recs.length c, .int .i64 r.1.many, .int .i64 r.1.sync], .int .i64 r.2]) ∧ RowsAt n₀ w' A r.1.recs ∧ Below W5.heap.size W5 w') := (by have h := rwrite43_t RA A rc c j l W5 (Nat.le_trans hn hw.size) HSM.out (by rw [← HNN.out]; exact hrc) (by omega) r0 ni; rw [← HNN.out, ← HR.out] at h; exact h.mono fun e w9 hx => by obtain ⟨v, rfl, ⟨A, c, rfl, h2, h3⟩, h4⟩ := hx; exact ⟨A, c, rfl, h3, h4⟩)
  go_at_call 65
  refine K.mono ?_
  rintro e w6 ⟨A7, c7, rfl, r7, hb⟩
  clear K
  replace r0 := r0.below hb
  replace ni := ni.below hb
  replace r5 := r5.below hb
  replace x2 := x2.below hb x2.lt
  replace x5 := x5.below hb x5.lt
  replace hw := hw.trans (hb.mono hw.size)
  clear x2c0 x2c1 x2c2 x2l
  clear hb
  go_upto_region 7 with (fail)
  obtain ⟨W7, hW7⟩ : ∃ W, W = w6.alloc (.cells #[.slice A7 r.1.recs.length c7, .int .i64 r.1.many, .int .i64 r.1.sync] 55) := ⟨_, rfl⟩
  rw [← hW7]
  have hb : Below w6.heap.size w6 W7 := by rw [hW7]; exact (Below.refl _ _).alloc (Nat.le_refl _) _
  have x7 : Blk W7 w6.heap.size 55 #[.slice A7 r.1.recs.length c7, .int .i64 r.1.many, .int .i64 r.1.sync] := by rw [hW7]; exact Blk.new w6 55 _
  clear hW7
  replace r0 := r0.below hb
  replace ni := ni.below hb
  replace r5 := r5.below hb
  replace r7 := r7.below hb
  replace x2 := x2.below hb x2.lt
  replace x5 := x5.below hb x5.lt
  replace hw := hw.trans (hb.mono hw.size)
  clear hb
  clear d1 d1n
  have x2c0 := x2.cell 0
  have x2c1 := x2.cell 1
  have x2c2 := x2.cell 2
  simp only [List.getElem?_toArray, List.getElem?_cons_zero, List.getElem?_cons_succ] at x2c0 x2c1 x2c2
  have x2l := x2.lt
  go_wp2_with (fail)
  have K : Calls Try.prog 62 #[.agg #[.slice RA nn rc, .int .i64 j.many, .int .i64 j.sync]] W7 (fun e w' => ∃ A c, e = .returned (.tuple #[.slice A a.length c, .int .i64 e0]) ∧ NumsAt n₀ w' A a ∧ Below W7.heap.size W7 w') := (by have h := data_t RA rc j W7 (Nat.le_trans hn hw.size) HSM.out r0; rw [← HNN.out] at h; unfold NsIs at h; rw [← HA.out, ← HE0.out] at h; exact h.mono fun e w9 hx => by obtain ⟨A, c, h1, -, h3, h4⟩ := hx; exact ⟨A, c, h1, h3, h4⟩)
  go_at_call 62
  refine K.mono ?_
  rintro e w8 ⟨V9, v9, rfl, n9, hb⟩
  clear K
  replace r0 := r0.below hb
  replace ni := ni.below hb
  replace r5 := r5.below hb
  replace r7 := r7.below hb
  replace x2 := x2.below hb x2.lt
  replace x5 := x5.below hb x5.lt
  replace x7 := x7.below hb x7.lt
  replace hw := hw.trans (hb.mono hw.size)
  clear x2c0 x2c1 x2c2 x2l
  clear hb
  have x2c0 := x2.cell 0
  have x2c1 := x2.cell 1
  have x2c2 := x2.cell 2
  simp only [List.getElem?_toArray, List.getElem?_cons_zero, List.getElem?_cons_succ] at x2c0 x2c1 x2c2
  have x2l := x2.lt
  go_wp2_with (fail)
  have K : Calls Try.prog 66 #[.agg #[.slice RA nn rc, .int .i64 j.many, .int .i64 j.sync]] w8 (fun e w' => ∃ A c, e = .returned (.tuple #[.slice A a.length c, .int .i64 e0]) ∧ NumsAt n₀ w' A a ∧ Below w8.heap.size w8 w') := (by have h := rdata43_t RA rc j w8 HSM.out r0; rw [← HNN.out] at h; rw [← HA.out, ← HE0.out] at h; exact h.mono fun e w9 hx => by obtain ⟨A, c, h1, h3, h4⟩ := hx; exact ⟨A, c, h1, h3, h4⟩)
  go_at_call 66
  refine K.mono ?_
  rintro e w9 ⟨V11, v11, rfl, n11, hb⟩
  clear K
  replace r0 := r0.below hb
  replace ni := ni.below hb
  replace r5 := r5.below hb
  replace r7 := r7.below hb
  replace n9 := n9.below hb
  replace x2 := x2.below hb x2.lt
  replace x5 := x5.below hb x5.lt
  replace x7 := x7.below hb x7.lt
  replace hw := hw.trans (hb.mono hw.size)
  clear x2c0 x2c1 x2c2 x2l
  clear hb
  have x5c0 := x5.cell 0
  have x5c1 := x5.cell 1
  have x5c2 := x5.cell 2
  simp only [List.getElem?_toArray, List.getElem?_cons_zero, List.getElem?_cons_succ] at x5c0 x5c1 x5c2
  have x5l := x5.lt
  have x7c0 := x7.cell 0
  have x7c1 := x7.cell 1
  have x7c2 := x7.cell 2
  simp only [List.getElem?_toArray, List.getElem?_cons_zero, List.getElem?_cons_succ] at x7c0 x7c1 x7c2
  have x7l := x7.lt
  go_wp2_with (fail)
  have K : Calls Try.prog 46 #[.agg #[.slice A5 r.1.recs.length c5, .int .i64 r.1.many, .int .i64 r.1.sync], .agg #[.slice A7 r.1.recs.length c7, .int .i64 r.1.many, .int .i64 r.1.sync]] w9 (fun e w' => e = .returned (.bool true) ∧ Below w9.heap.size w9 w') := (by have h := jsame_t (n₀ := n₀) A5 A7 c5 c7 r.1 r.1 w9 (by omega) (by omega) r5 r7; rw [sameJ_self] at h; exact h)
  go_at_call 46
  refine K.mono ?_
  rintro e w10 ⟨rfl, hb⟩
  clear K
  replace r0 := r0.below hb
  replace ni := ni.below hb
  replace r5 := r5.below hb
  replace r7 := r7.below hb
  replace n9 := n9.below hb
  replace n11 := n11.below hb
  replace x2 := x2.below hb x2.lt
  replace x5 := x5.below hb x5.lt
  replace x7 := x7.below hb x7.lt
  replace hw := hw.trans (hb.mono hw.size)
  clear x5c0 x5c1 x5c2 x5l x7c0 x7c1 x7c2 x7l
  clear hb
  go_wp2_with (fail)
  have K : Calls Try.prog 61 #[.slice V9 a.length v9, .slice V11 a.length v11] w10 (fun e w' => e = .returned (.bool true) ∧ Below w10.heap.size w10 w') := (by have h := sameI_t (n₀ := n₀) V9 V11 v9 v11 a a w10 (by omega) (by omega) n9 n11; simpa using h)
  go_at_call 61
  refine K.mono ?_
  rintro e w11 ⟨rfl, hb⟩
  clear K
  replace r0 := r0.below hb
  replace ni := ni.below hb
  replace r5 := r5.below hb
  replace r7 := r7.below hb
  replace n9 := n9.below hb
  replace n11 := n11.below hb
  replace x2 := x2.below hb x2.lt
  replace x5 := x5.below hb x5.lt
  replace x7 := x7.below hb x7.lt
  replace hw := hw.trans (hb.mono hw.size)
  clear hb
  go_wp2
  go_ret
  exact ⟨rfl, hw⟩
end Go.Proofs.Ytckeopidedoohaa
