/-
  Sync of the recorder's reference. Conditions: the journal and the disk lie as plain data. | RecorderSyncSpec walked: it answers true. Conditions: arguments of at most 1048576 values.
-/
import Derived.Test.YtckeopidedoohaaRsy
import Derived.Test.YtckeopidedoohaaRrw
import Derived.Test.YtckeopidedoohaaJrz
import Derived.Deep.CutBlock
import Derived.Deep.DeepCutAuto
import Derived.BigRegion
import Derived.Deep.QuietTactic
import Derived.Test.YtckeopidedoohaaRsn
import Derived.Test.YtckeopidedoohaaJfw
namespace Go.Proofs.Ytckeopidedoohaa
open Go.RowKit
variable {n₀ : Nat}
attribute [local go_sem] Oper.semAt_some

set_option maxRecDepth 20000 in
set_option maxHeartbeats 4000000 in
theorem rsync43_t (RA SA PA : Option Addr) (rc sc pc : Nat) (j : Jn) (d : Dk) (w : World) (hn : n₀ ≤ w.heap.size) (hs : Sm j.recs) (hrc : j.recs.length ≤ rc) (hl1 : d.secs.length ≤ 140737488355328) (hl2 : d.pend.length ≤ 140737488355328) (hsc : d.secs.length ≤ sc) (hpc : d.pend.length ≤ pc) (r0 : RowsAt n₀ w RA j.recs) (r1 : RowsAt n₀ w SA d.secs) (q1 : WrsAt n₀ w PA d.pend) :
    Calls Try.prog 67 #[.agg #[.slice RA j.recs.length rc, .int .i64 j.many, .int .i64 j.sync], .agg #[.slice SA d.secs.length sc, .slice PA d.pend.length pc, .int .i64 d.left, .bool d.stop]] w (JsIs n₀ w (rSyn j d)) := by
  have HS := Lib.hid hs
  clear hs
  obtain ⟨x, hx⟩ : ∃ x, x = (rData j).2 := ⟨_, rfl⟩
  have HX := Lib.hid hx
  obtain ⟨q, hq⟩ : ∃ q, q = (rData j).1 := ⟨_, rfl⟩
  have HQ := Lib.hid hq
  clear hx hq
  go_enter Try.func67, Try.ntmps67
  go_upto_region 1 with (fail)
  obtain ⟨W1, hW1⟩ : ∃ W, W = ((((w.alloc (.cells #[.slice RA j.recs.length rc, .int .i64 j.many, .int .i64 j.sync] 55)).alloc (.cells #[.slice SA d.secs.length sc, .slice PA d.pend.length pc, .int .i64 d.left, .bool d.stop] 25)).alloc (.cells #[.slice none 0 0, .int .i64 0, .int .i64 0] 55)).alloc (.cells #[.slice none 0 0, .slice none 0 0, .int .i64 0, .bool false] 25)) := ⟨_, rfl⟩
  rw [← hW1]
  have hb : Below w.heap.size w W1 := by rw [hW1]; exact ((((Below.refl _ _).alloc (Nat.le_refl _) _).alloc (by simp) _).alloc (by simp <;> omega) _).alloc (by simp <;> omega) _
  have x2 : Blk W1 w.heap.size 55 #[.slice RA j.recs.length rc, .int .i64 j.many, .int .i64 j.sync] := by rw [hW1]; exact (((Blk.new w 55 _).alloc _).alloc _).alloc _
  have x3 : Blk W1 (w.heap.size + 1) 25 #[.slice SA d.secs.length sc, .slice PA d.pend.length pc, .int .i64 d.left, .bool d.stop] := by rw [hW1]; exact ((Blk.newAt (by simp) 25 _).alloc _).alloc _
  have x4 : Blk W1 (w.heap.size + 1 + 1) 55 #[.slice none 0 0, .int .i64 0, .int .i64 0] := by rw [hW1]; exact (Blk.newAt (by simp) 55 _).alloc _
  have x5 : Blk W1 (w.heap.size + 1 + 1 + 1) 25 #[.slice none 0 0, .slice none 0 0, .int .i64 0, .bool false] := by rw [hW1]; exact Blk.newAt (by simp) 25 _
  clear hW1
  replace r0 := r0.below hb
  replace r1 := r1.below hb
  replace q1 := q1.below hb
  have hw := hb
  clear hb
  have x2c0 := x2.cell 0
  have x2c1 := x2.cell 1
  have x2c2 := x2.cell 2
  simp only [List.getElem?_toArray, List.getElem?_cons_zero, List.getElem?_cons_succ] at x2c0 x2c1 x2c2
  have x2l := x2.lt
  go_wp2_with (fail)
  have K : Calls Try.prog 66 #[.agg #[.slice RA j.recs.length rc, .int .i64 j.many, .int .i64 j.sync]] W1 (fun e w' => ∃ A c, e = .returned (.tuple #[.slice A q.length c, .int .i64 x]) ∧ Below W1.heap.size W1 w') := (by rw [HX.out, HQ.out]; exact (rdata43_t RA rc j W1 HS.out r0).mono fun e w9 h => by obtain ⟨A, c, h1, -, h4⟩ := h; exact ⟨A, c, h1, h4⟩)
  go_at_call 66
  refine K.mono ?_
  rintro e w2 ⟨A9, c9, rfl, hb⟩
  clear K
  replace r0 := r0.below hb
  replace r1 := r1.below hb
  replace q1 := q1.below hb
  replace x2 := x2.below hb x2.lt
  replace x3 := x3.below hb x3.lt
  replace x4 := x4.below hb x4.lt
  replace x5 := x5.below hb x5.lt
  replace hw := hw.trans (hb.mono hw.size)
  clear x2c0 x2c1 x2c2 x2l
  clear hb
  by_cases k0 : x = 0
  case neg =>
    have dk0 : (x != 0) = true := bne_iff_ne.2 k0
    have E := Lib.hid (rSyn_no (d := d) (by rw [← HX.out]; exact k0))
    clear k0
    have x4c0 := x4.cell 0
    have x4f0 := x4.frozen 0
    have x4c1 := x4.cell 1
    have x4f1 := x4.frozen 1
    have x4c2 := x4.cell 2
    have x4f2 := x4.frozen 2
    simp only [List.getElem?_toArray, List.getElem?_cons_zero, List.getElem?_cons_succ] at x4c0 x4c1 x4c2
    have x4l := x4.lt
    have x5c0 := x5.cell 0
    have x5f0 := x5.frozen 0
    have x5c1 := x5.cell 1
    have x5f1 := x5.frozen 1
    have x5c2 := x5.cell 2
    have x5f2 := x5.frozen 2
    have x5c3 := x5.cell 3
    have x5f3 := x5.frozen 3
    simp only [List.getElem?_toArray, List.getElem?_cons_zero, List.getElem?_cons_succ] at x5c0 x5c1 x5c2 x5c3
    have x5l := x5.lt
    go_wp2_with (fail)
    obtain ⟨W3, hW3⟩ : ∃ W, W = (((((((w2.setCell ⟨(w.heap.size + 1 + 1), 0, none⟩ (.slice none 0 0)).setCell ⟨(w.heap.size + 1 + 1), 1, none⟩ (.int .i64 0)).setCell ⟨(w.heap.size + 1 + 1), 2, none⟩ (.int .i64 0)).setCell ⟨(w.heap.size + 1 + 1 + 1), 0, none⟩ (.slice none 0 0)).setCell ⟨(w.heap.size + 1 + 1 + 1), 1, none⟩ (.slice none 0 0)).setCell ⟨(w.heap.size + 1 + 1 + 1), 2, none⟩ (.int .i64 0)).setCell ⟨(w.heap.size + 1 + 1 + 1), 3, none⟩ (.bool false)) := ⟨_, rfl⟩
    rw [← hW3]
    have hk : Keep (fun r => r = w.heap.size + 1 + 1 ∨ r = w.heap.size + 1 + 1 + 1) w2 W3 := by rw [hW3]; repeat (first | with_reducible exact Keep.refl _ _ | refine Keep.setCell ?_ (fun _ => by simp) _)
    have hm := Boxes.two (n₀ := n₀) x4 rfl (by omega) x5 rfl (by omega)
    replace r0 := r0.keep hk hm
    replace r1 := r1.keep hk hm
    replace q1 := q1.keep hk hm
    replace hw := hw.trans (hk.below hw.size (fun r hr h => by omega))
    have y4 : Blk W3 (w.heap.size + 1 + 1) 55 #[.slice none 0 0, .int .i64 0, .int .i64 0] := by rw [hW3]; exact (((((((x4.set 0 (.slice none 0 0)).set 1 (.int .i64 0)).set 2 (.int .i64 0)).other (p := ⟨w.heap.size + 1 + 1 + 1, 0, none⟩) (by simp) (.slice none 0 0)).other (p := ⟨w.heap.size + 1 + 1 + 1, 1, none⟩) (by simp) (.slice none 0 0)).other (p := ⟨w.heap.size + 1 + 1 + 1, 2, none⟩) (by simp) (.int .i64 0)).other (p := ⟨w.heap.size + 1 + 1 + 1, 3, none⟩) (by simp) (.bool false))
    have y5 : Blk W3 (w.heap.size + 1 + 1 + 1) 25 #[.slice none 0 0, .slice none 0 0, .int .i64 0, .bool false] := by rw [hW3]; exact (((((((x5.other (p := ⟨w.heap.size + 1 + 1, 0, none⟩) (by simp) (.slice none 0 0)).other (p := ⟨w.heap.size + 1 + 1, 1, none⟩) (by simp) (.int .i64 0)).other (p := ⟨w.heap.size + 1 + 1, 2, none⟩) (by simp) (.int .i64 0)).set 0 (.slice none 0 0)).set 1 (.slice none 0 0)).set 2 (.int .i64 0)).set 3 (.bool false))
    clear x4f0 x4f1 x4f2 x4c0 x4c1 x4c2 x4l x5f0 x5f1 x5f2 x5f3 x5c0 x5c1 x5c2 x5c3 x5l
    clear hW3 hk hm x2 x3 x4 x5
    have y4c0 := y4.cell 0
    have y4c1 := y4.cell 1
    have y4c2 := y4.cell 2
    simp only [List.getElem?_toArray, List.getElem?_cons_zero, List.getElem?_cons_succ] at y4c0 y4c1 y4c2
    have y4l := y4.lt
    have y5c0 := y5.cell 0
    have y5c1 := y5.cell 1
    have y5c2 := y5.cell 2
    have y5c3 := y5.cell 3
    simp only [List.getElem?_toArray, List.getElem?_cons_zero, List.getElem?_cons_succ] at y5c0 y5c1 y5c2 y5c3
    have y5l := y5.lt
    refine bodyPost_ret (v := .tuple #[.agg #[.slice none 0 0, .int .i64 0, .int .i64 0], .agg #[.slice none 0 0, .slice none 0 0, .int .i64 0, .bool false], .int .i64 x]) (by simp [results, Try.results67, go_sem, y4c0, y4c1, y4c2, y5c0, y5c1, y5c2, y5c3]) rfl ?_
    rw [E.out]
    rw [← HX.out]
    exact ⟨_, _, rfl, jn0V _, dk0V _, hw⟩
  subst k0
  have E := Lib.hid (rSyn_ok (d := d) HX.out.symm)
  have x2c0 := x2.cell 0
  have x2c1 := x2.cell 1
  have x2c2 := x2.cell 2
  simp only [List.getElem?_toArray, List.getElem?_cons_zero, List.getElem?_cons_succ] at x2c0 x2c1 x2c2
  have x2l := x2.lt
  have x3c0 := x3.cell 0
  have x3c1 := x3.cell 1
  have x3c2 := x3.cell 2
  have x3c3 := x3.cell 3
  simp only [List.getElem?_toArray, List.getElem?_cons_zero, List.getElem?_cons_succ] at x3c0 x3c1 x3c2 x3c3
  have x3l := x3.lt
  go_wp2_with (fail)
  obtain ⟨y, hy⟩ : ∃ y, y = gJs j d := ⟨_, rfl⟩
  have HY := Lib.hid hy
  clear hy
  have K : Calls Try.prog 54 #[.agg #[.slice RA j.recs.length rc, .int .i64 j.many, .int .i64 j.sync], .agg #[.slice SA d.secs.length sc, .slice PA d.pend.length pc, .int .i64 d.left, .bool d.stop]] w2 (JsIs n₀ w2 y) := (by rw [HY.out]; exact rjs_t RA SA PA rc sc pc j d w2 (Nat.le_trans hn hw.size) HS.out hrc hl1 hl2 hsc hpc r0 r1 q1)
  go_at_call 54
  refine K.mono ?_
  intro e w3 hx
  obtain ⟨A8, c8, S8, s8, P8, p8, rfl, hc8, r8, hs8, hp8, r8s, q8, hb⟩ := jsV_out hx
  clear hx
  clear K
  replace r0 := r0.below hb
  replace r1 := r1.below hb
  replace q1 := q1.below hb
  replace x2 := x2.below hb x2.lt
  replace x3 := x3.below hb x3.lt
  replace x4 := x4.below hb x4.lt
  replace x5 := x5.below hb x5.lt
  replace hw := hw.trans (hb.mono hw.size)
  clear x2c0 x2c1 x2c2 x2l x3c0 x3c1 x3c2 x3c3 x3l
  clear hb
  have l4 : w.heap.size + 1 + 1 < w3.heap.size := x4.lt
  have l5 : w.heap.size + 1 + 1 + 1 < w3.heap.size := x5.lt
  have na0 : ¬ w3.heap.size = w.heap.size + 1 + 1 := by omega
  have nb0 : ¬ w.heap.size + 1 + 1 = w3.heap.size := by omega
  have na1 : ¬ w3.heap.size = w.heap.size + 1 + 1 + 1 := by omega
  have nb1 : ¬ w.heap.size + 1 + 1 + 1 = w3.heap.size := by omega
  have na2 : ¬ w3.heap.size + 1 = w.heap.size + 1 + 1 := by omega
  have nb2 : ¬ w.heap.size + 1 + 1 = w3.heap.size + 1 := by omega
  have na3 : ¬ w3.heap.size + 1 = w.heap.size + 1 + 1 + 1 := by omega
  have nb3 : ¬ w.heap.size + 1 + 1 + 1 = w3.heap.size + 1 := by omega
  go_upto_region 5 with (fail)
  obtain ⟨W4, hW4⟩ : ∃ W, W = (w3.alloc (.cells #[.slice A8 y.1.1.recs.length c8, .int .i64 y.1.1.many, .int .i64 y.1.1.sync] 55)).alloc (.cells #[.slice S8 y.1.2.secs.length s8, .slice P8 y.1.2.pend.length p8, .int .i64 y.1.2.left, .bool y.1.2.stop] 25) := ⟨_, rfl⟩
  rw [← hW4]
  have hb : Below w3.heap.size w3 W4 := by rw [hW4]; exact ((Below.refl _ _).alloc (Nat.le_refl _) _).alloc (by simp) _
  have x9 : Blk W4 w3.heap.size 55 #[.slice A8 y.1.1.recs.length c8, .int .i64 y.1.1.many, .int .i64 y.1.1.sync] := by rw [hW4]; exact (Blk.new w3 55 _).alloc _
  have x10 : Blk W4 (w3.heap.size + 1) 25 #[.slice S8 y.1.2.secs.length s8, .slice P8 y.1.2.pend.length p8, .int .i64 y.1.2.left, .bool y.1.2.stop] := by rw [hW4]; exact Blk.newAt (by simp) 25 _
  clear hW4
  replace r0 := r0.below hb
  replace r1 := r1.below hb
  replace q1 := q1.below hb
  replace r8 := r8.below hb
  replace r8s := r8s.below hb
  replace q8 := q8.below hb
  replace x2 := x2.below hb x2.lt
  replace x3 := x3.below hb x3.lt
  replace x4 := x4.below hb x4.lt
  replace x5 := x5.below hb x5.lt
  replace hw := hw.trans (hb.mono hw.size)
  clear hb
  have x9c0 := x9.cell 0
  have x9c1 := x9.cell 1
  have x9c2 := x9.cell 2
  simp only [List.getElem?_toArray, List.getElem?_cons_zero, List.getElem?_cons_succ] at x9c0 x9c1 x9c2
  have x9l := x9.lt
  have x10c0 := x10.cell 0
  have x10c1 := x10.cell 1
  have x10c2 := x10.cell 2
  have x10c3 := x10.cell 3
  simp only [List.getElem?_toArray, List.getElem?_cons_zero, List.getElem?_cons_succ] at x10c0 x10c1 x10c2 x10c3
  have x10l := x10.lt
  have x4c0 := x4.cell 0
  have x4f0 := x4.frozen 0
  have x4c1 := x4.cell 1
  have x4f1 := x4.frozen 1
  have x4c2 := x4.cell 2
  have x4f2 := x4.frozen 2
  simp only [List.getElem?_toArray, List.getElem?_cons_zero, List.getElem?_cons_succ] at x4c0 x4c1 x4c2
  have x4l := x4.lt
  have x5c0 := x5.cell 0
  have x5f0 := x5.frozen 0
  have x5c1 := x5.cell 1
  have x5f1 := x5.frozen 1
  have x5c2 := x5.cell 2
  have x5f2 := x5.frozen 2
  have x5c3 := x5.cell 3
  have x5f3 := x5.frozen 3
  simp only [List.getElem?_toArray, List.getElem?_cons_zero, List.getElem?_cons_succ] at x5c0 x5c1 x5c2 x5c3
  have x5l := x5.lt
  go_region
  all_goals
   obtain ⟨W5, hW5⟩ : ∃ W, W = ((((((((W4.setCell ⟨(w.heap.size + 1 + 1), 0, none⟩ (.slice A8 y.1.1.recs.length c8)).setCell ⟨(w.heap.size + 1 + 1), 1, none⟩ (.int .i64 y.1.1.many)).setCell ⟨(w.heap.size + 1 + 1), 2, none⟩ (.int .i64 y.1.1.sync)).setCell ⟨(w.heap.size + 1 + 1 + 1), 0, none⟩ (.slice S8 y.1.2.secs.length s8)).setCell ⟨(w.heap.size + 1 + 1 + 1), 1, none⟩ (.slice P8 y.1.2.pend.length p8)).setCell ⟨(w.heap.size + 1 + 1 + 1), 2, none⟩ (.int .i64 y.1.2.left)).setCell ⟨(w.heap.size + 1 + 1 + 1), 3, none⟩ (.bool y.1.2.stop))).drew := ⟨_, rfl⟩
   rw [← hW5]
   have hk : Keep (fun r => r = w.heap.size + 1 + 1 ∨ r = w.heap.size + 1 + 1 + 1) W4 W5 := by rw [hW5]; refine Keep.drew ?_; repeat (first | with_reducible exact Keep.refl _ _ | refine Keep.setCell ?_ (fun _ => by simp) _)
   have hm := Boxes.two (n₀ := n₀) x4 rfl (by omega) x5 rfl (by omega)
   replace r0 := r0.keep hk hm
   replace r1 := r1.keep hk hm
   replace q1 := q1.keep hk hm
   replace r8 := r8.keep hk hm
   replace r8s := r8s.keep hk hm
   replace q8 := q8.keep hk hm
   replace hw := hw.trans (hk.below hw.size (fun r hr h => by omega))
   have y4 : Blk W5 (w.heap.size + 1 + 1) 55 #[.slice A8 y.1.1.recs.length c8, .int .i64 y.1.1.many, .int .i64 y.1.1.sync] := by rw [hW5]; exact blk_drew (((((((x4.set 0 (.slice A8 y.1.1.recs.length c8)).set 1 (.int .i64 y.1.1.many)).set 2 (.int .i64 y.1.1.sync)).other (p := ⟨w.heap.size + 1 + 1 + 1, 0, none⟩) (by simp) (.slice S8 y.1.2.secs.length s8)).other (p := ⟨w.heap.size + 1 + 1 + 1, 1, none⟩) (by simp) (.slice P8 y.1.2.pend.length p8)).other (p := ⟨w.heap.size + 1 + 1 + 1, 2, none⟩) (by simp) (.int .i64 y.1.2.left)).other (p := ⟨w.heap.size + 1 + 1 + 1, 3, none⟩) (by simp) (.bool y.1.2.stop))
   have y5 : Blk W5 (w.heap.size + 1 + 1 + 1) 25 #[.slice S8 y.1.2.secs.length s8, .slice P8 y.1.2.pend.length p8, .int .i64 y.1.2.left, .bool y.1.2.stop] := by rw [hW5]; exact blk_drew (((((((x5.other (p := ⟨w.heap.size + 1 + 1, 0, none⟩) (by simp) (.slice A8 y.1.1.recs.length c8)).other (p := ⟨w.heap.size + 1 + 1, 1, none⟩) (by simp) (.int .i64 y.1.1.many)).other (p := ⟨w.heap.size + 1 + 1, 2, none⟩) (by simp) (.int .i64 y.1.1.sync)).set 0 (.slice S8 y.1.2.secs.length s8)).set 1 (.slice P8 y.1.2.pend.length p8)).set 2 (.int .i64 y.1.2.left)).set 3 (.bool y.1.2.stop))
   clear x9c0 x9c1 x9c2 x9l x10c0 x10c1 x10c2 x10c3 x10l x4f0 x4f1 x4f2 x4c0 x4c1 x4c2 x4l x5f0 x5f1 x5f2 x5f3 x5c0 x5c1 x5c2 x5c3 x5l
   clear hW5 hk hm x2 x3 x4 x5
   have y4c0 := y4.cell 0
   have y4c1 := y4.cell 1
   have y4c2 := y4.cell 2
   simp only [List.getElem?_toArray, List.getElem?_cons_zero, List.getElem?_cons_succ] at y4c0 y4c1 y4c2
   have y4l := y4.lt
   have y5c0 := y5.cell 0
   have y5c1 := y5.cell 1
   have y5c2 := y5.cell 2
   have y5c3 := y5.cell 3
   simp only [List.getElem?_toArray, List.getElem?_cons_zero, List.getElem?_cons_succ] at y5c0 y5c1 y5c2 y5c3
   have y5l := y5.lt
   go_wp2
   refine bodyPost_ret (v := .tuple #[.agg #[.slice A8 y.1.1.recs.length c8, .int .i64 y.1.1.many, .int .i64 y.1.1.sync], .agg #[.slice S8 y.1.2.secs.length s8, .slice P8 y.1.2.pend.length p8, .int .i64 y.1.2.left, .bool y.1.2.stop], .int .i64 y.2]) (by simp [results, Try.results67, go_sem, y4c0, y4c1, y4c2, y5c0, y5c1, y5c2, y5c3]) rfl ?_
   rw [E.out]
   rw [← HY.out]
   exact ⟨_, _, rfl, ⟨A8, c8, rfl, hc8, r8⟩, ⟨S8, s8, P8, p8, rfl, hs8, hp8, r8s, q8⟩, hw⟩
end Go.Proofs.Ytckeopidedoohaa

namespace Go.Proofs.Ytckeopidedoohaa
open Go.RowKit
variable {n₀ : Nat}
attribute [local go_sem] Oper.semAt_some

/-- The law answers true, and leaves alone what lay. -/
def YesV (w : World) (e : Ending) (w' : World) : Prop := e = .returned (.bool true) ∧ Below w.heap.size w w'
theorem gSync_sizes (d : Dk) : (gSync d).1.secs.length ≤ d.secs.length ∧ (gSync d).1.pend.length ≤ d.pend.length := by
  unfold gSync
  split
  · exact ⟨Nat.zero_le _, Nat.zero_le _⟩
  split
  · exact ⟨by simp [tornL, perfL_len], Nat.zero_le _⟩
  · exact ⟨by simp [perfL_len], Nat.zero_le _⟩
theorem gJs_sizes (j : Jn) (d : Dk) : (gJs j d).1.1.recs.length ≤ j.recs.length ∧ (gJs j d).1.2.secs.length ≤ d.secs.length ∧ (gJs j d).1.2.pend.length ≤ max d.pend.length (usedN j.recs) := by
  have hz : ∀ e : Int, ((jn0, dk0), e).1.1.recs.length ≤ j.recs.length ∧ ((jn0, dk0), e).1.2.secs.length ≤ d.secs.length ∧ ((jn0, dk0), e).1.2.pend.length ≤ max d.pend.length (usedN j.recs) := fun e => ⟨Nat.zero_le _, Nat.zero_le _, Nat.zero_le _⟩
  have h1 := gSync_sizes (wsD d (usedN (j.recs.take j.sync.toNat)) (j.recs.drop j.sync.toNat))
  have h2 : (wsD d (usedN (j.recs.take j.sync.toNat)) (j.recs.drop j.sync.toNat)).pend.length = usedN (j.recs.drop j.sync.toNat) := by simp only [wsD, mkW_len, layA_len]
  have h3 : usedN (j.recs.take j.sync.toNat) + usedN (j.recs.drop j.sync.toNat) = usedN j.recs := by rw [← usedN_append, List.take_append_drop]
  have h4 : (wsD d (usedN (j.recs.take j.sync.toNat)) (j.recs.drop j.sync.toNat)).secs.length = d.secs.length := rfl
  unfold gJs
  split
  · exact hz 1
  split
  · exact hz 40
  split
  · exact hz 1
  split
  · exact hz 40
  split
  · exact hz 1
  split
  · exact hz 50
  split
  · exact ⟨Nat.le_refl _, Nat.le_refl _, Nat.le_max_left _ _⟩
  split
  · exact ⟨Nat.zero_le _, by dsimp only; omega, by dsimp only; omega⟩
  · exact ⟨Nat.le_refl _, by dsimp only; omega, by dsimp only; omega⟩
theorem gJs_used {j : Jn} {d : Dk} (h : 0 < (gJs j d).1.2.pend.length) : (gJs j d).1.2.pend.length ≤ d.pend.length ∨ usedN j.recs ≤ 4096 := by
  by_cases hv : JVal j
  · exact .inr (by have h1 := hv.2.1; have h2 := hv.2.2.2.2; omega)
  · rw [gJs_no hv] at h
    simp [dk0] at h
theorem gJs_small (j : Jn) (d : Dk) (hd : d.pend.length ≤ 40) : (gJs j d).1.2.pend.length ≤ 4096 := by
  rcases Nat.eq_zero_or_pos (gJs j d).1.2.pend.length with h | h
  · omega
  · have h1 := (gJs_sizes j d).2.2
    rcases gJs_used h with h2 | h2 <;> omega
theorem rSyn_sizes (j : Jn) (d : Dk) (hd : d.pend.length ≤ 40) : (rSyn j d).1.1.recs.length ≤ j.recs.length ∧ (rSyn j d).1.2.secs.length ≤ d.secs.length ∧ (rSyn j d).1.2.pend.length ≤ 4096 := by
  unfold rSyn
  split
  · exact ⟨Nat.zero_le _, Nat.zero_le _, Nat.zero_le _⟩
  · exact ⟨(gJs_sizes j d).1, (gJs_sizes j d).2.1, gJs_small j d hd⟩

set_option maxRecDepth 20000 in
set_option maxHeartbeats 8000000 in
theorem recorderSync_t (RA SA PA : Option Addr) (rc sc pc : Nat) (j : Jn) (d : Dk) (w : World) (hn : n₀ ≤ w.heap.size) (hrl : j.recs.length ≤ 1048576) (hrb : ∀ x ∈ j.recs, x.length ≤ 1048576) (hrc : j.recs.length ≤ rc) (hl1 : d.secs.length ≤ 1048576) (hl2 : d.pend.length ≤ 1048576) (hsc : d.secs.length ≤ sc) (hpc : d.pend.length ≤ pc) (r0 : RowsAt n₀ w RA j.recs) (r1 : RowsAt n₀ w SA d.secs) (q1 : WrsAt n₀ w PA d.pend) :
    Calls Try.prog 21 #[.agg #[.slice RA j.recs.length rc, .int .i64 j.many, .int .i64 j.sync], .agg #[.slice SA d.secs.length sc, .slice PA d.pend.length pc, .int .i64 d.left, .bool d.stop]] w (YesV w) := by
  have HRB := Lib.hid hrb
  clear hrb
  obtain ⟨nn, hnn⟩ : ∃ n, n = j.recs.length := ⟨_, rfl⟩
  have HNN := Lib.hid hnn
  rw [← hnn] at hrl hrc ⊢
  clear hnn
  go_enter Try.func21, Try.ntmps21
  go_upto_region 1 with (fail)
  obtain ⟨W1, hW1⟩ : ∃ W, W = (w.alloc (.cells #[.slice RA nn rc, .int .i64 j.many, .int .i64 j.sync] 55)).alloc (.cells #[.slice SA d.secs.length sc, .slice PA d.pend.length pc, .int .i64 d.left, .bool d.stop] 25) := ⟨_, rfl⟩
  rw [← hW1]
  have hb : Below w.heap.size w W1 := by rw [hW1]; exact ((Below.refl _ _).alloc (Nat.le_refl _) _).alloc (by simp) _
  have x1 : Blk W1 w.heap.size 55 #[.slice RA nn rc, .int .i64 j.many, .int .i64 j.sync] := by rw [hW1]; exact (Blk.new w 55 _).alloc _
  have x2 : Blk W1 (w.heap.size + 1) 25 #[.slice SA d.secs.length sc, .slice PA d.pend.length pc, .int .i64 d.left, .bool d.stop] := by rw [hW1]; exact Blk.newAt (by simp) 25 _
  clear hW1
  replace r0 := r0.below hb
  replace r1 := r1.below hb
  replace q1 := q1.below hb
  have hw := hb
  clear hb
  go_wp2_with (fail)
  have K : Calls Try.prog 57 #[] W1 (fun e w' => e = .returned (.bool true) ∧ Below W1.heap.size W1 w') := rsane_t W1
  go_at_call 57
  refine K.mono ?_
  rintro e w2 ⟨rfl, hb⟩
  clear K
  replace r0 := r0.below hb
  replace r1 := r1.below hb
  replace q1 := q1.below hb
  replace x1 := x1.below hb x1.lt
  replace x2 := x2.below hb x2.lt
  replace hw := hw.trans (hb.mono hw.size)
  clear hb
  have x1c0 := x1.cell 0
  have x1c1 := x1.cell 1
  have x1c2 := x1.cell 2
  simp only [List.getElem?_toArray, List.getElem?_cons_zero, List.getElem?_cons_succ] at x1c0 x1c1 x1c2
  have x1l := x1.lt
  have x2c0 := x2.cell 0
  have x2c1 := x2.cell 1
  have x2c2 := x2.cell 2
  have x2c3 := x2.cell 3
  simp only [List.getElem?_toArray, List.getElem?_cons_zero, List.getElem?_cons_succ] at x2c0 x2c1 x2c2 x2c3
  have x2l := x2.lt
  go_wp2_with (fail)
  obtain ⟨y, hy⟩ : ∃ y, y = fewB d.secs.length d.pend.length j.recs := ⟨_, rfl⟩
  have HY := Lib.hid hy
  clear hy
  have K : Calls Try.prog 63 #[.agg #[.slice SA d.secs.length sc, .slice PA d.pend.length pc, .int .i64 d.left, .bool d.stop], .slice RA nn rc] w2 (fun e w' => e = .returned (.bool y) ∧ Below w2.heap.size w2 w') := by rw [HY.out, HNN.out]; exact few63_t (n₀ := n₀) SA PA RA sc pc rc d.secs.length d.pend.length d.left d.stop j.recs w2 hl1 hl2 (by rw [← HNN.out]; exact hrl) HRB.out r0
  go_at_call 63
  refine K.mono ?_
  rintro e w3 ⟨rfl, hb⟩
  clear K
  replace r0 := r0.below hb
  replace r1 := r1.below hb
  replace q1 := q1.below hb
  replace x1 := x1.below hb x1.lt
  replace x2 := x2.below hb x2.lt
  replace hw := hw.trans (hb.mono hw.size)
  clear x1c0 x1c1 x1c2 x1l x2c0 x2c1 x2c2 x2c3 x2l
  clear hb
  cases y
  case false =>
    go_wp2
    go_ret
    exact ⟨rfl, hw⟩
  have hsm := (fewB_sm HY.out.symm).2.2.2
  have hpl := (fewB_sm HY.out.symm).2.1
  have HSM := Lib.hid hsm
  obtain ⟨r, hr⟩ : ∃ r, r = rSyn j d := ⟨_, rfl⟩
  have HR := Lib.hid hr
  have hz := rSyn_sizes j d hpl
  rw [← hr] at hz
  obtain ⟨hz1, hz2, hz3⟩ := hz
  rw [← HNN.out] at hz1
  clear hsm hr hpl
  have x1c0 := x1.cell 0
  have x1c1 := x1.cell 1
  have x1c2 := x1.cell 2
  simp only [List.getElem?_toArray, List.getElem?_cons_zero, List.getElem?_cons_succ] at x1c0 x1c1 x1c2
  have x1l := x1.lt
  have x2c0 := x2.cell 0
  have x2c1 := x2.cell 1
  have x2c2 := x2.cell 2
  have x2c3 := x2.cell 3
  simp only [List.getElem?_toArray, List.getElem?_cons_zero, List.getElem?_cons_succ] at x2c0 x2c1 x2c2 x2c3
  have x2l := x2.lt
  go_wp2_with (fail)
  have K : Calls Try.prog 60 #[.agg #[.slice RA nn rc, .int .i64 j.many, .int .i64 j.sync], .agg #[.slice SA d.secs.length sc, .slice PA d.pend.length pc, .int .i64 d.left, .bool d.stop]] w3 (fun e w' => ∃ A c S s P p, e = .returned (.tuple #[.agg #[.slice A r.1.1.recs.length c, .int .i64 r.1.1.many, .int .i64 r.1.1.sync], .agg #[.slice S r.1.2.secs.length s, .slice P r.1.2.pend.length p, .int .i64 r.1.2.left, .bool r.1.2.stop], .int .i64 r.2]) ∧ RowsAt n₀ w' A r.1.1.recs ∧ RowsAt n₀ w' S r.1.2.secs ∧ WrsAt n₀ w' P r.1.2.pend ∧ Below w3.heap.size w3 w') := (by have h := rsyncR_t (n₀ := n₀) RA SA PA rc sc pc j d w3 (Nat.le_trans hn hw.size) HSM.out (by rw [← HNN.out]; exact hrc) (by omega) (by omega) hsc hpc r0 r1 q1; rw [← HNN.out, ← HR.out] at h; exact h.mono fun e w9 hx => by obtain ⟨A, c, S, s, P, p, h1, -, h3, -, -, h6, h7, h8⟩ := jsV_out hx; exact ⟨A, c, S, s, P, p, h1, h3, h6, h7, h8⟩)
  go_at_call 60
  refine K.mono ?_
  rintro e w4 ⟨A5, c5, S5, s5, P5, p5, rfl, r5, u5, q5, hb⟩
  clear K
  replace r0 := r0.below hb
  replace r1 := r1.below hb
  replace q1 := q1.below hb
  replace x1 := x1.below hb x1.lt
  replace x2 := x2.below hb x2.lt
  replace hw := hw.trans (hb.mono hw.size)
  clear x1c0 x1c1 x1c2 x1l x2c0 x2c1 x2c2 x2c3 x2l
  clear hb
  go_upto_region 6 with (fail)
  obtain ⟨W5, hW5⟩ : ∃ W, W = (w4.alloc (.cells #[.slice A5 r.1.1.recs.length c5, .int .i64 r.1.1.many, .int .i64 r.1.1.sync] 55)).alloc (.cells #[.slice S5 r.1.2.secs.length s5, .slice P5 r.1.2.pend.length p5, .int .i64 r.1.2.left, .bool r.1.2.stop] 25) := ⟨_, rfl⟩
  rw [← hW5]
  have hb : Below w4.heap.size w4 W5 := by rw [hW5]; exact ((Below.refl _ _).alloc (Nat.le_refl _) _).alloc (by simp) _
  have x5 : Blk W5 w4.heap.size 55 #[.slice A5 r.1.1.recs.length c5, .int .i64 r.1.1.many, .int .i64 r.1.1.sync] := by rw [hW5]; exact (Blk.new w4 55 _).alloc _
  have z5 : Blk W5 (w4.heap.size + 1) 25 #[.slice S5 r.1.2.secs.length s5, .slice P5 r.1.2.pend.length p5, .int .i64 r.1.2.left, .bool r.1.2.stop] := by rw [hW5]; exact Blk.newAt (by simp) 25 _
  clear hW5
  replace r0 := r0.below hb
  replace r1 := r1.below hb
  replace q1 := q1.below hb
  replace r5 := r5.below hb
  replace u5 := u5.below hb
  replace q5 := q5.below hb
  replace x1 := x1.below hb x1.lt
  replace x2 := x2.below hb x2.lt
  replace hw := hw.trans (hb.mono hw.size)
  clear hb
  have x1c0 := x1.cell 0
  have x1c1 := x1.cell 1
  have x1c2 := x1.cell 2
  simp only [List.getElem?_toArray, List.getElem?_cons_zero, List.getElem?_cons_succ] at x1c0 x1c1 x1c2
  have x1l := x1.lt
  have x2c0 := x2.cell 0
  have x2c1 := x2.cell 1
  have x2c2 := x2.cell 2
  have x2c3 := x2.cell 3
  simp only [List.getElem?_toArray, List.getElem?_cons_zero, List.getElem?_cons_succ] at x2c0 x2c1 x2c2 x2c3
  have x2l := x2.lt
  go_wp2_with (fail)
  have K : Calls Try.prog 67 #[.agg #[.slice RA nn rc, .int .i64 j.many, .int .i64 j.sync], .agg #[.slice SA d.secs.length sc, .slice PA d.pend.length pc, .int .i64 d.left, .bool d.stop]] W5 (fun e w' => ∃ A c S s P p, e = .returned (.tuple #[.agg #[.slice A r.1.1.recs.length c, .int .i64 r.1.1.many, .int .i64 r.1.1.sync], .agg #[.slice S r.1.2.secs.length s, .slice P r.1.2.pend.length p, .int .i64 r.1.2.left, .bool r.1.2.stop], .int .i64 r.2]) ∧ RowsAt n₀ w' A r.1.1.recs ∧ RowsAt n₀ w' S r.1.2.secs ∧ WrsAt n₀ w' P r.1.2.pend ∧ Below W5.heap.size W5 w') := (by have h := rsync43_t (n₀ := n₀) RA SA PA rc sc pc j d W5 (Nat.le_trans hn hw.size) HSM.out (by rw [← HNN.out]; exact hrc) (by omega) (by omega) hsc hpc r0 r1 q1; rw [← HNN.out, ← HR.out] at h; exact h.mono fun e w9 hx => by obtain ⟨A, c, S, s, P, p, h1, -, h3, -, -, h6, h7, h8⟩ := jsV_out hx; exact ⟨A, c, S, s, P, p, h1, h3, h6, h7, h8⟩)
  go_at_call 67
  refine K.mono ?_
  rintro e w6 ⟨A7, c7, S7, s7, P7, p7, rfl, r7, u7, q7, hb⟩
  clear K
  replace r0 := r0.below hb
  replace r1 := r1.below hb
  replace q1 := q1.below hb
  replace r5 := r5.below hb
  replace u5 := u5.below hb
  replace q5 := q5.below hb
  replace x1 := x1.below hb x1.lt
  replace x2 := x2.below hb x2.lt
  replace x5 := x5.below hb x5.lt
  replace z5 := z5.below hb z5.lt
  replace hw := hw.trans (hb.mono hw.size)
  clear x1c0 x1c1 x1c2 x1l x2c0 x2c1 x2c2 x2c3 x2l
  clear hb
  go_upto_region 7 with (fail)
  obtain ⟨W7, hW7⟩ : ∃ W, W = (w6.alloc (.cells #[.slice A7 r.1.1.recs.length c7, .int .i64 r.1.1.many, .int .i64 r.1.1.sync] 55)).alloc (.cells #[.slice S7 r.1.2.secs.length s7, .slice P7 r.1.2.pend.length p7, .int .i64 r.1.2.left, .bool r.1.2.stop] 25) := ⟨_, rfl⟩
  rw [← hW7]
  have hb : Below w6.heap.size w6 W7 := by rw [hW7]; exact ((Below.refl _ _).alloc (Nat.le_refl _) _).alloc (by simp) _
  have x7 : Blk W7 w6.heap.size 55 #[.slice A7 r.1.1.recs.length c7, .int .i64 r.1.1.many, .int .i64 r.1.1.sync] := by rw [hW7]; exact (Blk.new w6 55 _).alloc _
  have z7 : Blk W7 (w6.heap.size + 1) 25 #[.slice S7 r.1.2.secs.length s7, .slice P7 r.1.2.pend.length p7, .int .i64 r.1.2.left, .bool r.1.2.stop] := by rw [hW7]; exact Blk.newAt (by simp) 25 _
  clear hW7
  replace r0 := r0.below hb
  replace r1 := r1.below hb
  replace q1 := q1.below hb
  replace r5 := r5.below hb
  replace u5 := u5.below hb
  replace q5 := q5.below hb
  replace r7 := r7.below hb
  replace u7 := u7.below hb
  replace q7 := q7.below hb
  replace x1 := x1.below hb x1.lt
  replace x2 := x2.below hb x2.lt
  replace x5 := x5.below hb x5.lt
  replace z5 := z5.below hb z5.lt
  replace hw := hw.trans (hb.mono hw.size)
  clear hb
  have x5c0 := x5.cell 0
  have x5c1 := x5.cell 1
  have x5c2 := x5.cell 2
  simp only [List.getElem?_toArray, List.getElem?_cons_zero, List.getElem?_cons_succ] at x5c0 x5c1 x5c2
  have x5l := x5.lt
  have x7c0 := x7.cell 0
  have x7c1 := x7.cell 1
  have x7c2 := x7.cell 2
  simp only [List.getElem?_toArray, List.getElem?_cons_zero, List.getElem?_cons_succ] at x7c0 x7c1 x7c2
  have x7l := x7.lt
  go_wp2_with (fail)
  have K : Calls Try.prog 46 #[.agg #[.slice A5 r.1.1.recs.length c5, .int .i64 r.1.1.many, .int .i64 r.1.1.sync], .agg #[.slice A7 r.1.1.recs.length c7, .int .i64 r.1.1.many, .int .i64 r.1.1.sync]] W7 (fun e w' => e = .returned (.bool true) ∧ Below W7.heap.size W7 w') := (by have h := jsame_t (n₀ := n₀) A5 A7 c5 c7 r.1.1 r.1.1 W7 (by omega) (by omega) r5 r7; rw [sameJ_self] at h; exact h)
  go_at_call 46
  refine K.mono ?_
  rintro e w8 ⟨rfl, hb⟩
  clear K
  replace r0 := r0.below hb
  replace r1 := r1.below hb
  replace q1 := q1.below hb
  replace r5 := r5.below hb
  replace u5 := u5.below hb
  replace q5 := q5.below hb
  replace r7 := r7.below hb
  replace u7 := u7.below hb
  replace q7 := q7.below hb
  replace x1 := x1.below hb x1.lt
  replace x2 := x2.below hb x2.lt
  replace x5 := x5.below hb x5.lt
  replace z5 := z5.below hb z5.lt
  replace x7 := x7.below hb x7.lt
  replace z7 := z7.below hb z7.lt
  replace hw := hw.trans (hb.mono hw.size)
  clear x5c0 x5c1 x5c2 x5l x7c0 x7c1 x7c2 x7l
  clear hb
  have z5c0 := z5.cell 0
  have z5c1 := z5.cell 1
  have z5c2 := z5.cell 2
  have z5c3 := z5.cell 3
  simp only [List.getElem?_toArray, List.getElem?_cons_zero, List.getElem?_cons_succ] at z5c0 z5c1 z5c2 z5c3
  have z5l := z5.lt
  have z7c0 := z7.cell 0
  have z7c1 := z7.cell 1
  have z7c2 := z7.cell 2
  have z7c3 := z7.cell 3
  simp only [List.getElem?_toArray, List.getElem?_cons_zero, List.getElem?_cons_succ] at z7c0 z7c1 z7c2 z7c3
  have z7l := z7.lt
  go_wp2_with (fail)
  have K : Calls Try.prog 27 #[.agg #[.slice S5 r.1.2.secs.length s5, .slice P5 r.1.2.pend.length p5, .int .i64 r.1.2.left, .bool r.1.2.stop], .agg #[.slice S7 r.1.2.secs.length s7, .slice P7 r.1.2.pend.length p7, .int .i64 r.1.2.left, .bool r.1.2.stop]] w8 (fun e w' => e = .returned (.bool true) ∧ Below w8.heap.size w8 w') := (by have h := same_t (n₀ := n₀) S5 P5 S7 P7 s5 p5 s7 p7 r.1.2.secs.length r.1.2.pend.length r.1.2.secs.length r.1.2.pend.length r.1.2 r.1.2 w8 rfl rfl rfl rfl (by omega) (by omega) (by omega) (by omega) u5 q5 u7 q7; rw [same_yes rfl] at h; exact h)
  go_at_call 27
  refine K.mono ?_
  rintro e w9 ⟨rfl, hb⟩
  clear K
  replace r0 := r0.below hb
  replace r1 := r1.below hb
  replace q1 := q1.below hb
  replace r5 := r5.below hb
  replace u5 := u5.below hb
  replace q5 := q5.below hb
  replace r7 := r7.below hb
  replace u7 := u7.below hb
  replace q7 := q7.below hb
  replace x1 := x1.below hb x1.lt
  replace x2 := x2.below hb x2.lt
  replace x5 := x5.below hb x5.lt
  replace z5 := z5.below hb z5.lt
  replace x7 := x7.below hb x7.lt
  replace z7 := z7.below hb z7.lt
  replace hw := hw.trans (hb.mono hw.size)
  clear z5c0 z5c1 z5c2 z5c3 z5l z7c0 z7c1 z7c2 z7c3 z7l
  clear hb
  go_wp2
  go_ret
  exact ⟨rfl, hw⟩
end Go.Proofs.Ytckeopidedoohaa
