/-
  Open of the recorder's reference. Conditions: the disk lies as plain data.
-/
import Derived.Test.YtckeopidedoohaaJro
import Derived.Test.YtckeopidedoohaaRsy
import Derived.Test.YtckeopidedoohaaRrw
namespace Go.Proofs.Ytckeopidedoohaa
open Go.RowKit
variable {n₀ : Nat}
attribute [local go_sem] Oper.semAt_some

def RoJ (n₀ : Nat) (w : World) (g : (Jn × List Int) × Int) (e : Ending) (w' : World) : Prop := ∃ v A c, e = .returned (.tuple #[v, .slice A g.1.2.length c, .int .i64 g.2]) ∧ JnV n₀ w' v g.1.1 ∧ NumsAt n₀ w' A g.1.2 ∧ Below w.heap.size w w'

set_option maxRecDepth 20000 in
set_option maxHeartbeats 4000000 in
theorem ropen43_t (SA PA : Option Addr) (sc pc : Nat) (d : Dk) (w : World) (hn : n₀ ≤ w.heap.size) (hl1 : d.secs.length ≤ 140737488355328) (hl2 : d.pend.length ≤ 140737488355328) (h1 : RowsAt n₀ w SA d.secs) (h2 : WrsAt n₀ w PA d.pend) :
    Calls Try.prog 64 #[.agg #[.slice SA d.secs.length sc, .slice PA d.pend.length pc, .int .i64 d.left, .bool d.stop]] w (RoJ n₀ w (rOpn d)) := by
  obtain ⟨j, hj⟩ : ∃ j, j = (gOpen d).1 := ⟨_, rfl⟩
  obtain ⟨x, hx⟩ : ∃ x, x = (gOpen d).2 := ⟨_, rfl⟩
  have HJ := Lib.hid hj
  have HX := Lib.hid hx
  clear hj hx
  go_enter Try.func64, Try.ntmps64
  go_upto_region 1 with (fail)
  obtain ⟨W1, hW1⟩ : ∃ W, W = (w.alloc (.cells #[.slice SA d.secs.length sc, .slice PA d.pend.length pc, .int .i64 d.left, .bool d.stop] 25)).alloc (.cells #[.slice none 0 0, .int .i64 0, .int .i64 0] 55) := ⟨_, rfl⟩
  rw [← hW1]
  have hb : Below w.heap.size w W1 := by rw [hW1]; exact ((Below.refl _ _).alloc (Nat.le_refl _) _).alloc (by simp) _
  have x1 : Blk W1 w.heap.size 25 #[.slice SA d.secs.length sc, .slice PA d.pend.length pc, .int .i64 d.left, .bool d.stop] := by rw [hW1]; exact (Blk.new w 25 _).alloc _
  have x2 : Blk W1 (w.heap.size + 1) 55 #[.slice none 0 0, .int .i64 0, .int .i64 0] := by rw [hW1]; exact Blk.newAt (by simp) 55 _
  clear hW1
  replace h1 := h1.below hb
  replace h2 := h2.below hb
  have hw := hb
  clear hb
  have x1c0 := x1.cell 0
  have x1c1 := x1.cell 1
  have x1c2 := x1.cell 2
  have x1c3 := x1.cell 3
  simp only [List.getElem?_toArray, List.getElem?_cons_zero, List.getElem?_cons_succ] at x1c0 x1c1 x1c2 x1c3
  have x1l := x1.lt
  go_wp2_with (fail)
  have K : Calls Try.prog 45 #[.agg #[.slice SA d.secs.length sc, .slice PA d.pend.length pc, .int .i64 d.left, .bool d.stop]] W1 (fun e w' => ∃ RA rc, e = .returned (.tuple #[.agg #[.slice RA j.recs.length rc, .int .i64 j.many, .int .i64 j.sync], .int .i64 x]) ∧ j.recs.length ≤ rc ∧ RowsAt n₀ w' RA j.recs ∧ Below W1.heap.size W1 w') := (by have h := ropenJ_t (n₀ := n₀) SA PA sc pc d W1 (Nat.le_trans hn hw.size) hl1 hl2 h1 h2; refine h.mono fun e w9 hx => ?_; obtain ⟨v, rfl, ⟨A, c, rfl, hc, hr⟩, hb⟩ := hx; rw [HJ.out, HX.out]; exact ⟨A, c, rfl, hc, hr, hb⟩)
  go_at_call 45
  refine K.mono ?_
  rintro e w2 ⟨RA, rc, rfl, hrc, rj, hb⟩
  clear K
  replace h1 := h1.below hb
  replace h2 := h2.below hb
  replace x1 := x1.below hb x1.lt
  replace x2 := x2.below hb x2.lt
  replace hw := hw.trans (hb.mono hw.size)
  clear x1c0 x1c1 x1c2 x1c3 x1l
  clear hb
  go_upto_region 2 with (fail)
  obtain ⟨W3, hW3⟩ : ∃ W, W = w2.alloc (.cells #[.slice RA j.recs.length rc, .int .i64 j.many, .int .i64 j.sync] 55) := ⟨_, rfl⟩
  rw [← hW3]
  have hb : Below w2.heap.size w2 W3 := by rw [hW3]; exact (Below.refl _ _).alloc (Nat.le_refl _) _
  have x5 : Blk W3 w2.heap.size 55 #[.slice RA j.recs.length rc, .int .i64 j.many, .int .i64 j.sync] := by rw [hW3]; exact Blk.new w2 55 _
  clear hW3
  replace h1 := h1.below hb
  replace h2 := h2.below hb
  replace rj := rj.below hb
  replace x1 := x1.below hb x1.lt
  replace x2 := x2.below hb x2.lt
  replace hw := hw.trans (hb.mono hw.size)
  clear hb
  by_cases k0 : x = 0
  case neg =>
    have dk0 : (x != 0) = true := bne_iff_ne.2 k0
    have E := Lib.hid (rOpn_no (d := d) (by rw [← HX.out]; exact k0))
    clear k0
    have x2c0 := x2.cell 0
    have x2f0 := x2.frozen 0
    have x2c1 := x2.cell 1
    have x2f1 := x2.frozen 1
    have x2c2 := x2.cell 2
    have x2f2 := x2.frozen 2
    simp only [List.getElem?_toArray, List.getElem?_cons_zero, List.getElem?_cons_succ] at x2c0 x2c1 x2c2
    have x2l := x2.lt
    go_wp2_with (fail)
    obtain ⟨W4, hW4⟩ : ∃ W, W = (((W3.setCell ⟨(w.heap.size + 1), 0, none⟩ (.slice none 0 0)).setCell ⟨(w.heap.size + 1), 1, none⟩ (.int .i64 0)).setCell ⟨(w.heap.size + 1), 2, none⟩ (.int .i64 0)) := ⟨_, rfl⟩
    rw [← hW4]
    have hk : Keep (fun r => r = (w.heap.size + 1)) W3 W4 := by rw [hW4]; repeat (first | with_reducible exact Keep.refl _ _ | refine Keep.setCell ?_ (fun _ => by simp) _)
    have hm := Boxes.one (n₀ := n₀) x2 rfl (by omega)
    replace x2 : Blk W4 (w.heap.size + 1) 55 #[.slice none 0 0, .int .i64 0, .int .i64 0] := by rw [hW4]; exact put3R x2
    have hwf := hw.trans (hk.below hw.size (fun r hr h => by omega))
    clear x2f0 x2f1 x2f2 x2c0 x2c1 x2c2 x2l
    clear hW4
    have x2c0 := x2.cell 0
    have x2c1 := x2.cell 1
    have x2c2 := x2.cell 2
    simp only [List.getElem?_toArray, List.getElem?_cons_zero, List.getElem?_cons_succ] at x2c0 x2c1 x2c2
    refine bodyPost_ret (v := .tuple #[.agg #[.slice none 0 0, .int .i64 0, .int .i64 0], .slice none 0 0, .int .i64 x]) (by simp [results, Try.results64, go_sem, x2c0, x2c1, x2c2]) rfl ?_
    rw [E.out]
    rw [← HX.out]
    exact ⟨_, none, 0, rfl, jn0V _, NumsAt.nil _ _, hwf⟩
  subst k0
  have hsm := open_sm HX.out.symm
  rw [← HJ.out] at hsm
  have HSM := Lib.hid hsm
  clear hsm
  obtain ⟨ok, hok⟩ : ∃ y, y = okRd j.recs := ⟨_, rfl⟩
  obtain ⟨q, hq⟩ : ∃ q, q = (rdR j.recs).1 := ⟨_, rfl⟩
  have HOK := Lib.hid hok
  have HQ := Lib.hid hq
  clear hok hq
  have x5c0 := x5.cell 0
  have x5c1 := x5.cell 1
  have x5c2 := x5.cell 2
  simp only [List.getElem?_toArray, List.getElem?_cons_zero, List.getElem?_cons_succ] at x5c0 x5c1 x5c2
  have x5l := x5.lt
  go_upto_region 4 with (fail)
  go_wp2_with (fail)
  have K : Calls Try.prog 96 #[.slice RA j.recs.length rc] W3 (fun e w' => ∃ V cv, e = .returned (.tuple #[.slice V q.length cv, .bool ok]) ∧ NumsAt n₀ w' V q ∧ Below W3.heap.size W3 w') := (by rw [HQ.out, HOK.out]; exact recsR_t RA rc j.recs W3 HSM.out rj)
  go_at_call 96
  refine K.mono ?_
  rintro e w4 ⟨A9, c9, rfl, n9, hb⟩
  clear K
  replace h1 := h1.below hb
  replace h2 := h2.below hb
  replace rj := rj.below hb
  replace x1 := x1.below hb x1.lt
  replace x2 := x2.below hb x2.lt
  replace x5 := x5.below hb x5.lt
  replace hw := hw.trans (hb.mono hw.size)
  clear x5c0 x5c1 x5c2 x5l
  clear hb
  cases ok
  case false =>
    have hno : rdR j.recs = ([], 430) := rdR_no (by intro h; have h9 := HOK.out; unfold okRd at h9; rw [h] at h9; cases h9)
    have E := Lib.hid (rOpn_bad (d := d) HX.out.symm (by rw [← HJ.out, hno]; decide))
    rw [← HJ.out, hno] at E
    clear hno
    have x2c0 := x2.cell 0
    have x2f0 := x2.frozen 0
    have x2c1 := x2.cell 1
    have x2f1 := x2.frozen 1
    have x2c2 := x2.cell 2
    have x2f2 := x2.frozen 2
    simp only [List.getElem?_toArray, List.getElem?_cons_zero, List.getElem?_cons_succ] at x2c0 x2c1 x2c2
    have x2l := x2.lt
    go_wp2_with (fail)
    obtain ⟨W5, hW5⟩ : ∃ W, W = (((w4.setCell ⟨(w.heap.size + 1), 0, none⟩ (.slice none 0 0)).setCell ⟨(w.heap.size + 1), 1, none⟩ (.int .i64 0)).setCell ⟨(w.heap.size + 1), 2, none⟩ (.int .i64 0)) := ⟨_, rfl⟩
    rw [← hW5]
    have hk : Keep (fun r => r = (w.heap.size + 1)) w4 W5 := by rw [hW5]; repeat (first | with_reducible exact Keep.refl _ _ | refine Keep.setCell ?_ (fun _ => by simp) _)
    have hm := Boxes.one (n₀ := n₀) x2 rfl (by omega)
    have n9k := n9.box hk x2 (by decide) (by omega)
    replace x2 : Blk W5 (w.heap.size + 1) 55 #[.slice none 0 0, .int .i64 0, .int .i64 0] := by rw [hW5]; exact put3R x2
    have hwf := hw.trans (hk.below hw.size (fun r hr h => by omega))
    clear x2f0 x2f1 x2f2 x2c0 x2c1 x2c2 x2l
    clear hW5
    have x2c0 := x2.cell 0
    have x2c1 := x2.cell 1
    have x2c2 := x2.cell 2
    simp only [List.getElem?_toArray, List.getElem?_cons_zero, List.getElem?_cons_succ] at x2c0 x2c1 x2c2
    refine bodyPost_ret (v := .tuple #[.agg #[.slice none 0 0, .int .i64 0, .int .i64 0], .slice none 0 0, .int .i64 430]) (by simp [results, Try.results64, go_sem, x2c0, x2c1, x2c2]) rfl ?_
    rw [E.out]
    exact ⟨_, none, 0, rfl, jn0V _, NumsAt.nil _ _, hwf⟩
  have hyes : (rdR j.recs).2 = 0 := by rw [rdR_ok (show j.recs.all rRight = true from HOK.out.symm)]
  have E := Lib.hid (rOpn_ok (d := d) HX.out.symm (by rw [← HJ.out]; exact hyes))
  rw [← HJ.out, ← HQ.out] at E
  clear hyes
  have x5c0 := x5.cell 0
  have x5c1 := x5.cell 1
  have x5c2 := x5.cell 2
  simp only [List.getElem?_toArray, List.getElem?_cons_zero, List.getElem?_cons_succ] at x5c0 x5c1 x5c2
  have x5l := x5.lt
  have x2c0 := x2.cell 0
  have x2f0 := x2.frozen 0
  have x2c1 := x2.cell 1
  have x2f1 := x2.frozen 1
  have x2c2 := x2.cell 2
  have x2f2 := x2.frozen 2
  simp only [List.getElem?_toArray, List.getElem?_cons_zero, List.getElem?_cons_succ] at x2c0 x2c1 x2c2
  have x2l := x2.lt
  go_wp2_with (fail)
  obtain ⟨W5, hW5⟩ : ∃ W, W = (((w4.setCell ⟨(w.heap.size + 1), 0, none⟩ (.slice RA j.recs.length rc)).setCell ⟨(w.heap.size + 1), 1, none⟩ (.int .i64 j.many)).setCell ⟨(w.heap.size + 1), 2, none⟩ (.int .i64 j.sync)) := ⟨_, rfl⟩
  rw [← hW5]
  have hk : Keep (fun r => r = (w.heap.size + 1)) w4 W5 := by rw [hW5]; repeat (first | with_reducible exact Keep.refl _ _ | refine Keep.setCell ?_ (fun _ => by simp) _)
  have hm := Boxes.one (n₀ := n₀) x2 rfl (by omega)
  have n9k := n9.box hk x2 (by decide) (by omega)
  replace x2 : Blk W5 (w.heap.size + 1) 55 #[.slice RA j.recs.length rc, .int .i64 j.many, .int .i64 j.sync] := by rw [hW5]; exact put3R x2
  have hwf := hw.trans (hk.below hw.size (fun r hr h => by omega))
  clear x2f0 x2f1 x2f2 x2c0 x2c1 x2c2 x2l
  clear hW5
  have x2c0 := x2.cell 0
  have x2c1 := x2.cell 1
  have x2c2 := x2.cell 2
  simp only [List.getElem?_toArray, List.getElem?_cons_zero, List.getElem?_cons_succ] at x2c0 x2c1 x2c2
  refine bodyPost_ret (v := .tuple #[.agg #[.slice RA j.recs.length rc, .int .i64 j.many, .int .i64 j.sync], .slice A9 q.length c9, .int .i64 0]) (by simp [results, Try.results64, go_sem, x2c0, x2c1, x2c2]) rfl ?_
  rw [E.out]
  exact ⟨_, A9, c9, rfl, ⟨RA, rc, rfl, hrc, rj.keep hk hm⟩, n9k, hwf⟩
end Go.Proofs.Ytckeopidedoohaa
