/-
  Open of the journal's reference. Conditions: the disk lies as plain data.
-/
import Derived.Test.YtckeopidedoohaaJrs
import Derived.Test.YtckeopidedoohaaDstop
namespace Go.Proofs.Ytckeopidedoohaa
open Go.RowKit
variable {n₀ : Nat}
attribute [local go_sem] Oper.semAt_some

theorem put3R {W : World} {B : Nat} {a0 a1 a2 b0 b1 b2 : Value} (h : Blk W B 55 #[a0, a1, a2]) : Blk (((W.setCell ⟨B, 0, none⟩ b0).setCell ⟨B, 1, none⟩ b1).setCell ⟨B, 2, none⟩ b2) B 55 #[b0, b1, b2] := by simpa using ((h.set 0 b0).set 1 b1).set 2 b2

set_option maxRecDepth 20000 in
set_option maxHeartbeats 4000000 in
theorem ropenJ_t (SA PA : Option Addr) (sc pc : Nat) (d : Dk) (w : World) (hn : n₀ ≤ w.heap.size) (hl1 : d.secs.length ≤ 140737488355328) (hl2 : d.pend.length ≤ 140737488355328) (h1 : RowsAt n₀ w SA d.secs) (h2 : WrsAt n₀ w PA d.pend) :
    Calls Try.prog 45 #[.agg #[.slice SA d.secs.length sc, .slice PA d.pend.length pc, .int .i64 d.left, .bool d.stop]] w (JnIs n₀ w (gOpen d)) := by
  go_enter Try.func45, Try.ntmps45
  go_upto_region 1 with (fail)
  obtain ⟨W1, hW1⟩ : ∃ W, W = (w.alloc (.cells #[.slice SA d.secs.length sc, .slice PA d.pend.length pc, .int .i64 d.left, .bool d.stop] 25)).alloc (.cells #[.slice none 0 0, .int .i64 0, .int .i64 0] 55) := ⟨_, rfl⟩
  rw [← hW1]
  have hb : Below w.heap.size w W1 := by rw [hW1]; exact ((Below.refl _ _).alloc (Nat.le_refl _) _).alloc (by simp) _
  have x1 : Blk W1 w.heap.size 25 #[.slice SA d.secs.length sc, .slice PA d.pend.length pc, .int .i64 d.left, .bool d.stop] := by rw [hW1]; exact (Blk.new w 25 _).alloc _
  have x2 : Blk W1 (w.heap.size + 1) 55 #[.slice none 0 0, .int .i64 0, .int .i64 0] := by rw [hW1]; exact Blk.newAt (by simp) 55 _
  clear hW1
  replace h1 := h1.below hb
  replace h2 := h2.below hb
  have hw := hb
  clear hb
  have x1c0 := x1.cell 0
  have x1c1 := x1.cell 1
  have x1c2 := x1.cell 2
  have x1c3 := x1.cell 3
  simp only [List.getElem?_toArray, List.getElem?_cons_zero, List.getElem?_cons_succ] at x1c0 x1c1 x1c2 x1c3
  have x1l := x1.lt
  go_wp2_with (fail)
  have K : Calls Try.prog 29 #[.agg #[.slice SA d.secs.length sc, .slice PA d.pend.length pc, .int .i64 d.left, .bool d.stop]] W1 (fun e w' => e = .returned (.int .i64 (gChk d)) ∧ Below W1.heap.size W1 w') := rcheck_t SA PA sc pc d W1 hl1 hl2 h1 h2
  go_at_call 29
  refine K.mono ?_
  rintro e w2 ⟨rfl, hb⟩
  clear K
  replace h1 := h1.below hb
  replace h2 := h2.below hb
  replace x1 := x1.below hb x1.lt
  replace x2 := x2.below hb x2.lt
  replace hw := hw.trans (hb.mono hw.size)
  clear x1c0 x1c1 x1c2 x1c3 x1l
  clear hb
  by_cases hv : Val d
  case neg =>
    have E := Lib.hid (gOpen_no hv)
    have hg : gChk d = 40 := if_neg hv
    rw [hg]
    clear hv hg
    have x1c0 := x1.cell 0
    have x1c1 := x1.cell 1
    have x1c2 := x1.cell 2
    have x1c3 := x1.cell 3
    simp only [List.getElem?_toArray, List.getElem?_cons_zero, List.getElem?_cons_succ] at x1c0 x1c1 x1c2 x1c3
    have x1l := x1.lt
    have x2c0 := x2.cell 0
    have x2f0 := x2.frozen 0
    have x2c1 := x2.cell 1
    have x2f1 := x2.frozen 1
    have x2c2 := x2.cell 2
    have x2f2 := x2.frozen 2
    simp only [List.getElem?_toArray, List.getElem?_cons_zero, List.getElem?_cons_succ] at x2c0 x2c1 x2c2
    have x2l := x2.lt
    go_wp2_with (fail)
    obtain ⟨W3, hW3⟩ : ∃ W, W = (((w2.setCell ⟨(w.heap.size + 1), 0, none⟩ (.slice none 0 0)).setCell ⟨(w.heap.size + 1), 1, none⟩ (.int .i64 0)).setCell ⟨(w.heap.size + 1), 2, none⟩ (.int .i64 0)) := ⟨_, rfl⟩
    rw [← hW3]
    have hk : Keep (fun r => r = (w.heap.size + 1)) w2 W3 := by rw [hW3]; repeat (first | with_reducible exact Keep.refl _ _ | refine Keep.setCell ?_ (fun _ => by simp) _)
    have hm := Boxes.one (n₀ := n₀) x2 rfl (by omega)
    replace x2 : Blk W3 (w.heap.size + 1) 55 #[.slice none 0 0, .int .i64 0, .int .i64 0] := by rw [hW3]; exact put3R x2
    have hwf := hw.trans (hk.below hw.size (fun r hr h => by omega))
    clear x2f0 x2f1 x2f2 x2c0 x2c1 x2c2 x2l
    clear hW3
    have x2c0 := x2.cell 0
    have x2c1 := x2.cell 1
    have x2c2 := x2.cell 2
    simp only [List.getElem?_toArray, List.getElem?_cons_zero, List.getElem?_cons_succ] at x2c0 x2c1 x2c2
    refine bodyPost_ret (v := .tuple #[.agg #[.slice none 0 0, .int .i64 0, .int .i64 0], .int .i64 40]) (by simp [results, Try.results45, go_sem, x2c0, x2c1, x2c2]) rfl ?_
    rw [E.out]
    exact ⟨_, rfl, jn0V _, hwf⟩
  have hg : gChk d = 0 := if_pos hv
  rw [hg]
  clear hg
  have HV := Lib.hid hv
  clear hv
  cases hs : d.stop
  case true =>
    rw [hs] at x1
    have E := Lib.hid (gOpen_stop HV.out hs)
    clear hs
    have x1c0 := x1.cell 0
    have x1c1 := x1.cell 1
    have x1c2 := x1.cell 2
    have x1c3 := x1.cell 3
    simp only [List.getElem?_toArray, List.getElem?_cons_zero, List.getElem?_cons_succ] at x1c0 x1c1 x1c2 x1c3
    have x1l := x1.lt
    have x2c0 := x2.cell 0
    have x2f0 := x2.frozen 0
    have x2c1 := x2.cell 1
    have x2f1 := x2.frozen 1
    have x2c2 := x2.cell 2
    have x2f2 := x2.frozen 2
    simp only [List.getElem?_toArray, List.getElem?_cons_zero, List.getElem?_cons_succ] at x2c0 x2c1 x2c2
    have x2l := x2.lt
    go_wp2_with (fail)
    obtain ⟨W3, hW3⟩ : ∃ W, W = (((w2.setCell ⟨(w.heap.size + 1), 0, none⟩ (.slice none 0 0)).setCell ⟨(w.heap.size + 1), 1, none⟩ (.int .i64 0)).setCell ⟨(w.heap.size + 1), 2, none⟩ (.int .i64 0)) := ⟨_, rfl⟩
    rw [← hW3]
    have hk : Keep (fun r => r = (w.heap.size + 1)) w2 W3 := by rw [hW3]; repeat (first | with_reducible exact Keep.refl _ _ | refine Keep.setCell ?_ (fun _ => by simp) _)
    have hm := Boxes.one (n₀ := n₀) x2 rfl (by omega)
    replace x2 : Blk W3 (w.heap.size + 1) 55 #[.slice none 0 0, .int .i64 0, .int .i64 0] := by rw [hW3]; exact put3R x2
    have hwf := hw.trans (hk.below hw.size (fun r hr h => by omega))
    clear x2f0 x2f1 x2f2 x2c0 x2c1 x2c2 x2l
    clear hW3
    have x2c0 := x2.cell 0
    have x2c1 := x2.cell 1
    have x2c2 := x2.cell 2
    simp only [List.getElem?_toArray, List.getElem?_cons_zero, List.getElem?_cons_succ] at x2c0 x2c1 x2c2
    refine bodyPost_ret (v := .tuple #[.agg #[.slice none 0 0, .int .i64 0, .int .i64 0], .int .i64 40]) (by simp [results, Try.results45, go_sem, x2c0, x2c1, x2c2]) rfl ?_
    rw [E.out]
    exact ⟨_, rfl, jn0V _, hwf⟩
  rw [hs] at x1
  by_cases hp : 0 < d.pend.length
  case pos =>
    have E := Lib.hid (gOpen_pend HV.out hs hp)
    have d1 : decide ((0 : Int) < (d.pend.length : Int)) = true := decide_eq_true (by omega)
    have d1n : decide (0 < d.pend.length) = true := decide_eq_true hp
    clear hs hp
    have x1c0 := x1.cell 0
    have x1c1 := x1.cell 1
    have x1c2 := x1.cell 2
    have x1c3 := x1.cell 3
    simp only [List.getElem?_toArray, List.getElem?_cons_zero, List.getElem?_cons_succ] at x1c0 x1c1 x1c2 x1c3
    have x1l := x1.lt
    have x2c0 := x2.cell 0
    have x2f0 := x2.frozen 0
    have x2c1 := x2.cell 1
    have x2f1 := x2.frozen 1
    have x2c2 := x2.cell 2
    have x2f2 := x2.frozen 2
    simp only [List.getElem?_toArray, List.getElem?_cons_zero, List.getElem?_cons_succ] at x2c0 x2c1 x2c2
    have x2l := x2.lt
    go_wp2_with (fail)
    obtain ⟨W3, hW3⟩ : ∃ W, W = (((w2.setCell ⟨(w.heap.size + 1), 0, none⟩ (.slice none 0 0)).setCell ⟨(w.heap.size + 1), 1, none⟩ (.int .i64 0)).setCell ⟨(w.heap.size + 1), 2, none⟩ (.int .i64 0)) := ⟨_, rfl⟩
    rw [← hW3]
    have hk : Keep (fun r => r = (w.heap.size + 1)) w2 W3 := by rw [hW3]; repeat (first | with_reducible exact Keep.refl _ _ | refine Keep.setCell ?_ (fun _ => by simp) _)
    have hm := Boxes.one (n₀ := n₀) x2 rfl (by omega)
    replace x2 : Blk W3 (w.heap.size + 1) 55 #[.slice none 0 0, .int .i64 0, .int .i64 0] := by rw [hW3]; exact put3R x2
    have hwf := hw.trans (hk.below hw.size (fun r hr h => by omega))
    clear x2f0 x2f1 x2f2 x2c0 x2c1 x2c2 x2l
    clear hW3
    have x2c0 := x2.cell 0
    have x2c1 := x2.cell 1
    have x2c2 := x2.cell 2
    simp only [List.getElem?_toArray, List.getElem?_cons_zero, List.getElem?_cons_succ] at x2c0 x2c1 x2c2
    refine bodyPost_ret (v := .tuple #[.agg #[.slice none 0 0, .int .i64 0, .int .i64 0], .int .i64 1]) (by simp [results, Try.results45, go_sem, x2c0, x2c1, x2c2]) rfl ?_
    rw [E.out]
    exact ⟨_, rfl, jn0V _, hwf⟩
  have E := Lib.hid (gOpen_ok HV.out hs hp)
  have d1 : decide ((0 : Int) < (d.pend.length : Int)) = false := decide_eq_false (by omega)
  have d1n : decide (0 < d.pend.length) = false := decide_eq_false hp
  clear hs hp
  have x1c0 := x1.cell 0
  have x1c1 := x1.cell 1
  have x1c2 := x1.cell 2
  have x1c3 := x1.cell 3
  simp only [List.getElem?_toArray, List.getElem?_cons_zero, List.getElem?_cons_succ] at x1c0 x1c1 x1c2 x1c3
  have x1l := x1.lt
  go_wp2_with (fail)
  have K : Calls Try.prog 82 #[.slice SA d.secs.length sc] w2 (RsIs n₀ w2 (gRecs d.secs)) := rrecords_t (n₀ := n₀) SA sc d.secs w2 (Nat.le_trans hn hw.size) HV.out.2.2.2.2.2.2 HV.out.2.1 h1
  go_at_call 82
  refine K.mono ?_
  rintro e w3 ⟨A5, c5, rfl, hc5, r5, hb⟩
  clear K
  replace h1 := h1.below hb
  replace h2 := h2.below hb
  replace x1 := x1.below hb x1.lt
  replace x2 := x2.below hb x2.lt
  replace hw := hw.trans (hb.mono hw.size)
  clear x1c0 x1c1 x1c2 x1c3 x1l
  clear hb
  obtain ⟨nr, hnr⟩ : ∃ n, n = (gRecs d.secs).length := ⟨_, rfl⟩
  rw [← hnr] at hc5 ⊢
  have HNR := Lib.hid hnr
  clear hnr
  have x1c0 := x1.cell 0
  have x1c1 := x1.cell 1
  have x1c2 := x1.cell 2
  have x1c3 := x1.cell 3
  simp only [List.getElem?_toArray, List.getElem?_cons_zero, List.getElem?_cons_succ] at x1c0 x1c1 x1c2 x1c3
  have x1l := x1.lt
  have x2c0 := x2.cell 0
  have x2f0 := x2.frozen 0
  have x2c1 := x2.cell 1
  have x2f1 := x2.frozen 1
  have x2c2 := x2.cell 2
  have x2f2 := x2.frozen 2
  simp only [List.getElem?_toArray, List.getElem?_cons_zero, List.getElem?_cons_succ] at x2c0 x2c1 x2c2
  have x2l := x2.lt
  go_wp2_with (fail)
  obtain ⟨W4, hW4⟩ : ∃ W, W = (((w3.setCell ⟨(w.heap.size + 1), 0, none⟩ (.slice A5 nr c5)).setCell ⟨(w.heap.size + 1), 1, none⟩ (.int .i64 d.secs.length)).setCell ⟨(w.heap.size + 1), 2, none⟩ (.int .i64 nr)) := ⟨_, rfl⟩
  rw [← hW4]
  have hk : Keep (fun r => r = (w.heap.size + 1)) w3 W4 := by rw [hW4]; repeat (first | with_reducible exact Keep.refl _ _ | refine Keep.setCell ?_ (fun _ => by simp) _)
  have hm := Boxes.one (n₀ := n₀) x2 rfl (by omega)
  replace x2 : Blk W4 (w.heap.size + 1) 55 #[.slice A5 nr c5, .int .i64 d.secs.length, .int .i64 nr] := by rw [hW4]; exact put3R x2
  have hwf := hw.trans (hk.below hw.size (fun r hr h => by omega))
  clear x2f0 x2f1 x2f2 x2c0 x2c1 x2c2 x2l
  clear hW4
  have x2c0 := x2.cell 0
  have x2c1 := x2.cell 1
  have x2c2 := x2.cell 2
  simp only [List.getElem?_toArray, List.getElem?_cons_zero, List.getElem?_cons_succ] at x2c0 x2c1 x2c2
  refine bodyPost_ret (v := .tuple #[.agg #[.slice A5 nr c5, .int .i64 d.secs.length, .int .i64 nr], .int .i64 0]) (by simp [results, Try.results45, go_sem, x2c0, x2c1, x2c2]) rfl ?_
  rw [E.out]
  rw [HNR.out] at hc5 ⊢
  exact ⟨_, rfl, ⟨A5, c5, rfl, hc5, r5.keep hk hm⟩, hwf⟩
end Go.Proofs.Ytckeopidedoohaa
