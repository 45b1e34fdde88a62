/-
  Open of the recorder. Conditions: the disk lies as plain data. | Write of the recorder. Conditions: the journal and the block lie as plain data. | Sync of the recorder. Conditions: the journal and the disk lie as plain data.
-/
import Derived.Test.YtckeopidedoohaaRda
import Derived.Deep.CutBlock
import Derived.Deep.DeepCutAuto
import Derived.Deep.QuietTactic
import Derived.Deep.RegionWith
import Derived.Test.YtckeopidedoohaaJs
namespace Go.Proofs.Ytckeopidedoohaa
open Go.RowKit
variable {n₀ : Nat}
attribute [local go_sem] Oper.semAt_some

/-- What a function answers that gives a journal, samples and an error. -/
def RoIs (n₀ : Nat) (w : World) (g : (Jn × List Int) × Int) (e : Ending) (w' : World) : Prop := ∃ v A c, e = .returned (.tuple #[v, .slice A g.1.2.length c, .int .i64 g.2]) ∧ JnV n₀ w' v g.1.1 ∧ g.1.2.length ≤ c ∧ NumsAt n₀ w' A g.1.2 ∧ Below w.heap.size w w'
theorem scan_size {g0 last at_ : Nat} : ∀ {l : List Bs} {n : Nat} {b : Bs} {m : Nat} {c : Bs}, scan g0 last at_ l n b = some (m, c) → c.length ≤ b.length + 112 * l.length
  | [], _, _, _, _, h => by simp [scan] at h
  | s :: r, n, b, m, c, h => by
    have hd : (sData s).length ≤ sLen s := by unfold sData; rw [List.length_take]; omega
    unfold scan at h
    split at h
    · rename_i hc
      have h1 := (good_parts hc.1).1
      split at h
      · simp only [Option.some.injEq, Prod.mk.injEq] at h
        rw [← h.2, List.length_append, List.length_cons]
        omega
      · have h2 := scan_size h
        rw [List.length_append] at h2
        rw [List.length_cons]
        omega
    · cases h
theorem recs_size (l : List Bs) : ∀ (f at_ last : Nat), ∀ x ∈ recs f l at_ last, x.2.length ≤ 112 * l.length
  | 0, _, _, x, h => by cases h
  | f + 1, at_, last, x, h => by
    cases e : recAt l at_ last with
    | none => rw [recs_none e] at h; cases h
    | some y =>
      obtain ⟨n, b⟩ := y
      rw [recs_some e] at h
      rcases List.mem_cons.1 h with rfl | h
      · have h1 := scan_size (show scan _ _ _ _ _ _ = some (n, b) from e)
        rw [List.length_drop] at h1
        simp only [List.length_nil] at h1
        dsimp only
        omega
      · exact recs_size l f n _ x h
theorem gRecs_sm {l : List Bs} (h : l.length ≤ 4096) : Sm (gRecs l) := by
  constructor
  · unfold gRecs
    rw [List.length_map]
    have := recs_len l l.length 0 0
    omega
  · intro b hb
    obtain ⟨x, hx, rfl⟩ := List.mem_map.1 hb
    have := recs_size l _ _ _ x hx
    omega
theorem open_sm {d : Dk} (h : (gOpen d).2 = 0) : Sm (gOpen d).1.recs := by
  by_cases k0 : Val d
  · cases hs : d.stop
    · by_cases hp : 0 < d.pend.length
      · rw [gOpen_pend k0 hs hp] at h; cases h
      · rw [gOpen_ok k0 hs hp]; exact gRecs_sm k0.2.1
    · rw [gOpen_stop k0 hs] at h; cases h
  · rw [gOpen_no k0] at h; cases h
theorem rOpn_no {d : Dk} (h : (gOpen d).2 ≠ 0) : rOpn d = ((jn0, []), (gOpen d).2) := by unfold rOpn; rw [if_pos h]
theorem rOpn_bad {d : Dk} (h : (gOpen d).2 = 0) (h1 : (rdR (gOpen d).1.recs).2 ≠ 0) : rOpn d = ((jn0, []), (rdR (gOpen d).1.recs).2) := by unfold rOpn; rw [if_neg (by rw [h]; simp), if_pos h1]
theorem rOpn_ok {d : Dk} (h : (gOpen d).2 = 0) (h1 : (rdR (gOpen d).1.recs).2 = 0) : rOpn d = (((gOpen d).1, (rdR (gOpen d).1.recs).1), 0) := by unfold rOpn; rw [if_neg (by rw [h]; simp), if_neg (by rw [h1]; simp)]

set_option maxRecDepth 20000 in
set_option maxHeartbeats 4000000 in
theorem ropen_t (SA PA : Option Addr) (sc pc : Nat) (d : Dk) (w : World) (hn : n₀ ≤ w.heap.size) (hl1 : d.secs.length ≤ 140737488355328) (hl2 : d.pend.length ≤ 140737488355328) (h1 : RowsAt n₀ w SA d.secs) (h2 : WrsAt n₀ w PA d.pend) :
    Calls Try.prog 58 #[.agg #[.slice SA d.secs.length sc, .slice PA d.pend.length pc, .int .i64 d.left, .bool d.stop]] w (RoIs n₀ w (rOpn d)) := by
  obtain ⟨j, hj⟩ : ∃ j, j = (gOpen d).1 := ⟨_, rfl⟩
  obtain ⟨x, hx⟩ : ∃ x, x = (gOpen d).2 := ⟨_, rfl⟩
  have HJ := Lib.hid hj
  have HX := Lib.hid hx
  clear hj hx
  go_enter Try.func58, Try.ntmps58
  go_wp2_with (fail)
  obtain ⟨W1, hW1⟩ : ∃ W, W = (w.alloc (.cells #[.slice SA d.secs.length sc, .slice PA d.pend.length pc, .int .i64 d.left, .bool d.stop] 25)).alloc (.cells #[.slice none 0 0, .int .i64 0, .int .i64 0] 55) := ⟨_, rfl⟩
  rw [← hW1]
  have hb : Below w.heap.size w W1 := by rw [hW1]; exact ((Below.refl _ _).alloc (Nat.le_refl _) _).alloc (by simp) _
  have x1 : Blk W1 w.heap.size 25 #[.slice SA d.secs.length sc, .slice PA d.pend.length pc, .int .i64 d.left, .bool d.stop] := by rw [hW1]; exact (Blk.new w 25 _).alloc _
  have x2 : Blk W1 (w.heap.size + 1) 55 #[.slice none 0 0, .int .i64 0, .int .i64 0] := by rw [hW1]; exact Blk.newAt (by simp) 55 _
  clear hW1
  replace h1 := h1.below hb
  replace h2 := h2.below hb
  have hw := hb
  clear hb
  have x1c0 := x1.cell 0
  have x1c1 := x1.cell 1
  have x1c2 := x1.cell 2
  have x1c3 := x1.cell 3
  simp only [List.getElem?_toArray, List.getElem?_cons_zero, List.getElem?_cons_succ] at x1c0 x1c1 x1c2 x1c3
  have x1l := x1.lt
  have K : Calls Try.prog 44 #[.agg #[.slice SA d.secs.length sc, .slice PA d.pend.length pc, .int .i64 d.left, .bool d.stop]] W1 (fun e w' => ∃ RA rc, e = .returned (.tuple #[.agg #[.slice RA j.recs.length rc, .int .i64 j.many, .int .i64 j.sync], .int .i64 x]) ∧ j.recs.length ≤ rc ∧ RowsAt n₀ w' RA j.recs ∧ Below W1.heap.size W1 w') := (open_t SA PA sc pc d W1 (Nat.le_trans hn hw.size) hl1 hl2 h1 h2).mono fun e w9 hq => by obtain ⟨v, rfl, ⟨RA, rc, rfl, q1, q2⟩, q3⟩ := hq; rw [← HJ.out] at q1 q2 ⊢; rw [← HX.out]; exact ⟨RA, rc, rfl, q1, q2, q3⟩
  go_at_call 44
  refine K.mono ?_
  rintro e w2 ⟨RA, rc, rfl, hrc, rj, hb⟩
  clear K
  replace h1 := h1.below hb
  replace h2 := h2.below hb
  replace x1 := x1.below hb x1.lt
  replace x2 := x2.below hb x2.lt
  replace hw := hw.trans (hb.mono hw.size)
  clear x1c0 x1c1 x1c2 x1c3 x1l
  clear hb
  have x2c0 := x2.cell 0
  have x2f0 := x2.frozen 0
  have x2c1 := x2.cell 1
  have x2f1 := x2.frozen 1
  have x2c2 := x2.cell 2
  have x2f2 := x2.frozen 2
  simp only [List.getElem?_toArray, List.getElem?_cons_zero, List.getElem?_cons_succ] at x2c0 x2c1 x2c2
  have x2l := x2.lt
  go_upto_region 2 with (fail)
  obtain ⟨W3, hW3⟩ : ∃ W, W = (((w2.setCell ⟨(w.heap.size + 1), 0, none⟩ (.slice RA j.recs.length rc)).setCell ⟨(w.heap.size + 1), 1, none⟩ (.int .i64 j.many)).setCell ⟨(w.heap.size + 1), 2, none⟩ (.int .i64 j.sync)) := ⟨_, rfl⟩
  rw [← hW3]
  have hk : Keep (fun r => r = (w.heap.size + 1)) w2 W3 := by rw [hW3]; repeat (first | with_reducible exact Keep.refl _ _ | refine Keep.setCell ?_ (fun _ => by simp) _)
  have hm := Boxes.one (n₀ := n₀) x2 rfl (by omega)
  replace h1 := h1.keep hk hm
  replace h2 := h2.keep hk hm
  replace rj := rj.keep hk hm
  replace x1 := x1.keep hk (fun h => by omega)
  replace x2 : Blk W3 (w.heap.size + 1) 55 #[.slice RA j.recs.length rc, .int .i64 j.many, .int .i64 j.sync] := by rw [hW3]; exact (((x2.set 0 (.slice RA j.recs.length rc)).set 1 (.int .i64 j.many)).set 2 (.int .i64 j.sync))
  replace hw := hw.trans (hk.below hw.size (fun r hr h => by omega))
  clear x2f0 x2f1 x2f2 x2c0 x2c1 x2c2 x2l
  clear hW3 hk hm
  by_cases k0 : x = 0
  case neg =>
    have dk0 : (x != 0) = true := bne_iff_ne.2 k0
    have E := Lib.hid (rOpn_no (d := d) (by rw [← HX.out]; exact k0))
    clear k0
    have x2c0 := x2.cell 0
    have x2f0 := x2.frozen 0
    have x2c1 := x2.cell 1
    have x2f1 := x2.frozen 1
    have x2c2 := x2.cell 2
    have x2f2 := x2.frozen 2
    simp only [List.getElem?_toArray, List.getElem?_cons_zero, List.getElem?_cons_succ] at x2c0 x2c1 x2c2
    have x2l := x2.lt
    go_wp2_with (fail)
    obtain ⟨W4, hW4⟩ : ∃ W, W = (((W3.setCell ⟨(w.heap.size + 1), 0, none⟩ (.slice none 0 0)).setCell ⟨(w.heap.size + 1), 1, none⟩ (.int .i64 0)).setCell ⟨(w.heap.size + 1), 2, none⟩ (.int .i64 0)) := ⟨_, rfl⟩
    rw [← hW4]
    have hk : Keep (fun r => r = (w.heap.size + 1)) W3 W4 := by rw [hW4]; repeat (first | with_reducible exact Keep.refl _ _ | refine Keep.setCell ?_ (fun _ => by simp) _)
    have hm := Boxes.one (n₀ := n₀) x2 rfl (by omega)
    replace h1 := h1.keep hk hm
    replace h2 := h2.keep hk hm
    replace rj := rj.keep hk hm
    replace x1 := x1.keep hk (fun h => by omega)
    replace x2 : Blk W4 (w.heap.size + 1) 55 #[.slice none 0 0, .int .i64 0, .int .i64 0] := by rw [hW4]; exact (((x2.set 0 (.slice none 0 0)).set 1 (.int .i64 0)).set 2 (.int .i64 0))
    replace hw := hw.trans (hk.below hw.size (fun r hr h => by omega))
    clear x2f0 x2f1 x2f2 x2c0 x2c1 x2c2 x2l
    clear hW4 hk hm
    have x2c0 := x2.cell 0
    have x2c1 := x2.cell 1
    have x2c2 := x2.cell 2
    simp only [List.getElem?_toArray, List.getElem?_cons_zero, List.getElem?_cons_succ] at x2c0 x2c1 x2c2
    have x2l := x2.lt
    refine bodyPost_ret (v := .tuple #[.agg #[.slice none 0 0, .int .i64 0, .int .i64 0], .slice none 0 0, .int .i64 x]) (by simp [results, Try.results58, go_sem, x2c0, x2c1, x2c2]) rfl ?_
    rw [E.out]
    rw [← HX.out]
    exact ⟨_, none, 0, rfl, jn0V _, Nat.le_refl _, NumsAt.nil _ _, hw⟩
  subst k0
  have hsm := open_sm HX.out.symm
  rw [← HJ.out] at hsm
  have HSM := Lib.hid hsm
  clear hsm
  obtain ⟨q, hq⟩ : ∃ q, q = rdR j.recs := ⟨_, rfl⟩
  have HQ := Lib.hid hq
  clear hq
  have x2c0 := x2.cell 0
  have x2f0 := x2.frozen 0
  have x2c1 := x2.cell 1
  have x2f1 := x2.frozen 1
  have x2c2 := x2.cell 2
  have x2f2 := x2.frozen 2
  simp only [List.getElem?_toArray, List.getElem?_cons_zero, List.getElem?_cons_succ] at x2c0 x2c1 x2c2
  have x2l := x2.lt
  go_upto_region 4 with (fail)
  go_wp2_with (fail)
  have K : Calls Try.prog 94 #[.slice RA j.recs.length rc] W3 (fun e w' => ∃ A c, e = .returned (.tuple #[.slice A q.1.length c, .int .i64 q.2]) ∧ q.1.length ≤ c ∧ NumsAt n₀ w' A q.1 ∧ Below W3.heap.size W3 w') := (by rw [HQ.out]; exact recread_t RA rc j.recs W3 (Nat.le_trans hn hw.size) HSM.out rj)
  go_at_call 94
  refine K.mono ?_
  rintro e w4 ⟨A9, c9, rfl, hc9, ni9, hb⟩
  clear K
  replace h1 := h1.below hb
  replace h2 := h2.below hb
  replace rj := rj.below hb
  replace x1 := x1.below hb x1.lt
  replace x2 := x2.below hb x2.lt
  replace hw := hw.trans (hb.mono hw.size)
  clear x2f0 x2f1 x2f2 x2c0 x2c1 x2c2 x2l
  clear hb
  by_cases k1 : q.2 = 0
  case neg =>
    have dk1 : (q.2 != 0) = true := bne_iff_ne.2 k1
    have E := Lib.hid (rOpn_bad (d := d) HX.out.symm (by rw [← HJ.out, ← HQ.out]; exact k1))
    clear k1
    have x2c0 := x2.cell 0
    have x2f0 := x2.frozen 0
    have x2c1 := x2.cell 1
    have x2f1 := x2.frozen 1
    have x2c2 := x2.cell 2
    have x2f2 := x2.frozen 2
    simp only [List.getElem?_toArray, List.getElem?_cons_zero, List.getElem?_cons_succ] at x2c0 x2c1 x2c2
    have x2l := x2.lt
    go_wp2_with (fail)
    obtain ⟨W5, hW5⟩ : ∃ W, W = (((w4.setCell ⟨(w.heap.size + 1), 0, none⟩ (.slice none 0 0)).setCell ⟨(w.heap.size + 1), 1, none⟩ (.int .i64 0)).setCell ⟨(w.heap.size + 1), 2, none⟩ (.int .i64 0)) := ⟨_, rfl⟩
    rw [← hW5]
    have hk : Keep (fun r => r = (w.heap.size + 1)) w4 W5 := by rw [hW5]; repeat (first | with_reducible exact Keep.refl _ _ | refine Keep.setCell ?_ (fun _ => by simp) _)
    have hm := Boxes.one (n₀ := n₀) x2 rfl (by omega)
    replace h1 := h1.keep hk hm
    replace h2 := h2.keep hk hm
    replace rj := rj.keep hk hm
    replace ni9 := ni9.box hk x2 (by decide) (by omega)
    replace x1 := x1.keep hk (fun h => by omega)
    replace x2 : Blk W5 (w.heap.size + 1) 55 #[.slice none 0 0, .int .i64 0, .int .i64 0] := by rw [hW5]; exact (((x2.set 0 (.slice none 0 0)).set 1 (.int .i64 0)).set 2 (.int .i64 0))
    replace hw := hw.trans (hk.below hw.size (fun r hr h => by omega))
    clear x2f0 x2f1 x2f2 x2c0 x2c1 x2c2 x2l
    clear hW5 hk hm
    have x2c0 := x2.cell 0
    have x2c1 := x2.cell 1
    have x2c2 := x2.cell 2
    simp only [List.getElem?_toArray, List.getElem?_cons_zero, List.getElem?_cons_succ] at x2c0 x2c1 x2c2
    have x2l := x2.lt
    refine bodyPost_ret (v := .tuple #[.agg #[.slice none 0 0, .int .i64 0, .int .i64 0], .slice none 0 0, .int .i64 q.2]) (by simp [results, Try.results58, go_sem, x2c0, x2c1, x2c2]) rfl ?_
    rw [E.out]
    rw [← HJ.out, ← HQ.out]
    exact ⟨_, none, 0, rfl, jn0V _, Nat.le_refl _, NumsAt.nil _ _, hw⟩
  have dk1 : (q.2 != 0) = false := by rw [k1]; rfl
  have E := Lib.hid (rOpn_ok (d := d) HX.out.symm (by rw [← HJ.out, ← HQ.out]; exact k1))
  clear k1
  have x2c0 := x2.cell 0
  have x2f0 := x2.frozen 0
  have x2c1 := x2.cell 1
  have x2f1 := x2.frozen 1
  have x2c2 := x2.cell 2
  have x2f2 := x2.frozen 2
  simp only [List.getElem?_toArray, List.getElem?_cons_zero, List.getElem?_cons_succ] at x2c0 x2c1 x2c2
  have x2l := x2.lt
  go_wp2_with (fail)
  obtain ⟨W5, hW5⟩ : ∃ W, W = (((w4.setCell ⟨(w.heap.size + 1), 0, none⟩ (.slice RA j.recs.length rc)).setCell ⟨(w.heap.size + 1), 1, none⟩ (.int .i64 j.many)).setCell ⟨(w.heap.size + 1), 2, none⟩ (.int .i64 j.sync)) := ⟨_, rfl⟩
  rw [← hW5]
  have hk : Keep (fun r => r = (w.heap.size + 1)) w4 W5 := by rw [hW5]; repeat (first | with_reducible exact Keep.refl _ _ | refine Keep.setCell ?_ (fun _ => by simp) _)
  have hm := Boxes.one (n₀ := n₀) x2 rfl (by omega)
  replace h1 := h1.keep hk hm
  replace h2 := h2.keep hk hm
  replace rj := rj.keep hk hm
  replace ni9 := ni9.box hk x2 (by decide) (by omega)
  replace x1 := x1.keep hk (fun h => by omega)
  replace x2 : Blk W5 (w.heap.size + 1) 55 #[.slice RA j.recs.length rc, .int .i64 j.many, .int .i64 j.sync] := by rw [hW5]; exact (((x2.set 0 (.slice RA j.recs.length rc)).set 1 (.int .i64 j.many)).set 2 (.int .i64 j.sync))
  replace hw := hw.trans (hk.below hw.size (fun r hr h => by omega))
  clear x2f0 x2f1 x2f2 x2c0 x2c1 x2c2 x2l
  clear hW5 hk hm
  have x2c0 := x2.cell 0
  have x2c1 := x2.cell 1
  have x2c2 := x2.cell 2
  simp only [List.getElem?_toArray, List.getElem?_cons_zero, List.getElem?_cons_succ] at x2c0 x2c1 x2c2
  have x2l := x2.lt
  refine bodyPost_ret (v := .tuple #[.agg #[.slice RA j.recs.length rc, .int .i64 j.many, .int .i64 j.sync], .slice A9 q.1.length c9, .int .i64 0]) (by simp [results, Try.results58, go_sem, x2c0, x2c1, x2c2]) rfl ?_
  rw [E.out, ← HJ.out, ← HQ.out]
  exact ⟨_, A9, c9, rfl, ⟨RA, rc, rfl, hrc, rj⟩, hc9, ni9, hw⟩
end Go.Proofs.Ytckeopidedoohaa

namespace Go.Proofs.Ytckeopidedoohaa
open Go.RowKit
variable {n₀ : Nat}
attribute [local go_sem] Oper.semAt_some

theorem rWrite_no {j : Jn} {l : List Int} (h : (rData j).2 ≠ 0) : rWrite j l = (jn0, (rData j).2) := by unfold rWrite; rw [if_pos h]
theorem rWrite_bad {j : Jn} {l : List Int} (h : (rData j).2 = 0) (h1 : ¬ OkB l) : rWrite j l = (jn0, 1) := by unfold rWrite; rw [if_neg (by rw [h]; simp), if_neg h1]
theorem rWrite_ok {j : Jn} {l : List Int} (h : (rData j).2 = 0) (h1 : OkB l) : rWrite j l = gApp j (encB l) := by unfold rWrite; rw [if_neg (by rw [h]; simp), if_pos h1]

set_option maxRecDepth 20000 in
set_option maxHeartbeats 4000000 in
theorem rwriteR_t (RA A : Option Addr) (rc c : Nat) (j : Jn) (l : List Int) (w : World) (hn : n₀ ≤ w.heap.size) (hs : Sm j.recs) (hrc : j.recs.length ≤ rc) (hll : l.length ≤ 140737488355328) (r0 : RowsAt n₀ w RA j.recs) (ni : NumsAt n₀ w A l) :
    Calls Try.prog 59 #[.agg #[.slice RA j.recs.length rc, .int .i64 j.many, .int .i64 j.sync], .slice A l.length c] w (JnIs n₀ w (rWrite j l)) := by
  have HS := Lib.hid hs
  clear hs
  obtain ⟨x, hx⟩ : ∃ x, x = (rData j).2 := ⟨_, rfl⟩
  have HX := Lib.hid hx
  obtain ⟨q, hq⟩ : ∃ q, q = (rData j).1 := ⟨_, rfl⟩
  have HQ := Lib.hid hq
  clear hx hq
  go_enter Try.func59, Try.ntmps59
  go_upto_region 1 with (fail)
  obtain ⟨W1, hW1⟩ : ∃ W, W = (w.alloc (.cells #[.slice RA j.recs.length rc, .int .i64 j.many, .int .i64 j.sync] 55)).alloc (.cells #[.slice none 0 0, .int .i64 0, .int .i64 0] 55) := ⟨_, rfl⟩
  rw [← hW1]
  have hb : Below w.heap.size w W1 := by rw [hW1]; exact ((Below.refl _ _).alloc (Nat.le_refl _) _).alloc (by simp) _
  have x2 : Blk W1 w.heap.size 55 #[.slice RA j.recs.length rc, .int .i64 j.many, .int .i64 j.sync] := by rw [hW1]; exact (Blk.new w 55 _).alloc _
  have x4 : Blk W1 (w.heap.size + 1) 55 #[.slice none 0 0, .int .i64 0, .int .i64 0] := by rw [hW1]; exact Blk.newAt (by simp) 55 _
  clear hW1
  replace r0 := r0.below hb
  replace ni := ni.below hb
  have hw := hb
  clear hb
  have x2c0 := x2.cell 0
  have x2c1 := x2.cell 1
  have x2c2 := x2.cell 2
  simp only [List.getElem?_toArray, List.getElem?_cons_zero, List.getElem?_cons_succ] at x2c0 x2c1 x2c2
  have x2l := x2.lt
  go_wp2_with (fail)
  have K : Calls Try.prog 62 #[.agg #[.slice RA j.recs.length rc, .int .i64 j.many, .int .i64 j.sync]] W1 (fun e w' => ∃ A c, e = .returned (.tuple #[.slice A q.length c, .int .i64 x]) ∧ Below W1.heap.size W1 w') := (by rw [HX.out, HQ.out]; exact (data_t RA rc j W1 (Nat.le_trans hn hw.size) HS.out r0).mono fun e w9 h => by obtain ⟨A, c, h1, -, -, h4⟩ := h; exact ⟨A, c, h1, h4⟩)
  go_at_call 62
  refine K.mono ?_
  rintro e w2 ⟨A9, c9, rfl, hb⟩
  clear K
  replace r0 := r0.below hb
  replace ni := ni.below hb
  replace x2 := x2.below hb x2.lt
  replace x4 := x4.below hb x4.lt
  replace hw := hw.trans (hb.mono hw.size)
  clear x2c0 x2c1 x2c2 x2l
  clear hb
  by_cases k0 : x = 0
  case neg =>
    have dk0 : (x != 0) = true := bne_iff_ne.2 k0
    have E := Lib.hid (rWrite_no (l := l) (by rw [← HX.out]; exact k0))
    clear k0
    have x4c0 := x4.cell 0
    have x4f0 := x4.frozen 0
    have x4c1 := x4.cell 1
    have x4f1 := x4.frozen 1
    have x4c2 := x4.cell 2
    have x4f2 := x4.frozen 2
    simp only [List.getElem?_toArray, List.getElem?_cons_zero, List.getElem?_cons_succ] at x4c0 x4c1 x4c2
    have x4l := x4.lt
    go_wp2_with (fail)
    obtain ⟨W3, hW3⟩ : ∃ W, W = (((w2.setCell ⟨(w.heap.size + 1), 0, none⟩ (.slice none 0 0)).setCell ⟨(w.heap.size + 1), 1, none⟩ (.int .i64 0)).setCell ⟨(w.heap.size + 1), 2, none⟩ (.int .i64 0)) := ⟨_, rfl⟩
    rw [← hW3]
    have hk : Keep (fun r => r = (w.heap.size + 1)) w2 W3 := by rw [hW3]; repeat (first | with_reducible exact Keep.refl _ _ | refine Keep.setCell ?_ (fun _ => by simp) _)
    have hm := Boxes.one (n₀ := n₀) x4 rfl (by omega)
    replace r0 := r0.keep hk hm
    replace ni := ni.box hk x4 (by decide) (by omega)
    replace x2 := x2.keep hk (fun h => by omega)
    replace x4 : Blk W3 (w.heap.size + 1) 55 #[.slice none 0 0, .int .i64 0, .int .i64 0] := by rw [hW3]; exact (((x4.set 0 (.slice none 0 0)).set 1 (.int .i64 0)).set 2 (.int .i64 0))
    replace hw := hw.trans (hk.below hw.size (fun r hr h => by omega))
    clear x4f0 x4f1 x4f2 x4c0 x4c1 x4c2 x4l
    clear hW3 hk hm
    have x4c0 := x4.cell 0
    have x4c1 := x4.cell 1
    have x4c2 := x4.cell 2
    simp only [List.getElem?_toArray, List.getElem?_cons_zero, List.getElem?_cons_succ] at x4c0 x4c1 x4c2
    have x4l := x4.lt
    refine bodyPost_ret (v := .tuple #[.agg #[.slice none 0 0, .int .i64 0, .int .i64 0], .int .i64 x]) (by simp [results, Try.results59, go_sem, x4c0, x4c1, x4c2]) rfl ?_
    rw [E.out]
    rw [← HX.out]
    exact ⟨_, rfl, jn0V _, hw⟩
  subst k0
  obtain ⟨n, hnl⟩ : ∃ n, n = l.length := ⟨_, rfl⟩
  rw [← hnl] at hll ⊢
  have HNL := Lib.hid hnl
  clear hnl
  by_cases k1 : 1 ≤ n
  case neg =>
    have d1 : decide ((n : Int) < 1) = true := decide_eq_true (by omega)
    have d1n : decide (n < 1) = true := decide_eq_true (by omega)
    have E := Lib.hid (rWrite_bad (l := l) HX.out.symm (fun h => k1 (by rw [HNL.out]; exact h.1)))
    clear k1
    have x4c0 := x4.cell 0
    have x4f0 := x4.frozen 0
    have x4c1 := x4.cell 1
    have x4f1 := x4.frozen 1
    have x4c2 := x4.cell 2
    have x4f2 := x4.frozen 2
    simp only [List.getElem?_toArray, List.getElem?_cons_zero, List.getElem?_cons_succ] at x4c0 x4c1 x4c2
    have x4l := x4.lt
    go_wp2_with (fail)
    obtain ⟨W3, hW3⟩ : ∃ W, W = (((w2.setCell ⟨(w.heap.size + 1), 0, none⟩ (.slice none 0 0)).setCell ⟨(w.heap.size + 1), 1, none⟩ (.int .i64 0)).setCell ⟨(w.heap.size + 1), 2, none⟩ (.int .i64 0)) := ⟨_, rfl⟩
    rw [← hW3]
    have hk : Keep (fun r => r = (w.heap.size + 1)) w2 W3 := by rw [hW3]; repeat (first | with_reducible exact Keep.refl _ _ | refine Keep.setCell ?_ (fun _ => by simp) _)
    have hm := Boxes.one (n₀ := n₀) x4 rfl (by omega)
    replace r0 := r0.keep hk hm
    replace ni := ni.box hk x4 (by decide) (by omega)
    replace x2 := x2.keep hk (fun h => by omega)
    replace x4 : Blk W3 (w.heap.size + 1) 55 #[.slice none 0 0, .int .i64 0, .int .i64 0] := by rw [hW3]; exact (((x4.set 0 (.slice none 0 0)).set 1 (.int .i64 0)).set 2 (.int .i64 0))
    replace hw := hw.trans (hk.below hw.size (fun r hr h => by omega))
    clear x4f0 x4f1 x4f2 x4c0 x4c1 x4c2 x4l
    clear hW3 hk hm
    have x4c0 := x4.cell 0
    have x4c1 := x4.cell 1
    have x4c2 := x4.cell 2
    simp only [List.getElem?_toArray, List.getElem?_cons_zero, List.getElem?_cons_succ] at x4c0 x4c1 x4c2
    have x4l := x4.lt
    refine bodyPost_ret (v := .tuple #[.agg #[.slice none 0 0, .int .i64 0, .int .i64 0], .int .i64 1]) (by simp [results, Try.results59, go_sem, x4c0, x4c1, x4c2]) rfl ?_
    rw [E.out]
    exact ⟨_, rfl, jn0V _, hw⟩
  by_cases k2 : n ≤ 16
  case neg =>
    have d1 : decide ((n : Int) < 1) = false := decide_eq_false (by omega)
    have d1n : decide (n < 1) = false := decide_eq_false (by omega)
    have d2 : decide (16 < (n : Int)) = true := decide_eq_true (by omega)
    have d2n : decide (16 < n) = true := decide_eq_true (by omega)
    have E := Lib.hid (rWrite_bad (l := l) HX.out.symm (fun h => k2 (by rw [HNL.out]; exact h.2.1)))
    clear k2 k1
    have x4c0 := x4.cell 0
    have x4f0 := x4.frozen 0
    have x4c1 := x4.cell 1
    have x4f1 := x4.frozen 1
    have x4c2 := x4.cell 2
    have x4f2 := x4.frozen 2
    simp only [List.getElem?_toArray, List.getElem?_cons_zero, List.getElem?_cons_succ] at x4c0 x4c1 x4c2
    have x4l := x4.lt
    go_wp2_with (fail)
    obtain ⟨W3, hW3⟩ : ∃ W, W = (((w2.setCell ⟨(w.heap.size + 1), 0, none⟩ (.slice none 0 0)).setCell ⟨(w.heap.size + 1), 1, none⟩ (.int .i64 0)).setCell ⟨(w.heap.size + 1), 2, none⟩ (.int .i64 0)) := ⟨_, rfl⟩
    rw [← hW3]
    have hk : Keep (fun r => r = (w.heap.size + 1)) w2 W3 := by rw [hW3]; repeat (first | with_reducible exact Keep.refl _ _ | refine Keep.setCell ?_ (fun _ => by simp) _)
    have hm := Boxes.one (n₀ := n₀) x4 rfl (by omega)
    replace r0 := r0.keep hk hm
    replace ni := ni.box hk x4 (by decide) (by omega)
    replace x2 := x2.keep hk (fun h => by omega)
    replace x4 : Blk W3 (w.heap.size + 1) 55 #[.slice none 0 0, .int .i64 0, .int .i64 0] := by rw [hW3]; exact (((x4.set 0 (.slice none 0 0)).set 1 (.int .i64 0)).set 2 (.int .i64 0))
    replace hw := hw.trans (hk.below hw.size (fun r hr h => by omega))
    clear x4f0 x4f1 x4f2 x4c0 x4c1 x4c2 x4l
    clear hW3 hk hm
    have x4c0 := x4.cell 0
    have x4c1 := x4.cell 1
    have x4c2 := x4.cell 2
    simp only [List.getElem?_toArray, List.getElem?_cons_zero, List.getElem?_cons_succ] at x4c0 x4c1 x4c2
    have x4l := x4.lt
    refine bodyPost_ret (v := .tuple #[.agg #[.slice none 0 0, .int .i64 0, .int .i64 0], .int .i64 1]) (by simp [results, Try.results59, go_sem, x4c0, x4c1, x4c2]) rfl ?_
    rw [E.out]
    exact ⟨_, rfl, jn0V _, hw⟩
  have d1 : decide ((n : Int) < 1) = false := decide_eq_false (by omega)
  have d1n : decide (n < 1) = false := decide_eq_false (by omega)
  have d2 : decide (16 < (n : Int)) = false := decide_eq_false (by omega)
  have d2n : decide (16 < n) = false := decide_eq_false (by omega)
  go_wp2_with (fail)
  go_loopw [30] (fun v30 wr => ∃ i : Nat, i ≤ n ∧ v30 = .int .i64 i ∧ Hid (∀ v ∈ l.take i, OkV v) ∧ wr = w2) (fun v30 _ => n - (intOf v30).toNat)
  case atStart => exact ⟨0, by omega, rfl, Lib.hid (fun v h => by rw [List.take_zero] at h; cases h), rfl⟩
  case round =>
    clear d1 d1n d2 d2n
    obtain ⟨i, hi, rfl, HA, hwr⟩ := hrel
    have hwr := hwr.symm
    subst hwr
    by_cases hlt : i < n
    case pos =>
      obtain ⟨b, o, rfl, lb, cb⟩ := id ni (by rw [← HNL.out]; omega)
      have z1 := cb i (by rw [← HNL.out]; exact hlt)
      obtain ⟨v, hv⟩ : ∃ v, v = l.getD i 0 := ⟨_, rfl⟩
      rw [← hv] at z1
      have hts := take_smp (l := l) (k := i) (by rw [← HNL.out]; exact hlt)
      rw [← hv] at hts
      have hvm : v ∈ l := by rw [hv, List.getD_eq_getElem?_getD, List.getElem?_eq_getElem (by rw [← HNL.out]; exact hlt)]; exact List.getElem_mem _
      have HTS := Lib.hid hts
      have HVM := Lib.hid hvm
      have i0 : (0 : Int) ≤ (i : Int) := by omega
      have i1 : (i : Int) < (n : Int) := by omega
      clear cb hv hts hvm
      by_cases k3 : -2147483648 ≤ v
      case neg =>
        have d3 : decide (v < -2147483648) = true := decide_eq_true (by omega)
        have E := Lib.hid (rWrite_bad (l := l) HX.out.symm (fun h => k3 (h.2.2 v HVM.out).1))
        clear k3
        have x4c0 := x4.cell 0
        have x4f0 := x4.frozen 0
        have x4c1 := x4.cell 1
        have x4f1 := x4.frozen 1
        have x4c2 := x4.cell 2
        have x4f2 := x4.frozen 2
        simp only [List.getElem?_toArray, List.getElem?_cons_zero, List.getElem?_cons_succ] at x4c0 x4c1 x4c2
        have x4l := x4.lt
        go_wp2_with (fail)
        obtain ⟨W3, hW3⟩ : ∃ W, W = (((w2.setCell ⟨(w.heap.size + 1), 0, none⟩ (.slice none 0 0)).setCell ⟨(w.heap.size + 1), 1, none⟩ (.int .i64 0)).setCell ⟨(w.heap.size + 1), 2, none⟩ (.int .i64 0)) := ⟨_, rfl⟩
        rw [← hW3]
        have hk : Keep (fun r => r = (w.heap.size + 1)) w2 W3 := by rw [hW3]; repeat (first | with_reducible exact Keep.refl _ _ | refine Keep.setCell ?_ (fun _ => by simp) _)
        have hm := Boxes.one (n₀ := n₀) x4 rfl (by omega)
        replace r0 := r0.keep hk hm
        replace ni := ni.box hk x4 (by decide) (by omega)
        replace x2 := x2.keep hk (fun h => by omega)
        replace x4 : Blk W3 (w.heap.size + 1) 55 #[.slice none 0 0, .int .i64 0, .int .i64 0] := by rw [hW3]; exact (((x4.set 0 (.slice none 0 0)).set 1 (.int .i64 0)).set 2 (.int .i64 0))
        replace hw := hw.trans (hk.below hw.size (fun r hr h => by omega))
        clear x4f0 x4f1 x4f2 x4c0 x4c1 x4c2 x4l
        clear hW3 hk hm
        have x4c0 := x4.cell 0
        have x4c1 := x4.cell 1
        have x4c2 := x4.cell 2
        simp only [List.getElem?_toArray, List.getElem?_cons_zero, List.getElem?_cons_succ] at x4c0 x4c1 x4c2
        have x4l := x4.lt
        refine bodyPost_ret (v := .tuple #[.agg #[.slice none 0 0, .int .i64 0, .int .i64 0], .int .i64 1]) (by simp [results, Try.results59, go_sem, x4c0, x4c1, x4c2]) rfl ?_
        rw [E.out]
        exact ⟨_, rfl, jn0V _, hw⟩
      by_cases k4 : v ≤ 2147483647
      case neg =>
        have d3 : decide (v < -2147483648) = false := decide_eq_false (by omega)
        have d4 : decide (2147483647 < v) = true := decide_eq_true (by omega)
        have E := Lib.hid (rWrite_bad (l := l) HX.out.symm (fun h => k4 (h.2.2 v HVM.out).2))
        clear k4 k3
        have x4c0 := x4.cell 0
        have x4f0 := x4.frozen 0
        have x4c1 := x4.cell 1
        have x4f1 := x4.frozen 1
        have x4c2 := x4.cell 2
        have x4f2 := x4.frozen 2
        simp only [List.getElem?_toArray, List.getElem?_cons_zero, List.getElem?_cons_succ] at x4c0 x4c1 x4c2
        have x4l := x4.lt
        go_wp2_with (fail)
        obtain ⟨W3, hW3⟩ : ∃ W, W = (((w2.setCell ⟨(w.heap.size + 1), 0, none⟩ (.slice none 0 0)).setCell ⟨(w.heap.size + 1), 1, none⟩ (.int .i64 0)).setCell ⟨(w.heap.size + 1), 2, none⟩ (.int .i64 0)) := ⟨_, rfl⟩
        rw [← hW3]
        have hk : Keep (fun r => r = (w.heap.size + 1)) w2 W3 := by rw [hW3]; repeat (first | with_reducible exact Keep.refl _ _ | refine Keep.setCell ?_ (fun _ => by simp) _)
        have hm := Boxes.one (n₀ := n₀) x4 rfl (by omega)
        replace r0 := r0.keep hk hm
        replace ni := ni.box hk x4 (by decide) (by omega)
        replace x2 := x2.keep hk (fun h => by omega)
        replace x4 : Blk W3 (w.heap.size + 1) 55 #[.slice none 0 0, .int .i64 0, .int .i64 0] := by rw [hW3]; exact (((x4.set 0 (.slice none 0 0)).set 1 (.int .i64 0)).set 2 (.int .i64 0))
        replace hw := hw.trans (hk.below hw.size (fun r hr h => by omega))
        clear x4f0 x4f1 x4f2 x4c0 x4c1 x4c2 x4l
        clear hW3 hk hm
        have x4c0 := x4.cell 0
        have x4c1 := x4.cell 1
        have x4c2 := x4.cell 2
        simp only [List.getElem?_toArray, List.getElem?_cons_zero, List.getElem?_cons_succ] at x4c0 x4c1 x4c2
        have x4l := x4.lt
        refine bodyPost_ret (v := .tuple #[.agg #[.slice none 0 0, .int .i64 0, .int .i64 0], .int .i64 1]) (by simp [results, Try.results59, go_sem, x4c0, x4c1, x4c2]) rfl ?_
        rw [E.out]
        exact ⟨_, rfl, jn0V _, hw⟩
      have d3 : decide (v < -2147483648) = false := decide_eq_false (by omega)
      have d4 : decide (2147483647 < v) = false := decide_eq_false (by omega)
      have hall : ∀ u ∈ l.take (i + 1), OkV u := fun u hu => by
        rw [HTS.out] at hu
        rcases List.mem_append.1 hu with hu | hu
        · exact HA.out u hu
        · rw [List.mem_singleton.1 hu]; exact ⟨k3, k4⟩
      have HAL := Lib.hid hall
      clear hall k3 k4
      go_wp2_with (fail)
      go_roundw
      case rel => exact ⟨i + 1, by omega, by go_num, HAL.out, by first | trivial | rfl⟩
      case measure => simp [intOf]; omega
    have hin : i = n := by omega
    have hok : OkB l := ⟨by rw [← HNL.out]; exact k1, by rw [← HNL.out]; exact k2, by have h := HA.out; rw [hin, HNL.out, List.take_length] at h; exact h⟩
    have E := Lib.hid (rWrite_ok HX.out.symm hok)
    have HOK := Lib.hid hok
    have hin : i = n := by omega
    have hok : OkB l := ⟨by rw [← HNL.out]; exact k1, by rw [← HNL.out]; exact k2, by have h := HA.out; rw [hin, HNL.out, List.take_length] at h; exact h⟩
    have E := Lib.hid (rWrite_ok HX.out.symm hok)
    have HOK := Lib.hid hok
    have dlt : decide ((i : Int) < (n : Int)) = false := decide_eq_false (by omega)
    have dltn : decide (i < n) = false := decide_eq_false hlt
    clear hok hin hi
    obtain ⟨y, hy⟩ : ∃ y, y = gApp j (encB l) := ⟨_, rfl⟩
    have HY := Lib.hid hy
    clear hy
    have he : ∀ W, Below w2.heap.size w2 W → Calls Try.prog 95 #[.slice A n c] W (fun e w' => ∃ A' c', e = .returned (.slice A' (4 * n) c') ∧ 4 * n ≤ c' ∧ BsAt n₀ w' A' (encB l) ∧ Below W.heap.size W w') := fun W hW => by rw [HNL.out]; exact encR_t A c l W (by rw [← HNL.out]; omega) HOK.out.2.2 (ni.below hW)
    have HE := Lib.hid he
    have ha : ∀ W A' c', Below w2.heap.size w2 W → BsAt n₀ W A' (encB l) → Calls Try.prog 47 #[.agg #[.slice RA j.recs.length rc, .int .i64 j.many, .int .i64 j.sync], .slice A' (4 * n) c'] W (fun e w' => ∃ RA rc, e = .returned (.tuple #[.agg #[.slice RA y.1.recs.length rc, .int .i64 y.1.many, .int .i64 y.1.sync], .int .i64 y.2]) ∧ y.1.recs.length ≤ rc ∧ RowsAt n₀ w' RA y.1.recs ∧ Below W.heap.size W w') := fun W A' c' hW hb => by
      have h := append_t (n₀ := n₀) RA A' rc c' j (encB l) W HS.out (by rw [encB_len, ← HNL.out]; omega) hrc (r0.below hW) hb
      rw [encB_len, ← HNL.out, ← HY.out] at h
      exact h.mono fun e w9 hq => by obtain ⟨v, rfl, ⟨RA, rc, rfl, q1, q2⟩, q3⟩ := hq; exact ⟨RA, rc, rfl, q1, q2, q3⟩
    have HAP := Lib.hid ha
    clear he ha
    have x2c0 := x2.cell 0
    have x2c1 := x2.cell 1
    have x2c2 := x2.cell 2
    simp only [List.getElem?_toArray, List.getElem?_cons_zero, List.getElem?_cons_succ] at x2c0 x2c1 x2c2
    have x2l := x2.lt
    have x4l := x4.lt
    have HX4 := Lib.hid x4
    have HNI := Lib.hid ni
    have HR0 := Lib.hid r0
    clear ni r0 x4 x2
    go_upto_region 12 with (fail)
    go_region_with (first | (go_at_call 95; refine (HE.out _ (by repeat (first | with_reducible exact Below.refl _ _ | with_reducible exact h5 | refine Below.drew ?_))).mono ?_; rintro e w5 ⟨A5, c5, rfl, hc5, hb5, hq5⟩; have h5 : Below w2.heap.size w2 w5 := Below.trans (by repeat (first | with_reducible exact Below.refl _ _ | with_reducible exact h5 | refine Below.drew ?_)) (Below.mono hq5 (Nat.le_refl _)); have y0 := (h5.cell (p := ⟨w.heap.size, 0, none⟩) x2l).trans x2c0; have y1 := (h5.cell (p := ⟨w.heap.size, 1, none⟩) x2l).trans x2c1; have y2 := (h5.cell (p := ⟨w.heap.size, 2, none⟩) x2l).trans x2c2) | (go_at_call 47; refine (HAP.out _ _ _ (by repeat (first | with_reducible exact Below.refl _ _ | with_reducible exact h5 | refine Below.drew ?_)) hb5).mono ?_; rintro e w9 ⟨RA9, rc9, rfl, hrc9, r9, hq9⟩; have h9 : Below w2.heap.size w2 w9 := h5.trans (hq9.mono h5.size); have t9 : Blk w9 (w.heap.size + 1) 55 #[.slice none 0 0, .int .i64 0, .int .i64 0] := HX4.out.below h9 x4l; have t0 := t9.cell 0; have f0 := t9.frozen 0; have t1 := t9.cell 1; have f1 := t9.frozen 1; have t2 := t9.cell 2; have f2 := t9.frozen 2; simp only [List.getElem?_toArray, List.getElem?_cons_zero, List.getElem?_cons_succ] at t0 t1 t2))
    all_goals
      go_wp2_with (fail)
      obtain ⟨WF, hWF⟩ : ∃ W, W = ((w9.setCell ⟨w.heap.size + 1, 0, none⟩ (.slice RA9 y.1.recs.length rc9)).setCell ⟨w.heap.size + 1, 1, none⟩ (.int .i64 y.1.many)).setCell ⟨w.heap.size + 1, 2, none⟩ (.int .i64 y.1.sync) := ⟨_, rfl⟩
      rw [← hWF]
      have hk : Keep (fun r => r = w.heap.size + 1) w9 WF := by rw [hWF]; repeat (first | with_reducible exact Keep.refl _ _ | refine Keep.setCell ?_ (fun _ => by simp) _)
      have hm := Boxes.one (n₀ := n₀) t9 rfl (by omega)
      have z4 : Blk WF (w.heap.size + 1) 55 #[.slice RA9 y.1.recs.length rc9, .int .i64 y.1.many, .int .i64 y.1.sync] := by rw [hWF]; simpa using ((t9.set 0 (.slice RA9 y.1.recs.length rc9)).set 1 (.int .i64 y.1.many)).set 2 (.int .i64 y.1.sync)
      have r10 := r9.keep hk hm
      have hw9 := hw.trans (h9.mono hw.size)
      have hwF := hw9.trans (hk.below hw9.size (fun r hr h => by omega))
      clear hWF hk hm t0 t1 t2 f0 f1 f2
      have z4c0 := z4.cell 0
      have z4c1 := z4.cell 1
      have z4c2 := z4.cell 2
      simp only [List.getElem?_toArray, List.getElem?_cons_zero, List.getElem?_cons_succ] at z4c0 z4c1 z4c2
      have z4l := z4.lt
      refine bodyPost_ret (v := .tuple #[.agg #[.slice RA9 y.1.recs.length rc9, .int .i64 y.1.many, .int .i64 y.1.sync], .int .i64 y.2]) (by simp [results, Try.results59, go_sem, z4c0, z4c1, z4c2]) rfl ?_
      rw [E.out, ← HY.out]
      exact ⟨_, rfl, ⟨RA9, rc9, rfl, hrc9, r10⟩, hwF⟩
end Go.Proofs.Ytckeopidedoohaa

namespace Go.Proofs.Ytckeopidedoohaa
open Go.RowKit
variable {n₀ : Nat}
attribute [local go_sem] Oper.semAt_some

theorem rSyn_no {j : Jn} {d : Dk} (h : (rData j).2 ≠ 0) : rSyn j d = ((jn0, dk0), (rData j).2) := by unfold rSyn; rw [if_pos h]
theorem rSyn_ok {j : Jn} {d : Dk} (h : (rData j).2 = 0) : rSyn j d = gJs j d := by unfold rSyn; rw [if_neg (by rw [h]; simp)]
theorem jsV_out {w w' : World} {x : Ending} {g : (Jn × Dk) × Int} (h : JsIs n₀ w g x w') : ∃ A c S s P p, x = .returned (.tuple #[.agg #[.slice A g.1.1.recs.length c, .int .i64 g.1.1.many, .int .i64 g.1.1.sync], .agg #[.slice S g.1.2.secs.length s, .slice P g.1.2.pend.length p, .int .i64 g.1.2.left, .bool g.1.2.stop], .int .i64 g.2]) ∧ g.1.1.recs.length ≤ c ∧ RowsAt n₀ w' A g.1.1.recs ∧ g.1.2.secs.length ≤ s ∧ g.1.2.pend.length ≤ p ∧ RowsAt n₀ w' S g.1.2.secs ∧ WrsAt n₀ w' P g.1.2.pend ∧ Below w.heap.size w w' := by
  obtain ⟨v, u, rfl, ⟨A, c, rfl, h1, h2⟩, ⟨S, s, P, p, rfl, h3, h4, h5, h6⟩, h7⟩ := h
  exact ⟨A, c, S, s, P, p, rfl, h1, h2, h3, h4, h5, h6, h7⟩

set_option maxRecDepth 20000 in
set_option maxHeartbeats 4000000 in
theorem rsyncR_t (RA SA PA : Option Addr) (rc sc pc : Nat) (j : Jn) (d : Dk) (w : World) (hn : n₀ ≤ w.heap.size) (hs : Sm j.recs) (hrc : j.recs.length ≤ rc) (hl1 : d.secs.length ≤ 140737488355328) (hl2 : d.pend.length ≤ 140737488355328) (hsc : d.secs.length ≤ sc) (hpc : d.pend.length ≤ pc) (r0 : RowsAt n₀ w RA j.recs) (r1 : RowsAt n₀ w SA d.secs) (q1 : WrsAt n₀ w PA d.pend) :
    Calls Try.prog 60 #[.agg #[.slice RA j.recs.length rc, .int .i64 j.many, .int .i64 j.sync], .agg #[.slice SA d.secs.length sc, .slice PA d.pend.length pc, .int .i64 d.left, .bool d.stop]] w (JsIs n₀ w (rSyn j d)) := by
  have HS := Lib.hid hs
  clear hs
  obtain ⟨x, hx⟩ : ∃ x, x = (rData j).2 := ⟨_, rfl⟩
  have HX := Lib.hid hx
  obtain ⟨q, hq⟩ : ∃ q, q = (rData j).1 := ⟨_, rfl⟩
  have HQ := Lib.hid hq
  clear hx hq
  go_enter Try.func60, Try.ntmps60
  go_upto_region 1 with (fail)
  obtain ⟨W1, hW1⟩ : ∃ W, W = ((((w.alloc (.cells #[.slice RA j.recs.length rc, .int .i64 j.many, .int .i64 j.sync] 55)).alloc (.cells #[.slice SA d.secs.length sc, .slice PA d.pend.length pc, .int .i64 d.left, .bool d.stop] 25)).alloc (.cells #[.slice none 0 0, .int .i64 0, .int .i64 0] 55)).alloc (.cells #[.slice none 0 0, .slice none 0 0, .int .i64 0, .bool false] 25)) := ⟨_, rfl⟩
  rw [← hW1]
  have hb : Below w.heap.size w W1 := by rw [hW1]; exact ((((Below.refl _ _).alloc (Nat.le_refl _) _).alloc (by simp) _).alloc (by simp <;> omega) _).alloc (by simp <;> omega) _
  have x2 : Blk W1 w.heap.size 55 #[.slice RA j.recs.length rc, .int .i64 j.many, .int .i64 j.sync] := by rw [hW1]; exact (((Blk.new w 55 _).alloc _).alloc _).alloc _
  have x3 : Blk W1 (w.heap.size + 1) 25 #[.slice SA d.secs.length sc, .slice PA d.pend.length pc, .int .i64 d.left, .bool d.stop] := by rw [hW1]; exact ((Blk.newAt (by simp) 25 _).alloc _).alloc _
  have x4 : Blk W1 (w.heap.size + 1 + 1) 55 #[.slice none 0 0, .int .i64 0, .int .i64 0] := by rw [hW1]; exact (Blk.newAt (by simp) 55 _).alloc _
  have x5 : Blk W1 (w.heap.size + 1 + 1 + 1) 25 #[.slice none 0 0, .slice none 0 0, .int .i64 0, .bool false] := by rw [hW1]; exact Blk.newAt (by simp) 25 _
  clear hW1
  replace r0 := r0.below hb
  replace r1 := r1.below hb
  replace q1 := q1.below hb
  have hw := hb
  clear hb
  have x2c0 := x2.cell 0
  have x2c1 := x2.cell 1
  have x2c2 := x2.cell 2
  simp only [List.getElem?_toArray, List.getElem?_cons_zero, List.getElem?_cons_succ] at x2c0 x2c1 x2c2
  have x2l := x2.lt
  go_wp2_with (fail)
  have K : Calls Try.prog 62 #[.agg #[.slice RA j.recs.length rc, .int .i64 j.many, .int .i64 j.sync]] W1 (fun e w' => ∃ A c, e = .returned (.tuple #[.slice A q.length c, .int .i64 x]) ∧ Below W1.heap.size W1 w') := (by rw [HX.out, HQ.out]; exact (data_t RA rc j W1 (Nat.le_trans hn hw.size) HS.out r0).mono fun e w9 h => by obtain ⟨A, c, h1, -, -, h4⟩ := h; exact ⟨A, c, h1, h4⟩)
  go_at_call 62
  refine K.mono ?_
  rintro e w2 ⟨A9, c9, rfl, hb⟩
  clear K
  replace r0 := r0.below hb
  replace r1 := r1.below hb
  replace q1 := q1.below hb
  replace x2 := x2.below hb x2.lt
  replace x3 := x3.below hb x3.lt
  replace x4 := x4.below hb x4.lt
  replace x5 := x5.below hb x5.lt
  replace hw := hw.trans (hb.mono hw.size)
  clear x2c0 x2c1 x2c2 x2l
  clear hb
  by_cases k0 : x = 0
  case neg =>
    have dk0 : (x != 0) = true := bne_iff_ne.2 k0
    have E := Lib.hid (rSyn_no (d := d) (by rw [← HX.out]; exact k0))
    clear k0
    have x4c0 := x4.cell 0
    have x4f0 := x4.frozen 0
    have x4c1 := x4.cell 1
    have x4f1 := x4.frozen 1
    have x4c2 := x4.cell 2
    have x4f2 := x4.frozen 2
    simp only [List.getElem?_toArray, List.getElem?_cons_zero, List.getElem?_cons_succ] at x4c0 x4c1 x4c2
    have x4l := x4.lt
    have x5c0 := x5.cell 0
    have x5f0 := x5.frozen 0
    have x5c1 := x5.cell 1
    have x5f1 := x5.frozen 1
    have x5c2 := x5.cell 2
    have x5f2 := x5.frozen 2
    have x5c3 := x5.cell 3
    have x5f3 := x5.frozen 3
    simp only [List.getElem?_toArray, List.getElem?_cons_zero, List.getElem?_cons_succ] at x5c0 x5c1 x5c2 x5c3
    have x5l := x5.lt
    go_wp2_with (fail)
    obtain ⟨W3, hW3⟩ : ∃ W, W = (((((((w2.setCell ⟨(w.heap.size + 1 + 1), 0, none⟩ (.slice none 0 0)).setCell ⟨(w.heap.size + 1 + 1), 1, none⟩ (.int .i64 0)).setCell ⟨(w.heap.size + 1 + 1), 2, none⟩ (.int .i64 0)).setCell ⟨(w.heap.size + 1 + 1 + 1), 0, none⟩ (.slice none 0 0)).setCell ⟨(w.heap.size + 1 + 1 + 1), 1, none⟩ (.slice none 0 0)).setCell ⟨(w.heap.size + 1 + 1 + 1), 2, none⟩ (.int .i64 0)).setCell ⟨(w.heap.size + 1 + 1 + 1), 3, none⟩ (.bool false)) := ⟨_, rfl⟩
    rw [← hW3]
    have hk : Keep (fun r => r = w.heap.size + 1 + 1 ∨ r = w.heap.size + 1 + 1 + 1) w2 W3 := by rw [hW3]; repeat (first | with_reducible exact Keep.refl _ _ | refine Keep.setCell ?_ (fun _ => by simp) _)
    have hm := Boxes.two (n₀ := n₀) x4 rfl (by omega) x5 rfl (by omega)
    replace r0 := r0.keep hk hm
    replace r1 := r1.keep hk hm
    replace q1 := q1.keep hk hm
    replace hw := hw.trans (hk.below hw.size (fun r hr h => by omega))
    have y4 : Blk W3 (w.heap.size + 1 + 1) 55 #[.slice none 0 0, .int .i64 0, .int .i64 0] := by rw [hW3]; exact (((((((x4.set 0 (.slice none 0 0)).set 1 (.int .i64 0)).set 2 (.int .i64 0)).other (p := ⟨w.heap.size + 1 + 1 + 1, 0, none⟩) (by simp) (.slice none 0 0)).other (p := ⟨w.heap.size + 1 + 1 + 1, 1, none⟩) (by simp) (.slice none 0 0)).other (p := ⟨w.heap.size + 1 + 1 + 1, 2, none⟩) (by simp) (.int .i64 0)).other (p := ⟨w.heap.size + 1 + 1 + 1, 3, none⟩) (by simp) (.bool false))
    have y5 : Blk W3 (w.heap.size + 1 + 1 + 1) 25 #[.slice none 0 0, .slice none 0 0, .int .i64 0, .bool false] := by rw [hW3]; exact (((((((x5.other (p := ⟨w.heap.size + 1 + 1, 0, none⟩) (by simp) (.slice none 0 0)).other (p := ⟨w.heap.size + 1 + 1, 1, none⟩) (by simp) (.int .i64 0)).other (p := ⟨w.heap.size + 1 + 1, 2, none⟩) (by simp) (.int .i64 0)).set 0 (.slice none 0 0)).set 1 (.slice none 0 0)).set 2 (.int .i64 0)).set 3 (.bool false))
    clear x4f0 x4f1 x4f2 x4c0 x4c1 x4c2 x4l x5f0 x5f1 x5f2 x5f3 x5c0 x5c1 x5c2 x5c3 x5l
    clear hW3 hk hm x2 x3 x4 x5
    have y4c0 := y4.cell 0
    have y4c1 := y4.cell 1
    have y4c2 := y4.cell 2
    simp only [List.getElem?_toArray, List.getElem?_cons_zero, List.getElem?_cons_succ] at y4c0 y4c1 y4c2
    have y4l := y4.lt
    have y5c0 := y5.cell 0
    have y5c1 := y5.cell 1
    have y5c2 := y5.cell 2
    have y5c3 := y5.cell 3
    simp only [List.getElem?_toArray, List.getElem?_cons_zero, List.getElem?_cons_succ] at y5c0 y5c1 y5c2 y5c3
    have y5l := y5.lt
    refine bodyPost_ret (v := .tuple #[.agg #[.slice none 0 0, .int .i64 0, .int .i64 0], .agg #[.slice none 0 0, .slice none 0 0, .int .i64 0, .bool false], .int .i64 x]) (by simp [results, Try.results60, go_sem, y4c0, y4c1, y4c2, y5c0, y5c1, y5c2, y5c3]) rfl ?_
    rw [E.out]
    rw [← HX.out]
    exact ⟨_, _, rfl, jn0V _, dk0V _, hw⟩
  subst k0
  have E := Lib.hid (rSyn_ok (d := d) HX.out.symm)
  have x2c0 := x2.cell 0
  have x2c1 := x2.cell 1
  have x2c2 := x2.cell 2
  simp only [List.getElem?_toArray, List.getElem?_cons_zero, List.getElem?_cons_succ] at x2c0 x2c1 x2c2
  have x2l := x2.lt
  have x3c0 := x3.cell 0
  have x3c1 := x3.cell 1
  have x3c2 := x3.cell 2
  have x3c3 := x3.cell 3
  simp only [List.getElem?_toArray, List.getElem?_cons_zero, List.getElem?_cons_succ] at x3c0 x3c1 x3c2 x3c3
  have x3l := x3.lt
  go_wp2_with (fail)
  obtain ⟨y, hy⟩ : ∃ y, y = gJs j d := ⟨_, rfl⟩
  have HY := Lib.hid hy
  clear hy
  have K : Calls Try.prog 53 #[.agg #[.slice RA j.recs.length rc, .int .i64 j.many, .int .i64 j.sync], .agg #[.slice SA d.secs.length sc, .slice PA d.pend.length pc, .int .i64 d.left, .bool d.stop]] w2 (JsIs n₀ w2 y) := (by rw [HY.out]; exact js_t RA SA PA rc sc pc j d w2 (Nat.le_trans hn hw.size) HS.out hrc hl1 hl2 hsc hpc r0 r1 q1)
  go_at_call 53
  refine K.mono ?_
  intro e w3 hx
  obtain ⟨A8, c8, S8, s8, P8, p8, rfl, hc8, r8, hs8, hp8, r8s, q8, hb⟩ := jsV_out hx
  clear hx
  clear K
  replace r0 := r0.below hb
  replace r1 := r1.below hb
  replace q1 := q1.below hb
  replace x2 := x2.below hb x2.lt
  replace x3 := x3.below hb x3.lt
  replace x4 := x4.below hb x4.lt
  replace x5 := x5.below hb x5.lt
  replace hw := hw.trans (hb.mono hw.size)
  clear x2c0 x2c1 x2c2 x2l x3c0 x3c1 x3c2 x3c3 x3l
  clear hb
  have x4c0 := x4.cell 0
  have x4f0 := x4.frozen 0
  have x4c1 := x4.cell 1
  have x4f1 := x4.frozen 1
  have x4c2 := x4.cell 2
  have x4f2 := x4.frozen 2
  simp only [List.getElem?_toArray, List.getElem?_cons_zero, List.getElem?_cons_succ] at x4c0 x4c1 x4c2
  have x4l := x4.lt
  have x5c0 := x5.cell 0
  have x5f0 := x5.frozen 0
  have x5c1 := x5.cell 1
  have x5f1 := x5.frozen 1
  have x5c2 := x5.cell 2
  have x5f2 := x5.frozen 2
  have x5c3 := x5.cell 3
  have x5f3 := x5.frozen 3
  simp only [List.getElem?_toArray, List.getElem?_cons_zero, List.getElem?_cons_succ] at x5c0 x5c1 x5c2 x5c3
  have x5l := x5.lt
  go_wp2_with (fail)
  obtain ⟨W4, hW4⟩ : ∃ W, W = (((((((w3.setCell ⟨(w.heap.size + 1 + 1), 0, none⟩ (.slice A8 y.1.1.recs.length c8)).setCell ⟨(w.heap.size + 1 + 1), 1, none⟩ (.int .i64 y.1.1.many)).setCell ⟨(w.heap.size + 1 + 1), 2, none⟩ (.int .i64 y.1.1.sync)).setCell ⟨(w.heap.size + 1 + 1 + 1), 0, none⟩ (.slice S8 y.1.2.secs.length s8)).setCell ⟨(w.heap.size + 1 + 1 + 1), 1, none⟩ (.slice P8 y.1.2.pend.length p8)).setCell ⟨(w.heap.size + 1 + 1 + 1), 2, none⟩ (.int .i64 y.1.2.left)).setCell ⟨(w.heap.size + 1 + 1 + 1), 3, none⟩ (.bool y.1.2.stop)) := ⟨_, rfl⟩
  rw [← hW4]
  have hk : Keep (fun r => r = w.heap.size + 1 + 1 ∨ r = w.heap.size + 1 + 1 + 1) w3 W4 := by rw [hW4]; repeat (first | with_reducible exact Keep.refl _ _ | refine Keep.setCell ?_ (fun _ => by simp) _)
  have hm := Boxes.two (n₀ := n₀) x4 rfl (by omega) x5 rfl (by omega)
  replace r0 := r0.keep hk hm
  replace r1 := r1.keep hk hm
  replace q1 := q1.keep hk hm
  replace r8 := r8.keep hk hm
  replace r8s := r8s.keep hk hm
  replace q8 := q8.keep hk hm
  replace hw := hw.trans (hk.below hw.size (fun r hr h => by omega))
  have y4 : Blk W4 (w.heap.size + 1 + 1) 55 #[.slice A8 y.1.1.recs.length c8, .int .i64 y.1.1.many, .int .i64 y.1.1.sync] := by rw [hW4]; exact (((((((x4.set 0 (.slice A8 y.1.1.recs.length c8)).set 1 (.int .i64 y.1.1.many)).set 2 (.int .i64 y.1.1.sync)).other (p := ⟨w.heap.size + 1 + 1 + 1, 0, none⟩) (by simp) (.slice S8 y.1.2.secs.length s8)).other (p := ⟨w.heap.size + 1 + 1 + 1, 1, none⟩) (by simp) (.slice P8 y.1.2.pend.length p8)).other (p := ⟨w.heap.size + 1 + 1 + 1, 2, none⟩) (by simp) (.int .i64 y.1.2.left)).other (p := ⟨w.heap.size + 1 + 1 + 1, 3, none⟩) (by simp) (.bool y.1.2.stop))
  have y5 : Blk W4 (w.heap.size + 1 + 1 + 1) 25 #[.slice S8 y.1.2.secs.length s8, .slice P8 y.1.2.pend.length p8, .int .i64 y.1.2.left, .bool y.1.2.stop] := by rw [hW4]; exact (((((((x5.other (p := ⟨w.heap.size + 1 + 1, 0, none⟩) (by simp) (.slice A8 y.1.1.recs.length c8)).other (p := ⟨w.heap.size + 1 + 1, 1, none⟩) (by simp) (.int .i64 y.1.1.many)).other (p := ⟨w.heap.size + 1 + 1, 2, none⟩) (by simp) (.int .i64 y.1.1.sync)).set 0 (.slice S8 y.1.2.secs.length s8)).set 1 (.slice P8 y.1.2.pend.length p8)).set 2 (.int .i64 y.1.2.left)).set 3 (.bool y.1.2.stop))
  clear x4f0 x4f1 x4f2 x4c0 x4c1 x4c2 x4l x5f0 x5f1 x5f2 x5f3 x5c0 x5c1 x5c2 x5c3 x5l
  clear hW4 hk hm x2 x3 x4 x5
  have y4c0 := y4.cell 0
  have y4c1 := y4.cell 1
  have y4c2 := y4.cell 2
  simp only [List.getElem?_toArray, List.getElem?_cons_zero, List.getElem?_cons_succ] at y4c0 y4c1 y4c2
  have y4l := y4.lt
  have y5c0 := y5.cell 0
  have y5c1 := y5.cell 1
  have y5c2 := y5.cell 2
  have y5c3 := y5.cell 3
  simp only [List.getElem?_toArray, List.getElem?_cons_zero, List.getElem?_cons_succ] at y5c0 y5c1 y5c2 y5c3
  have y5l := y5.lt
  refine bodyPost_ret (v := .tuple #[.agg #[.slice A8 y.1.1.recs.length c8, .int .i64 y.1.1.many, .int .i64 y.1.1.sync], .agg #[.slice S8 y.1.2.secs.length s8, .slice P8 y.1.2.pend.length p8, .int .i64 y.1.2.left, .bool y.1.2.stop], .int .i64 y.2]) (by simp [results, Try.results60, go_sem, y4c0, y4c1, y4c2, y5c0, y5c1, y5c2, y5c3]) rfl ?_
  rw [E.out]
  rw [← HY.out]
  exact ⟨_, _, rfl, ⟨A8, c8, rfl, hc8, r8⟩, ⟨S8, s8, P8, p8, rfl, hs8, hp8, r8s, q8⟩, hw⟩
end Go.Proofs.Ytckeopidedoohaa
