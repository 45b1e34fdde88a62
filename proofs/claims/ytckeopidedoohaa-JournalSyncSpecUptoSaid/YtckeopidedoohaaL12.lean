/-
  JournalSyncSpec walked: it answers true. Conditions: arguments of at most 1048576 values.
-/
import Derived.Test.YtckeopidedoohaaJrz
import Derived.Test.YtckeopidedoohaaJsn
import Derived.Test.YtckeopidedoohaaJfw
import Derived.Deep.CutBlock
import Derived.Deep.DeepCutAuto
namespace Go.Proofs.Ytckeopidedoohaa
open Go.RowKit
variable {n₀ : Nat}
attribute [local go_sem] Oper.semAt_some

/-- The law answers true, and leaves alone what lay. -/
def YesS (w : World) (e : Ending) (w' : World) : Prop := e = .returned (.bool true) ∧ Below w.heap.size w w'
theorem gSync_sizes (d : Dk) : (gSync d).1.secs.length ≤ d.secs.length ∧ (gSync d).1.pend.length ≤ d.pend.length := by
  unfold gSync
  split
  · exact ⟨Nat.zero_le _, Nat.zero_le _⟩
  split
  · exact ⟨by simp [tornL, perfL_len], Nat.zero_le _⟩
  · exact ⟨by simp [perfL_len], Nat.zero_le _⟩
theorem gJs_sizes (j : Jn) (d : Dk) : (gJs j d).1.1.recs.length ≤ j.recs.length ∧ (gJs j d).1.2.secs.length ≤ d.secs.length ∧ (gJs j d).1.2.pend.length ≤ max d.pend.length (usedN j.recs) := by
  have hz : ∀ e : Int, ((jn0, dk0), e).1.1.recs.length ≤ j.recs.length ∧ ((jn0, dk0), e).1.2.secs.length ≤ d.secs.length ∧ ((jn0, dk0), e).1.2.pend.length ≤ max d.pend.length (usedN j.recs) := fun e => ⟨Nat.zero_le _, Nat.zero_le _, Nat.zero_le _⟩
  have h1 := gSync_sizes (wsD d (usedN (j.recs.take j.sync.toNat)) (j.recs.drop j.sync.toNat))
  have h2 : (wsD d (usedN (j.recs.take j.sync.toNat)) (j.recs.drop j.sync.toNat)).pend.length = usedN (j.recs.drop j.sync.toNat) := by simp only [wsD, mkW_len, layA_len]
  have h3 : usedN (j.recs.take j.sync.toNat) + usedN (j.recs.drop j.sync.toNat) = usedN j.recs := by rw [← usedN_append, List.take_append_drop]
  have h4 : (wsD d (usedN (j.recs.take j.sync.toNat)) (j.recs.drop j.sync.toNat)).secs.length = d.secs.length := rfl
  unfold gJs
  split
  · exact hz 1
  split
  · exact hz 40
  split
  · exact hz 1
  split
  · exact hz 40
  split
  · exact hz 1
  split
  · exact hz 50
  split
  · exact ⟨Nat.le_refl _, Nat.le_refl _, Nat.le_max_left _ _⟩
  split
  · exact ⟨Nat.zero_le _, by dsimp only; omega, by dsimp only; omega⟩
  · exact ⟨Nat.le_refl _, by dsimp only; omega, by dsimp only; omega⟩
theorem gJs_used {j : Jn} {d : Dk} (h : 0 < (gJs j d).1.2.pend.length) : (gJs j d).1.2.pend.length ≤ d.pend.length ∨ usedN j.recs ≤ 4096 := by
  by_cases hv : JVal j
  · exact .inr (by have h1 := hv.2.1; have h2 := hv.2.2.2.2; omega)
  · rw [gJs_no hv] at h
    simp [dk0] at h
theorem gJs_small (j : Jn) (d : Dk) (hd : d.pend.length ≤ 40) : (gJs j d).1.2.pend.length ≤ 4096 := by
  rcases Nat.eq_zero_or_pos (gJs j d).1.2.pend.length with h | h
  · omega
  · have h1 := (gJs_sizes j d).2.2
    rcases gJs_used h with h2 | h2 <;> omega
theorem js_outV {w w' : World} {x : Ending} {g : (Jn × Dk) × Int} (h : JsIs n₀ w g x w') : ∃ A c S s P p, x = .returned (.tuple #[.agg #[.slice A g.1.1.recs.length c, .int .i64 g.1.1.many, .int .i64 g.1.1.sync], .agg #[.slice S g.1.2.secs.length s, .slice P g.1.2.pend.length p, .int .i64 g.1.2.left, .bool g.1.2.stop], .int .i64 g.2]) ∧ RowsAt n₀ w' A g.1.1.recs ∧ RowsAt n₀ w' S g.1.2.secs ∧ WrsAt n₀ w' P g.1.2.pend ∧ Below w.heap.size w w' := by
  obtain ⟨v, u, rfl, ⟨A, c, rfl, h1, h2⟩, ⟨S, s, P, p, rfl, h3, h4, h5, h6⟩, h7⟩ := h
  exact ⟨A, c, S, s, P, p, rfl, h2, h5, h6, h7⟩

set_option maxRecDepth 20000 in
set_option maxHeartbeats 8000000 in
theorem journalSync_t (RA SA PA : Option Addr) (rc sc pc : Nat) (j : Jn) (d : Dk) (w : World) (hn : n₀ ≤ w.heap.size) (hrl : j.recs.length ≤ 1048576) (hrb : ∀ x ∈ j.recs, x.length ≤ 1048576) (hrc : j.recs.length ≤ rc) (hl1 : d.secs.length ≤ 1048576) (hl2 : d.pend.length ≤ 1048576) (hsc : d.secs.length ≤ sc) (hpc : d.pend.length ≤ pc) (r0 : RowsAt n₀ w RA j.recs) (r1 : RowsAt n₀ w SA d.secs) (q1 : WrsAt n₀ w PA d.pend) :
    Calls Try.prog 12 #[.agg #[.slice RA j.recs.length rc, .int .i64 j.many, .int .i64 j.sync], .agg #[.slice SA d.secs.length sc, .slice PA d.pend.length pc, .int .i64 d.left, .bool d.stop]] w (YesS w) := by
  have HRB := Lib.hid hrb
  clear hrb
  obtain ⟨nn, hnn⟩ : ∃ n, n = j.recs.length := ⟨_, rfl⟩
  have HNN := Lib.hid hnn
  rw [← hnn] at hrl hrc ⊢
  clear hnn
  go_enter Try.func12, Try.ntmps12
  go_upto_region 1 with (fail)
  obtain ⟨W1, hW1⟩ : ∃ W, W = (w.alloc (.cells #[.slice RA nn rc, .int .i64 j.many, .int .i64 j.sync] 55)).alloc (.cells #[.slice SA d.secs.length sc, .slice PA d.pend.length pc, .int .i64 d.left, .bool d.stop] 25) := ⟨_, rfl⟩
  rw [← hW1]
  have hb : Below w.heap.size w W1 := by rw [hW1]; exact ((Below.refl _ _).alloc (Nat.le_refl _) _).alloc (by simp) _
  have x1 : Blk W1 w.heap.size 55 #[.slice RA nn rc, .int .i64 j.many, .int .i64 j.sync] := by rw [hW1]; exact (Blk.new w 55 _).alloc _
  have x2 : Blk W1 (w.heap.size + 1) 25 #[.slice SA d.secs.length sc, .slice PA d.pend.length pc, .int .i64 d.left, .bool d.stop] := by rw [hW1]; exact Blk.newAt (by simp) 25 _
  clear hW1
  replace r0 := r0.below hb
  replace r1 := r1.below hb
  replace q1 := q1.below hb
  have hw := hb
  clear hb
  go_wp2_with (fail)
  have K : Calls Try.prog 42 #[] W1 (fun e w' => e = .returned (.bool true) ∧ Below W1.heap.size W1 w') := jsane_t W1
  go_at_call 42
  refine K.mono ?_
  rintro e w2 ⟨rfl, hb⟩
  clear K
  replace r0 := r0.below hb
  replace r1 := r1.below hb
  replace q1 := q1.below hb
  replace x1 := x1.below hb x1.lt
  replace x2 := x2.below hb x2.lt
  replace hw := hw.trans (hb.mono hw.size)
  clear hb
  have x1c0 := x1.cell 0
  have x1c1 := x1.cell 1
  have x1c2 := x1.cell 2
  simp only [List.getElem?_toArray, List.getElem?_cons_zero, List.getElem?_cons_succ] at x1c0 x1c1 x1c2
  have x1l := x1.lt
  have x2c0 := x2.cell 0
  have x2c1 := x2.cell 1
  have x2c2 := x2.cell 2
  have x2c3 := x2.cell 3
  simp only [List.getElem?_toArray, List.getElem?_cons_zero, List.getElem?_cons_succ] at x2c0 x2c1 x2c2 x2c3
  have x2l := x2.lt
  go_wp2_with (fail)
  obtain ⟨y, hy⟩ : ∃ y, y = fewB d.secs.length d.pend.length j.recs := ⟨_, rfl⟩
  have HY := Lib.hid hy
  clear hy
  have K : Calls Try.prog 43 #[.agg #[.slice SA d.secs.length sc, .slice PA d.pend.length pc, .int .i64 d.left, .bool d.stop], .slice RA nn rc] w2 (fun e w' => e = .returned (.bool y) ∧ Below w2.heap.size w2 w') := by rw [HY.out, HNN.out]; exact few5_t (n₀ := n₀) SA PA RA sc pc rc d.secs.length d.pend.length d.left d.stop j.recs w2 hl1 hl2 (by rw [← HNN.out]; exact hrl) HRB.out r0
  go_at_call 43
  refine K.mono ?_
  rintro e w3 ⟨rfl, hb⟩
  clear K
  replace r0 := r0.below hb
  replace r1 := r1.below hb
  replace q1 := q1.below hb
  replace x1 := x1.below hb x1.lt
  replace x2 := x2.below hb x2.lt
  replace hw := hw.trans (hb.mono hw.size)
  clear x1c0 x1c1 x1c2 x1l x2c0 x2c1 x2c2 x2c3 x2l
  clear hb
  cases y
  case false =>
    go_wp2
    go_ret
    exact ⟨rfl, hw⟩
  have hsm := (fewB_sm HY.out.symm).2.2.2
  have hpl := (fewB_sm HY.out.symm).2.1
  have HSM := Lib.hid hsm
  obtain ⟨r, hr⟩ : ∃ r, r = gJs j d := ⟨_, rfl⟩
  have HR := Lib.hid hr
  obtain ⟨hz1, hz2, -⟩ := gJs_sizes j d
  have hz3 := gJs_small j d hpl
  rw [← hr] at hz1 hz2 hz3
  rw [← HNN.out] at hz1
  clear hsm hr hpl
  have x1c0 := x1.cell 0
  have x1c1 := x1.cell 1
  have x1c2 := x1.cell 2
  simp only [List.getElem?_toArray, List.getElem?_cons_zero, List.getElem?_cons_succ] at x1c0 x1c1 x1c2
  have x1l := x1.lt
  have x2c0 := x2.cell 0
  have x2c1 := x2.cell 1
  have x2c2 := x2.cell 2
  have x2c3 := x2.cell 3
  simp only [List.getElem?_toArray, List.getElem?_cons_zero, List.getElem?_cons_succ] at x2c0 x2c1 x2c2 x2c3
  have x2l := x2.lt
  go_wp2_with (fail)
  have K : Calls Try.prog 53 #[.agg #[.slice RA nn rc, .int .i64 j.many, .int .i64 j.sync], .agg #[.slice SA d.secs.length sc, .slice PA d.pend.length pc, .int .i64 d.left, .bool d.stop]] w3 (fun e w' => ∃ A c S s P p, e = .returned (.tuple #[.agg #[.slice A r.1.1.recs.length c, .int .i64 r.1.1.many, .int .i64 r.1.1.sync], .agg #[.slice S r.1.2.secs.length s, .slice P r.1.2.pend.length p, .int .i64 r.1.2.left, .bool r.1.2.stop], .int .i64 r.2]) ∧ RowsAt n₀ w' A r.1.1.recs ∧ RowsAt n₀ w' S r.1.2.secs ∧ WrsAt n₀ w' P r.1.2.pend ∧ Below w3.heap.size w3 w') := (by have h := js_t (n₀ := n₀) RA SA PA rc sc pc j d w3 (Nat.le_trans hn hw.size) HSM.out (by rw [← HNN.out]; exact hrc) (by omega) (by omega) hsc hpc r0 r1 q1; rw [← HNN.out, ← HR.out] at h; exact h.mono fun e w9 hx => by obtain ⟨A, c, S, s, P, p, h1, h3, h6, h7, h8⟩ := js_outV hx; exact ⟨A, c, S, s, P, p, h1, h3, h6, h7, h8⟩)
  go_at_call 53
  refine K.mono ?_
  rintro e w4 ⟨A5, c5, S5, s5, P5, p5, rfl, r5, u5, q5, hb⟩
  clear K
  replace r0 := r0.below hb
  replace r1 := r1.below hb
  replace q1 := q1.below hb
  replace x1 := x1.below hb x1.lt
  replace x2 := x2.below hb x2.lt
  replace hw := hw.trans (hb.mono hw.size)
  clear x1c0 x1c1 x1c2 x1l x2c0 x2c1 x2c2 x2c3 x2l
  clear hb
  go_upto_region 6 with (fail)
  obtain ⟨W5, hW5⟩ : ∃ W, W = (w4.alloc (.cells #[.slice A5 r.1.1.recs.length c5, .int .i64 r.1.1.many, .int .i64 r.1.1.sync] 55)).alloc (.cells #[.slice S5 r.1.2.secs.length s5, .slice P5 r.1.2.pend.length p5, .int .i64 r.1.2.left, .bool r.1.2.stop] 25) := ⟨_, rfl⟩
  rw [← hW5]
  have hb : Below w4.heap.size w4 W5 := by rw [hW5]; exact ((Below.refl _ _).alloc (Nat.le_refl _) _).alloc (by simp) _
  have x5 : Blk W5 w4.heap.size 55 #[.slice A5 r.1.1.recs.length c5, .int .i64 r.1.1.many, .int .i64 r.1.1.sync] := by rw [hW5]; exact (Blk.new w4 55 _).alloc _
  have z5 : Blk W5 (w4.heap.size + 1) 25 #[.slice S5 r.1.2.secs.length s5, .slice P5 r.1.2.pend.length p5, .int .i64 r.1.2.left, .bool r.1.2.stop] := by rw [hW5]; exact Blk.newAt (by simp) 25 _
  clear hW5
  replace r0 := r0.below hb
  replace r1 := r1.below hb
  replace q1 := q1.below hb
  replace r5 := r5.below hb
  replace u5 := u5.below hb
  replace q5 := q5.below hb
  replace x1 := x1.below hb x1.lt
  replace x2 := x2.below hb x2.lt
  replace hw := hw.trans (hb.mono hw.size)
  clear hb
  have x1c0 := x1.cell 0
  have x1c1 := x1.cell 1
  have x1c2 := x1.cell 2
  simp only [List.getElem?_toArray, List.getElem?_cons_zero, List.getElem?_cons_succ] at x1c0 x1c1 x1c2
  have x1l := x1.lt
  have x2c0 := x2.cell 0
  have x2c1 := x2.cell 1
  have x2c2 := x2.cell 2
  have x2c3 := x2.cell 3
  simp only [List.getElem?_toArray, List.getElem?_cons_zero, List.getElem?_cons_succ] at x2c0 x2c1 x2c2 x2c3
  have x2l := x2.lt
  go_wp2_with (fail)
  have K : Calls Try.prog 54 #[.agg #[.slice RA nn rc, .int .i64 j.many, .int .i64 j.sync], .agg #[.slice SA d.secs.length sc, .slice PA d.pend.length pc, .int .i64 d.left, .bool d.stop]] W5 (fun e w' => ∃ A c S s P p, e = .returned (.tuple #[.agg #[.slice A r.1.1.recs.length c, .int .i64 r.1.1.many, .int .i64 r.1.1.sync], .agg #[.slice S r.1.2.secs.length s, .slice P r.1.2.pend.length p, .int .i64 r.1.2.left, .bool r.1.2.stop], .int .i64 r.2]) ∧ RowsAt n₀ w' A r.1.1.recs ∧ RowsAt n₀ w' S r.1.2.secs ∧ WrsAt n₀ w' P r.1.2.pend ∧ Below W5.heap.size W5 w') := (by have h := rjs_t (n₀ := n₀) RA SA PA rc sc pc j d W5 (Nat.le_trans hn hw.size) HSM.out (by rw [← HNN.out]; exact hrc) (by omega) (by omega) hsc hpc r0 r1 q1; rw [← HNN.out, ← HR.out] at h; exact h.mono fun e w9 hx => by obtain ⟨A, c, S, s, P, p, h1, h3, h6, h7, h8⟩ := js_outV hx; exact ⟨A, c, S, s, P, p, h1, h3, h6, h7, h8⟩)
  go_at_call 54
  refine K.mono ?_
  rintro e w6 ⟨A7, c7, S7, s7, P7, p7, rfl, r7, u7, q7, hb⟩
  clear K
  replace r0 := r0.below hb
  replace r1 := r1.below hb
  replace q1 := q1.below hb
  replace r5 := r5.below hb
  replace u5 := u5.below hb
  replace q5 := q5.below hb
  replace x1 := x1.below hb x1.lt
  replace x2 := x2.below hb x2.lt
  replace x5 := x5.below hb x5.lt
  replace z5 := z5.below hb z5.lt
  replace hw := hw.trans (hb.mono hw.size)
  clear x1c0 x1c1 x1c2 x1l x2c0 x2c1 x2c2 x2c3 x2l
  clear hb
  go_upto_region 7 with (fail)
  obtain ⟨W7, hW7⟩ : ∃ W, W = (w6.alloc (.cells #[.slice A7 r.1.1.recs.length c7, .int .i64 r.1.1.many, .int .i64 r.1.1.sync] 55)).alloc (.cells #[.slice S7 r.1.2.secs.length s7, .slice P7 r.1.2.pend.length p7, .int .i64 r.1.2.left, .bool r.1.2.stop] 25) := ⟨_, rfl⟩
  rw [← hW7]
  have hb : Below w6.heap.size w6 W7 := by rw [hW7]; exact ((Below.refl _ _).alloc (Nat.le_refl _) _).alloc (by simp) _
  have x7 : Blk W7 w6.heap.size 55 #[.slice A7 r.1.1.recs.length c7, .int .i64 r.1.1.many, .int .i64 r.1.1.sync] := by rw [hW7]; exact (Blk.new w6 55 _).alloc _
  have z7 : Blk W7 (w6.heap.size + 1) 25 #[.slice S7 r.1.2.secs.length s7, .slice P7 r.1.2.pend.length p7, .int .i64 r.1.2.left, .bool r.1.2.stop] := by rw [hW7]; exact Blk.newAt (by simp) 25 _
  clear hW7
  replace r0 := r0.below hb
  replace r1 := r1.below hb
  replace q1 := q1.below hb
  replace r5 := r5.below hb
  replace u5 := u5.below hb
  replace q5 := q5.below hb
  replace r7 := r7.below hb
  replace u7 := u7.below hb
  replace q7 := q7.below hb
  replace x1 := x1.below hb x1.lt
  replace x2 := x2.below hb x2.lt
  replace x5 := x5.below hb x5.lt
  replace z5 := z5.below hb z5.lt
  replace hw := hw.trans (hb.mono hw.size)
  clear hb
  have x5c0 := x5.cell 0
  have x5c1 := x5.cell 1
  have x5c2 := x5.cell 2
  simp only [List.getElem?_toArray, List.getElem?_cons_zero, List.getElem?_cons_succ] at x5c0 x5c1 x5c2
  have x5l := x5.lt
  have x7c0 := x7.cell 0
  have x7c1 := x7.cell 1
  have x7c2 := x7.cell 2
  simp only [List.getElem?_toArray, List.getElem?_cons_zero, List.getElem?_cons_succ] at x7c0 x7c1 x7c2
  have x7l := x7.lt
  go_wp2_with (fail)
  have K : Calls Try.prog 46 #[.agg #[.slice A5 r.1.1.recs.length c5, .int .i64 r.1.1.many, .int .i64 r.1.1.sync], .agg #[.slice A7 r.1.1.recs.length c7, .int .i64 r.1.1.many, .int .i64 r.1.1.sync]] W7 (fun e w' => e = .returned (.bool true) ∧ Below W7.heap.size W7 w') := (by have h := jsame_t (n₀ := n₀) A5 A7 c5 c7 r.1.1 r.1.1 W7 (by omega) (by omega) r5 r7; rw [sameJ_self] at h; exact h)
  go_at_call 46
  refine K.mono ?_
  rintro e w8 ⟨rfl, hb⟩
  clear K
  replace r0 := r0.below hb
  replace r1 := r1.below hb
  replace q1 := q1.below hb
  replace r5 := r5.below hb
  replace u5 := u5.below hb
  replace q5 := q5.below hb
  replace r7 := r7.below hb
  replace u7 := u7.below hb
  replace q7 := q7.below hb
  replace x1 := x1.below hb x1.lt
  replace x2 := x2.below hb x2.lt
  replace x5 := x5.below hb x5.lt
  replace z5 := z5.below hb z5.lt
  replace x7 := x7.below hb x7.lt
  replace z7 := z7.below hb z7.lt
  replace hw := hw.trans (hb.mono hw.size)
  clear x5c0 x5c1 x5c2 x5l x7c0 x7c1 x7c2 x7l
  clear hb
  have z5c0 := z5.cell 0
  have z5c1 := z5.cell 1
  have z5c2 := z5.cell 2
  have z5c3 := z5.cell 3
  simp only [List.getElem?_toArray, List.getElem?_cons_zero, List.getElem?_cons_succ] at z5c0 z5c1 z5c2 z5c3
  have z5l := z5.lt
  have z7c0 := z7.cell 0
  have z7c1 := z7.cell 1
  have z7c2 := z7.cell 2
  have z7c3 := z7.cell 3
  simp only [List.getElem?_toArray, List.getElem?_cons_zero, List.getElem?_cons_succ] at z7c0 z7c1 z7c2 z7c3
  have z7l := z7.lt
  go_wp2_with (fail)
  have K : Calls Try.prog 27 #[.agg #[.slice S5 r.1.2.secs.length s5, .slice P5 r.1.2.pend.length p5, .int .i64 r.1.2.left, .bool r.1.2.stop], .agg #[.slice S7 r.1.2.secs.length s7, .slice P7 r.1.2.pend.length p7, .int .i64 r.1.2.left, .bool r.1.2.stop]] w8 (fun e w' => e = .returned (.bool true) ∧ Below w8.heap.size w8 w') := (by have h := same_t (n₀ := n₀) S5 P5 S7 P7 s5 p5 s7 p7 r.1.2.secs.length r.1.2.pend.length r.1.2.secs.length r.1.2.pend.length r.1.2 r.1.2 w8 rfl rfl rfl rfl (by omega) (by omega) (by omega) (by omega) u5 q5 u7 q7; rw [same_yes rfl] at h; exact h)
  go_at_call 27
  refine K.mono ?_
  rintro e w9 ⟨rfl, hb⟩
  clear K
  replace r0 := r0.below hb
  replace r1 := r1.below hb
  replace q1 := q1.below hb
  replace r5 := r5.below hb
  replace u5 := u5.below hb
  replace q5 := q5.below hb
  replace r7 := r7.below hb
  replace u7 := u7.below hb
  replace q7 := q7.below hb
  replace x1 := x1.below hb x1.lt
  replace x2 := x2.below hb x2.lt
  replace x5 := x5.below hb x5.lt
  replace z5 := z5.below hb z5.lt
  replace x7 := x7.below hb x7.lt
  replace z7 := z7.below hb z7.lt
  replace hw := hw.trans (hb.mono hw.size)
  clear z5c0 z5c1 z5c2 z5c3 z5l z7c0 z7c1 z7c2 z7c3 z7l
  clear hb
  go_wp2
  go_ret
  exact ⟨rfl, hw⟩
end Go.Proofs.Ytckeopidedoohaa
