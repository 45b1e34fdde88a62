/-
  RecorderOpenSpec walked: it answers true. Conditions: at most 1048576 sectors and writes.
-/
import Derived.Test.YtckeopidedoohaaRro
import Derived.Test.YtckeopidedoohaaRsn
import Derived.Test.YtckeopidedoohaaRda
namespace Go.Proofs.Ytckeopidedoohaa
open Go.RowKit
variable {n₀ : Nat}
attribute [local go_sem] Oper.semAt_some

/-- The law answers true, and leaves alone what lay. -/
def YesR (w : World) (e : Ending) (w' : World) : Prop := e = .returned (.bool true) ∧ Below w.heap.size w w'
theorem rdR_lenM {rs : List Bs} {M : Nat} (h : ∀ b ∈ rs, b.length ≤ M) : (rdR rs).1.length ≤ rs.length * M := by
  by_cases ha : rs.all rRight = true
  · rw [rdR_ok ha]
    dsimp only
    clear ha
    induction rs with
    | nil => simp
    | cons b rs ih =>
      have h1 := ih (fun x hx => h x (List.mem_cons_of_mem _ hx))
      have h2 := h b List.mem_cons_self
      rw [List.flatMap_cons, List.length_append, smpL_len, List.length_cons, Nat.succ_mul]
      omega
  · rw [rdR_no ha]
    simp
theorem gRecs_lenR (l : List Bs) : (gRecs l).length ≤ l.length := by
  unfold gRecs
  rw [List.length_map]
  exact recs_len l _ _ _
theorem gRecs_each {l : List Bs} {b : Bs} (h : b ∈ gRecs l) : b.length ≤ 112 * l.length := by
  obtain ⟨x, hx, rfl⟩ := List.mem_map.1 h
  exact recs_size l _ _ _ x hx
theorem gOpen_recs (d : Dk) : (gOpen d).1.recs = [] ∨ (gOpen d).1.recs = gRecs d.secs := by
  unfold gOpen
  split
  · exact .inl rfl
  split
  · exact .inl rfl
  split
  · exact .inl rfl
  exact .inr rfl
theorem rOpn_len {d : Dk} (h : d.secs.length ≤ 40) : (rOpn d).1.1.recs.length ≤ 40 ∧ (rOpn d).1.2.length ≤ 1000000 := by
  have hr : (gOpen d).1.recs.length ≤ 40 ∧ ∀ b ∈ (gOpen d).1.recs, b.length ≤ 4480 := by
    rcases gOpen_recs d with e | e
    · rw [e]; exact ⟨Nat.zero_le _, fun b hb => by cases hb⟩
    · rw [e]
      refine ⟨Nat.le_trans (gRecs_lenR _) h, fun b hb => ?_⟩
      have := gRecs_each hb
      omega
  unfold rOpn
  split
  · exact ⟨Nat.zero_le _, Nat.zero_le _⟩
  split
  · exact ⟨Nat.zero_le _, Nat.zero_le _⟩
  refine ⟨hr.1, ?_⟩
  have h1 := rdR_lenM hr.2
  dsimp only
  have h2 : (gOpen d).1.recs.length * 4480 ≤ 40 * 4480 := Nat.mul_le_mul_right _ hr.1
  omega

set_option maxRecDepth 20000 in
set_option maxHeartbeats 4000000 in
theorem recorderOpen_t (SA PA : Option Addr) (sc pc : Nat) (d : Dk) (w : World) (hn : n₀ ≤ w.heap.size) (hl1 : d.secs.length ≤ 1048576) (hl2 : d.pend.length ≤ 1048576) (h1 : RowsAt n₀ w SA d.secs) (h2 : WrsAt n₀ w PA d.pend) :
    Calls Try.prog 19 #[.agg #[.slice SA d.secs.length sc, .slice PA d.pend.length pc, .int .i64 d.left, .bool d.stop]] w (YesR w) := by
  obtain ⟨j, hj⟩ : ∃ j, j = (rOpn d).1.1 := ⟨_, rfl⟩
  obtain ⟨q, hq⟩ : ∃ j, j = (rOpn d).1.2 := ⟨_, rfl⟩
  obtain ⟨f, hf⟩ : ∃ j, j = (rOpn d).2 := ⟨_, rfl⟩
  have HJ := Lib.hid hj
  have HQ := Lib.hid hq
  have HF := Lib.hid hf
  clear hj hf hq
  go_enter Try.func19, Try.ntmps19
  go_upto_region 1 with (fail)
  obtain ⟨W1, hW1⟩ : ∃ W, W = w.alloc (.cells #[.slice SA d.secs.length sc, .slice PA d.pend.length pc, .int .i64 d.left, .bool d.stop] 25) := ⟨_, rfl⟩
  rw [← hW1]
  have hb : Below w.heap.size w W1 := by rw [hW1]; exact (Below.refl _ _).alloc (Nat.le_refl _) _
  have x1 : Blk W1 w.heap.size 25 #[.slice SA d.secs.length sc, .slice PA d.pend.length pc, .int .i64 d.left, .bool d.stop] := by rw [hW1]; exact Blk.new w 25 _
  clear hW1
  replace h1 := h1.below hb
  replace h2 := h2.below hb
  have hw := hb
  clear hb
  go_wp2_with (fail)
  have K : Calls Try.prog 57 #[] W1 (fun e w' => e = .returned (.bool true) ∧ Below W1.heap.size W1 w') := rsane_t W1
  go_at_call 57
  refine K.mono ?_
  rintro e w2 ⟨rfl, hb⟩
  clear K
  replace h1 := h1.below hb
  replace h2 := h2.below hb
  replace x1 := x1.below hb x1.lt
  replace hw := hw.trans (hb.mono hw.size)
  clear hb
  have x1c0 := x1.cell 0
  have x1c1 := x1.cell 1
  have x1c2 := x1.cell 2
  have x1c3 := x1.cell 3
  simp only [List.getElem?_toArray, List.getElem?_cons_zero, List.getElem?_cons_succ] at x1c0 x1c1 x1c2 x1c3
  have x1l := x1.lt
  go_wp2_with (fail)
  obtain ⟨y, hy⟩ : ∃ y, y = fewB d.secs.length d.pend.length [] := ⟨_, rfl⟩
  have HY := Lib.hid hy
  clear hy
  have K : Calls Try.prog 63 #[.agg #[.slice SA d.secs.length sc, .slice PA d.pend.length pc, .int .i64 d.left, .bool d.stop], .slice none 0 0] w2 (fun e w' => e = .returned (.bool y) ∧ Below w2.heap.size w2 w') := by rw [HY.out]; exact few63_t (n₀ := n₀) SA PA none sc pc 0 d.secs.length d.pend.length d.left d.stop [] w2 hl1 hl2 (by simp) (fun b hb => by cases hb) (RowsAt.nil _ _)
  go_at_call 63
  refine K.mono ?_
  rintro e w3 ⟨rfl, hb⟩
  clear K
  replace h1 := h1.below hb
  replace h2 := h2.below hb
  replace x1 := x1.below hb x1.lt
  replace hw := hw.trans (hb.mono hw.size)
  clear x1c0 x1c1 x1c2 x1c3 x1l
  clear hb
  cases y
  case false =>
    go_wp2
    go_ret
    exact ⟨rfl, hw⟩
  have hlen := rOpn_len (fewB_sm HY.out.symm).1
  rw [← HJ.out, ← HQ.out] at hlen
  obtain ⟨hjl, hql⟩ := hlen
  have x1c0 := x1.cell 0
  have x1c1 := x1.cell 1
  have x1c2 := x1.cell 2
  have x1c3 := x1.cell 3
  simp only [List.getElem?_toArray, List.getElem?_cons_zero, List.getElem?_cons_succ] at x1c0 x1c1 x1c2 x1c3
  have x1l := x1.lt
  go_wp2_with (fail)
  have K : Calls Try.prog 58 #[.agg #[.slice SA d.secs.length sc, .slice PA d.pend.length pc, .int .i64 d.left, .bool d.stop]] w3 (fun e w' => ∃ A c V v, e = .returned (.tuple #[.agg #[.slice A j.recs.length c, .int .i64 j.many, .int .i64 j.sync], .slice V q.length v, .int .i64 f]) ∧ RowsAt n₀ w' A j.recs ∧ NumsAt n₀ w' V q ∧ Below w3.heap.size w3 w') := (by have h := ropen_t (n₀ := n₀) SA PA sc pc d w3 (Nat.le_trans hn hw.size) (by omega) (by omega) h1 h2; refine h.mono fun e w9 hx => ?_; obtain ⟨v, V, cv, rfl, ⟨A, c, rfl, hc, hr⟩, -, hnn, hb⟩ := hx; rw [HJ.out, HF.out, HQ.out]; exact ⟨A, c, V, cv, rfl, hr, hnn, hb⟩)
  go_at_call 58
  refine K.mono ?_
  rintro e w4 ⟨A3, c3, V3, v3, rfl, r3, n3, hb⟩
  clear K
  replace h1 := h1.below hb
  replace h2 := h2.below hb
  replace x1 := x1.below hb x1.lt
  replace hw := hw.trans (hb.mono hw.size)
  clear x1c0 x1c1 x1c2 x1c3 x1l
  clear hb
  go_upto_region 6 with (fail)
  obtain ⟨W5, hW5⟩ : ∃ W, W = w4.alloc (.cells #[.slice A3 j.recs.length c3, .int .i64 j.many, .int .i64 j.sync] 55) := ⟨_, rfl⟩
  rw [← hW5]
  have hb : Below w4.heap.size w4 W5 := by rw [hW5]; exact (Below.refl _ _).alloc (Nat.le_refl _) _
  have x3 : Blk W5 w4.heap.size 55 #[.slice A3 j.recs.length c3, .int .i64 j.many, .int .i64 j.sync] := by rw [hW5]; exact Blk.new w4 55 _
  clear hW5
  replace h1 := h1.below hb
  replace h2 := h2.below hb
  replace r3 := r3.below hb
  replace n3 := n3.below hb
  replace x1 := x1.below hb x1.lt
  replace hw := hw.trans (hb.mono hw.size)
  clear hb
  have x1c0 := x1.cell 0
  have x1c1 := x1.cell 1
  have x1c2 := x1.cell 2
  have x1c3 := x1.cell 3
  simp only [List.getElem?_toArray, List.getElem?_cons_zero, List.getElem?_cons_succ] at x1c0 x1c1 x1c2 x1c3
  have x1l := x1.lt
  go_wp2_with (fail)
  have K : Calls Try.prog 64 #[.agg #[.slice SA d.secs.length sc, .slice PA d.pend.length pc, .int .i64 d.left, .bool d.stop]] W5 (fun e w' => ∃ A c V v, e = .returned (.tuple #[.agg #[.slice A j.recs.length c, .int .i64 j.many, .int .i64 j.sync], .slice V q.length v, .int .i64 f]) ∧ RowsAt n₀ w' A j.recs ∧ NumsAt n₀ w' V q ∧ Below W5.heap.size W5 w') := (by have h := ropen43_t (n₀ := n₀) SA PA sc pc d W5 (Nat.le_trans hn hw.size) (by omega) (by omega) h1 h2; refine h.mono fun e w9 hx => ?_; obtain ⟨v, V, cv, rfl, ⟨A, c, rfl, hc, hr⟩, hnn, hb⟩ := hx; rw [HJ.out, HF.out, HQ.out]; exact ⟨A, c, V, cv, rfl, hr, hnn, hb⟩)
  go_at_call 64
  refine K.mono ?_
  rintro e w6 ⟨A6, c6, V6, v6, rfl, r6, n6, hb⟩
  clear K
  replace h1 := h1.below hb
  replace h2 := h2.below hb
  replace r3 := r3.below hb
  replace n3 := n3.below hb
  replace x1 := x1.below hb x1.lt
  replace x3 := x3.below hb x3.lt
  replace hw := hw.trans (hb.mono hw.size)
  clear x1c0 x1c1 x1c2 x1c3 x1l
  clear hb
  go_upto_region 7 with (fail)
  obtain ⟨W7, hW7⟩ : ∃ W, W = w6.alloc (.cells #[.slice A6 j.recs.length c6, .int .i64 j.many, .int .i64 j.sync] 55) := ⟨_, rfl⟩
  rw [← hW7]
  have hb : Below w6.heap.size w6 W7 := by rw [hW7]; exact (Below.refl _ _).alloc (Nat.le_refl _) _
  have x6 : Blk W7 w6.heap.size 55 #[.slice A6 j.recs.length c6, .int .i64 j.many, .int .i64 j.sync] := by rw [hW7]; exact Blk.new w6 55 _
  clear hW7
  replace h1 := h1.below hb
  replace h2 := h2.below hb
  replace r3 := r3.below hb
  replace n3 := n3.below hb
  replace r6 := r6.below hb
  replace n6 := n6.below hb
  replace x1 := x1.below hb x1.lt
  replace x3 := x3.below hb x3.lt
  replace hw := hw.trans (hb.mono hw.size)
  clear hb
  have x3c0 := x3.cell 0
  have x3c1 := x3.cell 1
  have x3c2 := x3.cell 2
  simp only [List.getElem?_toArray, List.getElem?_cons_zero, List.getElem?_cons_succ] at x3c0 x3c1 x3c2
  have x3l := x3.lt
  have x6c0 := x6.cell 0
  have x6c1 := x6.cell 1
  have x6c2 := x6.cell 2
  simp only [List.getElem?_toArray, List.getElem?_cons_zero, List.getElem?_cons_succ] at x6c0 x6c1 x6c2
  have x6l := x6.lt
  go_wp2_with (fail)
  have K : Calls Try.prog 46 #[.agg #[.slice A3 j.recs.length c3, .int .i64 j.many, .int .i64 j.sync], .agg #[.slice A6 j.recs.length c6, .int .i64 j.many, .int .i64 j.sync]] W7 (fun e w' => e = .returned (.bool true) ∧ Below W7.heap.size W7 w') := (by have h := jsame_t (n₀ := n₀) A3 A6 c3 c6 j j W7 (by omega) (by omega) r3 r6; rw [sameJ_self] at h; exact h)
  go_at_call 46
  refine K.mono ?_
  rintro e w8 ⟨rfl, hb⟩
  clear K
  replace h1 := h1.below hb
  replace h2 := h2.below hb
  replace r3 := r3.below hb
  replace n3 := n3.below hb
  replace r6 := r6.below hb
  replace n6 := n6.below hb
  replace x1 := x1.below hb x1.lt
  replace x3 := x3.below hb x3.lt
  replace x6 := x6.below hb x6.lt
  replace hw := hw.trans (hb.mono hw.size)
  clear x3c0 x3c1 x3c2 x3l x6c0 x6c1 x6c2 x6l
  clear hb
  go_wp2_with (fail)
  have K : Calls Try.prog 61 #[.slice V3 q.length v3, .slice V6 q.length v6] w8 (fun e w' => e = .returned (.bool true) ∧ Below w8.heap.size w8 w') := (by have h := sameI_t (n₀ := n₀) V3 V6 v3 v6 q q w8 (by omega) (by omega) n3 n6; simpa using h)
  go_at_call 61
  refine K.mono ?_
  rintro e w9 ⟨rfl, hb⟩
  clear K
  replace h1 := h1.below hb
  replace h2 := h2.below hb
  replace r3 := r3.below hb
  replace n3 := n3.below hb
  replace r6 := r6.below hb
  replace n6 := n6.below hb
  replace x1 := x1.below hb x1.lt
  replace x3 := x3.below hb x3.lt
  replace x6 := x6.below hb x6.lt
  replace hw := hw.trans (hb.mono hw.size)
  clear hb
  go_wp2_with (fail)
  go_ret
  exact ⟨rfl, hw⟩
end Go.Proofs.Ytckeopidedoohaa
