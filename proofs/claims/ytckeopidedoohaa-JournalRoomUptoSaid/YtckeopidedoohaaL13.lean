/-
  JournalRoom walked: it answers true. Conditions: arguments of at most 1048576 values.
-/
import Derived.Test.YtckeopidedoohaaJsn
import Derived.Test.YtckeopidedoohaaJfw
import Derived.Test.YtckeopidedoohaaJsa
namespace Go.Proofs.Ytckeopidedoohaa
open Go.RowKit
variable {n₀ : Nat}
attribute [local go_sem] Oper.semAt_some

/-- The law answers true, and leaves alone what lay. -/
def YesJ (w : World) (e : Ending) (w' : World) : Prop := e = .returned (.bool true) ∧ Below w.heap.size w w'
theorem room_val {j : Jn} (h : JVal j) : gRoom j = 112 * (j.many - usedN j.recs) := by unfold gRoom; rw [if_pos h]
theorem app_val {j : Jn} {b : Bs} (h : JVal j) (h1 : ¬ j.many - usedN j.recs < secN b) : JVal { j with recs := j.recs ++ [b] } := by
  obtain ⟨v1, v2, v3, v4, v5⟩ := h
  refine ⟨v1, v2, v3, by simp only [List.length_append, List.length_singleton]; omega, ?_⟩
  rw [usedN_snoc]
  dsimp only
  omega
theorem app_room {j : Jn} {b : Bs} (h : JVal j) (h1 : ¬ j.many - usedN j.recs < secN b) : gRoom { j with recs := j.recs ++ [b] } < gRoom j := by
  rw [room_val h, room_val (app_val h h1)]
  dsimp only
  rw [usedN_snoc]
  have := secN_pos b
  omega

set_option maxRecDepth 20000 in
set_option maxHeartbeats 8000000 in
theorem journalRoom_t (RA A : Option Addr) (rc c : Nat) (j : Jn) (b : Bs) (w : World) (hn : n₀ ≤ w.heap.size) (hrl : j.recs.length ≤ 1048576) (hrb : ∀ x ∈ j.recs, x.length ≤ 1048576) (hbl : b.length ≤ 1048576) (hrc : j.recs.length ≤ rc) (r0 : RowsAt n₀ w RA j.recs) (b0 : BsAt n₀ w A b) :
    Calls Try.prog 13 #[.agg #[.slice RA j.recs.length rc, .int .i64 j.many, .int .i64 j.sync], .slice A b.length c] w (YesJ w) := by
  have HRB := Lib.hid hrb
  clear hrb
  go_enter Try.func13, Try.ntmps13
  go_wp2_with (fail)
  obtain ⟨W1, hW1⟩ : ∃ W, W = w.alloc (.cells #[.slice RA j.recs.length rc, .int .i64 j.many, .int .i64 j.sync] 55) := ⟨_, rfl⟩
  rw [← hW1]
  have hb : Below w.heap.size w W1 := by rw [hW1]; exact (Below.refl _ _).alloc (Nat.le_refl _) _
  have x2 : Blk W1 w.heap.size 55 #[.slice RA j.recs.length rc, .int .i64 j.many, .int .i64 j.sync] := by rw [hW1]; exact Blk.new w 55 _
  clear hW1
  replace r0 := r0.below hb
  replace b0 := b0.below hb
  have hw := hb
  clear hb
  have K : Calls Try.prog 42 #[] W1 (fun e w' => e = .returned (.bool true) ∧ Below W1.heap.size W1 w') := jsane_t W1
  go_at_call 42
  refine K.mono ?_
  rintro e w2 ⟨rfl, hb⟩
  clear K
  replace r0 := r0.below hb
  replace b0 := b0.below hb
  replace x2 := x2.below hb x2.lt
  replace hw := hw.trans (hb.mono hw.size)
  clear hb
  have x2c0 := x2.cell 0
  have x2c1 := x2.cell 1
  have x2c2 := x2.cell 2
  have x2c3 := x2.cell 3
  simp only [List.getElem?_toArray, List.getElem?_cons_zero, List.getElem?_cons_succ] at x2c0 x2c1 x2c2 x2c3
  have x2l := x2.lt
  go_wp2_with (fail)
  obtain ⟨y, hy⟩ : ∃ y, y = fewB 0 0 j.recs := ⟨_, rfl⟩
  have HY := Lib.hid hy
  clear hy
  have K : Calls Try.prog 43 #[.agg #[.slice none 0 0, .slice none 0 0, .int .i64 0, .bool false], .slice RA j.recs.length rc] w2 (fun e w' => e = .returned (.bool y) ∧ Below w2.heap.size w2 w') := by rw [HY.out]; exact few5_t none none RA 0 0 rc 0 0 0 false j.recs w2 (by decide) (by decide) hrl HRB.out r0
  go_at_call 43
  refine K.mono ?_
  rintro e w3 ⟨rfl, hb⟩
  clear K
  replace r0 := r0.below hb
  replace b0 := b0.below hb
  replace x2 := x2.below hb x2.lt
  replace hw := hw.trans (hb.mono hw.size)
  clear x2c0 x2c1 x2c2 x2c3 x2l
  clear hb
  cases y
  case false =>
    go_wp2
    go_ret
    exact ⟨rfl, hw⟩
  have hsm := (fewB_sm HY.out.symm).2.2.2
  have hs4 := (fewB_sm HY.out.symm).2.2.1
  have HSM := Lib.hid hsm
  clear hsm
  by_cases k1 : 70000 < b.length
  case pos =>
    have d1 : decide (70000 < (b.length : Int)) = true := decide_eq_true (by omega)
    have d1n : decide (70000 < b.length) = true := decide_eq_true k1
    go_wp2
    go_ret
    exact ⟨rfl, hw⟩
  have d1 : decide (70000 < (b.length : Int)) = false := decide_eq_false (by omega)
  have d1n : decide (70000 < b.length) = false := decide_eq_false k1
  have x2c0 := x2.cell 0
  have x2c1 := x2.cell 1
  have x2c2 := x2.cell 2
  have x2c3 := x2.cell 3
  simp only [List.getElem?_toArray, List.getElem?_cons_zero, List.getElem?_cons_succ] at x2c0 x2c1 x2c2 x2c3
  have x2l := x2.lt
  go_wp2_with (fail)
  obtain ⟨gc, hgc⟩ : ∃ x, x = gJchk j := ⟨_, rfl⟩
  have HGC := Lib.hid hgc
  clear hgc
  have K : Calls Try.prog 49 #[.agg #[.slice RA j.recs.length rc, .int .i64 j.many, .int .i64 j.sync]] w3 (fun e w' => e = .returned (.int .i64 gc) ∧ Below w3.heap.size w3 w') := by rw [HGC.out]; exact jcheck_t RA rc j w3 HSM.out r0
  go_at_call 49
  refine K.mono ?_
  rintro e w4 ⟨rfl, hb⟩
  clear K
  replace r0 := r0.below hb
  replace b0 := b0.below hb
  replace x2 := x2.below hb x2.lt
  replace hw := hw.trans (hb.mono hw.size)
  clear x2c0 x2c1 x2c2 x2c3 x2l
  clear hb
  by_cases k2 : gc = 0
  case neg =>
    have d2 : (gc != 0) = true := bne_iff_ne.2 k2
    go_wp2
    go_ret
    exact ⟨rfl, hw⟩
  subst k2
  have hv : JVal j := jchk_val HGC.out.symm
  have HV := Lib.hid hv
  clear d1 d1n
  obtain ⟨rm, hrm⟩ : ∃ x, x = gRoom j := ⟨_, rfl⟩
  have hrv := room_val hv
  rw [← hrm] at hrv
  have HRM := Lib.hid hrm
  have hsp := secN_hi b
  have hsl := fun h => secN_lo (b := b) h
  have HSL := Lib.hid hsl
  have v1 := hv.2.2.2.2
  have v2 := hv.2.1
  have v3 := hv.1
  clear hrm hsl hv
  obtain ⟨un, hun⟩ : ∃ u, u = usedN j.recs := ⟨_, rfl⟩
  have HUN := Lib.hid hun
  rw [← hun] at hrv v1
  clear hun
  by_cases ha : j.many - (un : Int) < secN b
  case pos =>
    have x2c0 := x2.cell 0
    have x2c1 := x2.cell 1
    have x2c2 := x2.cell 2
    have x2c3 := x2.cell 3
    simp only [List.getElem?_toArray, List.getElem?_cons_zero, List.getElem?_cons_succ] at x2c0 x2c1 x2c2 x2c3
    have x2l := x2.lt
    go_wp2_with (fail)
    have K : Calls Try.prog 47 #[.agg #[.slice RA j.recs.length rc, .int .i64 j.many, .int .i64 j.sync], .slice A b.length c] w4 (fun e w' => ∃ A c, e = .returned (.tuple #[.agg #[.slice A 0 c, .int .i64 0, .int .i64 0], .int .i64 2]) ∧ Below w4.heap.size w4 w') := (by have h := append_t RA A rc c j b w4 HSM.out (by omega) hrc r0 b0; rw [gApp_lim HV.out (by rw [← HUN.out]; exact ha)] at h; exact h.mono fun e w9 hx => by obtain ⟨A, c, h1, -, -, h4⟩ := jn_out (rs := []) (m := 0) (s := 0) (e := 2) hx; exact ⟨A, c, h1, h4⟩)
    go_at_call 47
    refine K.mono ?_
    rintro e w5 ⟨A5, c5, rfl, hb⟩
    clear K
    replace r0 := r0.below hb
    replace b0 := b0.below hb
    replace x2 := x2.below hb x2.lt
    replace hw := hw.trans (hb.mono hw.size)
    clear x2c0 x2c1 x2c2 x2c3 x2l
    clear hb
    go_upto_region 6 with (fail)
    obtain ⟨W6, hW6⟩ : ∃ W, W = w5.alloc (.cells #[.slice A5 0 c5, .int .i64 0, .int .i64 0] 55) := ⟨_, rfl⟩
    rw [← hW6]
    have hb : Below w5.heap.size w5 W6 := by rw [hW6]; exact (Below.refl _ _).alloc (Nat.le_refl _) _
    have x5 : Blk W6 w5.heap.size 55 #[.slice A5 0 c5, .int .i64 0, .int .i64 0] := by rw [hW6]; exact Blk.new w5 55 _
    clear hW6
    replace r0 := r0.below hb
    replace b0 := b0.below hb
    replace x2 := x2.below hb x2.lt
    replace hw := hw.trans (hb.mono hw.size)
    clear hb
    have x2c0 := x2.cell 0
    have x2c1 := x2.cell 1
    have x2c2 := x2.cell 2
    have x2c3 := x2.cell 3
    simp only [List.getElem?_toArray, List.getElem?_cons_zero, List.getElem?_cons_succ] at x2c0 x2c1 x2c2 x2c3
    have x2l := x2.lt
    go_wp2_with (fail)
    have K : Calls Try.prog 51 #[.agg #[.slice RA j.recs.length rc, .int .i64 j.many, .int .i64 j.sync]] W6 (fun e w' => e = .returned (.int .i64 rm) ∧ Below W6.heap.size W6 w') := by rw [HRM.out]; exact room_t RA rc j W6 HSM.out r0
    go_at_call 51
    refine K.mono ?_
    rintro e w7 ⟨rfl, hb⟩
    clear K
    replace r0 := r0.below hb
    replace b0 := b0.below hb
    replace x2 := x2.below hb x2.lt
    replace x5 := x5.below hb x5.lt
    replace hw := hw.trans (hb.mono hw.size)
    clear x2c0 x2c1 x2c2 x2c3 x2l
    clear hb
    have x5c0 := x5.cell 0
    have x5c1 := x5.cell 1
    have x5c2 := x5.cell 2
    have x5c3 := x5.cell 3
    simp only [List.getElem?_toArray, List.getElem?_cons_zero, List.getElem?_cons_succ] at x5c0 x5c1 x5c2 x5c3
    have x5l := x5.lt
    by_cases k3 : 0 < rm
    case pos =>
      have e3 : decide (0 < rm) = true := decide_eq_true k3
      have e4 : decide ((b.length : Int) ≤ rm) = false := decide_eq_false (fun h => by
        by_cases h1 : 1 < secN b
        · have := HSL.out h1; omega
        · have := secN_pos b; omega)
      clear hrv hsp HSL v1 v2 v3
      go_wp2
      go_ret
      exact ⟨rfl, hw⟩
    have e3 : decide (0 < rm) = false := decide_eq_false k3
    clear hrv hsp HSL v1 v2 v3
    go_wp2
    go_ret
    exact ⟨rfl, hw⟩
  have hav := app_val (b := b) HV.out (by rw [← HUN.out]; exact ha)
  have har := app_room (b := b) HV.out (by rw [← HUN.out]; exact ha)
  have HAV := Lib.hid hav
  obtain ⟨r2, hr2⟩ : ∃ r, r = gRoom ({ j with recs := j.recs ++ [b] } : Jn) := ⟨_, rfl⟩
  rw [← hr2, ← HRM.out] at har
  have HR2 := Lib.hid hr2
  have k3 : 0 < rm := by have := secN_pos b; omega
  have k4 : (b.length : Int) ≤ rm := by have := secN_pos b; omega
  have e3 : decide (0 < rm) = true := decide_eq_true k3
  have e4 : decide ((b.length : Int) ≤ rm) = true := decide_eq_true k4
  have e5 : decide (r2 < rm) = true := decide_eq_true har
  have HA := Lib.hid ha
  have hsm2 : Sm (j.recs ++ [b]) := ⟨by have h1 := sumB_len j.recs; simp only [List.length_append, List.length_singleton]; omega, fun x hx => by
    rcases List.mem_append.1 hx with h | h
    · exact HSM.out.2 x h
    · rw [List.mem_singleton.1 h]; omega⟩
  have HS2 := Lib.hid hsm2
  clear hrv hsp HSL v1 v2 v3 hav har hr2 ha hsm2 k4
  obtain ⟨nn, hnn⟩ : ∃ n, n = j.recs.length := ⟨_, rfl⟩
  have hnn2 : nn ≤ 4000 := by have h1 := sumB_len j.recs; omega
  have HNN := Lib.hid hnn
  rw [← hnn] at x2 hrc
  rw [← hnn]
  clear hnn
  have x2c0 := x2.cell 0
  have x2c1 := x2.cell 1
  have x2c2 := x2.cell 2
  have x2c3 := x2.cell 3
  simp only [List.getElem?_toArray, List.getElem?_cons_zero, List.getElem?_cons_succ] at x2c0 x2c1 x2c2 x2c3
  have x2l := x2.lt
  go_wp2_with (fail)
  have K : Calls Try.prog 47 #[.agg #[.slice RA nn rc, .int .i64 j.many, .int .i64 j.sync], .slice A b.length c] w4 (fun e w' => ∃ A c, e = .returned (.tuple #[.agg #[.slice A (nn + 1) c, .int .i64 j.many, .int .i64 j.sync], .int .i64 0]) ∧ nn + 1 ≤ c ∧ RowsAt n₀ w' A (j.recs ++ [b]) ∧ Below w4.heap.size w4 w') := (by have h := append_t RA A rc c j b w4 HSM.out (by omega) (by rw [← HNN.out]; exact hrc) r0 b0; rw [← HNN.out] at h; rw [gApp_ok HV.out (by have h9 := HA.out; rw [← HUN.out]; omega)] at h; exact h.mono fun e w9 hx => by obtain ⟨A, c, h1, h2, h3, h4⟩ := jn_out (rs := j.recs ++ [b]) (m := j.many) (s := j.sync) (e := 0) hx; rw [List.length_append, List.length_singleton, ← HNN.out] at h1 h2; exact ⟨A, c, h1, h2, h3, h4⟩)
  go_at_call 47
  refine K.mono ?_
  rintro e w5 ⟨A5, c5, rfl, hc5, r5, hb⟩
  clear K
  replace r0 := r0.below hb
  replace b0 := b0.below hb
  replace x2 := x2.below hb x2.lt
  replace hw := hw.trans (hb.mono hw.size)
  clear x2c0 x2c1 x2c2 x2c3 x2l
  clear hb
  go_upto_region 6 with (fail)
  obtain ⟨W6, hW6⟩ : ∃ W, W = w5.alloc (.cells #[.slice A5 (nn + 1) c5, .int .i64 j.many, .int .i64 j.sync] 55) := ⟨_, rfl⟩
  rw [← hW6]
  have hb : Below w5.heap.size w5 W6 := by rw [hW6]; exact (Below.refl _ _).alloc (Nat.le_refl _) _
  have x5 : Blk W6 w5.heap.size 55 #[.slice A5 (nn + 1) c5, .int .i64 j.many, .int .i64 j.sync] := by rw [hW6]; exact Blk.new w5 55 _
  clear hW6
  replace r0 := r0.below hb
  replace b0 := b0.below hb
  replace r5 := r5.below hb
  replace x2 := x2.below hb x2.lt
  replace hw := hw.trans (hb.mono hw.size)
  clear hb
  have x2c0 := x2.cell 0
  have x2c1 := x2.cell 1
  have x2c2 := x2.cell 2
  have x2c3 := x2.cell 3
  simp only [List.getElem?_toArray, List.getElem?_cons_zero, List.getElem?_cons_succ] at x2c0 x2c1 x2c2 x2c3
  have x2l := x2.lt
  go_wp2_with (fail)
  have K : Calls Try.prog 51 #[.agg #[.slice RA nn rc, .int .i64 j.many, .int .i64 j.sync]] W6 (fun e w' => e = .returned (.int .i64 rm) ∧ Below W6.heap.size W6 w') := by have h := room_t RA rc j W6 HSM.out r0; rw [← HNN.out, ← HRM.out] at h; exact h
  go_at_call 51
  refine K.mono ?_
  rintro e w7 ⟨rfl, hb⟩
  clear K
  replace r0 := r0.below hb
  replace b0 := b0.below hb
  replace r5 := r5.below hb
  replace x2 := x2.below hb x2.lt
  replace x5 := x5.below hb x5.lt
  replace hw := hw.trans (hb.mono hw.size)
  clear x2c0 x2c1 x2c2 x2c3 x2l
  clear hb
  have x5c0 := x5.cell 0
  have x5c1 := x5.cell 1
  have x5c2 := x5.cell 2
  have x5c3 := x5.cell 3
  simp only [List.getElem?_toArray, List.getElem?_cons_zero, List.getElem?_cons_succ] at x5c0 x5c1 x5c2 x5c3
  have x5l := x5.lt
  have x2c0 := x2.cell 0
  have x2c1 := x2.cell 1
  have x2c2 := x2.cell 2
  have x2c3 := x2.cell 3
  simp only [List.getElem?_toArray, List.getElem?_cons_zero, List.getElem?_cons_succ] at x2c0 x2c1 x2c2 x2c3
  have x2l := x2.lt
  obtain ⟨g5, o5, hA5, lg5, hget⟩ := r5.get (by simp)
  subst hA5
  obtain ⟨Ab, cb, zb, hcb, hbb⟩ := hget nn (by rw [HNN.out]; simp)
  have hlast : (j.recs ++ [b]).getD nn [] = b := by rw [HNN.out]; simp [List.getD]
  rw [hlast] at zb hcb hbb
  have cv1 : ∀ W, Below w7.heap.size w7 W → (convert 35 9 (.slice Ab b.length cb)).run Try.prog W = .ok (.string ⟨b.toArray⟩) W := fun W hW => conv_bs (hbb.below hW) cb
  have cv2 : ∀ W, Below w7.heap.size w7 W → (convert 35 9 (.slice A b.length c)).run Try.prog W = .ok (.string ⟨b.toArray⟩) W := fun W hW => conv_bs (b0.below hW) c
  have hck : ∀ W, Below w7.heap.size w7 W → Calls Try.prog 49 #[.agg #[.slice (some ⟨g5, o5, none⟩) (nn + 1) c5, .int .i64 j.many, .int .i64 j.sync]] W (fun e w' => e = .returned (.int .i64 0) ∧ Below W.heap.size W w') := fun W hW => by
    have h := jcheck_t (n₀ := n₀) (some ⟨g5, o5, none⟩) c5 ({ j with recs := j.recs ++ [b] } : Jn) W HS2.out (r5.below hW)
    rw [jchk_yes HAV.out] at h
    dsimp only at h
    rw [List.length_append, List.length_singleton, ← HNN.out] at h
    exact h
  have hrk : ∀ W, Below w7.heap.size w7 W → Calls Try.prog 51 #[.agg #[.slice (some ⟨g5, o5, none⟩) (nn + 1) c5, .int .i64 j.many, .int .i64 j.sync]] W (fun e w' => e = .returned (.int .i64 r2) ∧ Below W.heap.size W w') := fun W hW => by
    have h := room_t (n₀ := n₀) (some ⟨g5, o5, none⟩) c5 ({ j with recs := j.recs ++ [b] } : Jn) W HS2.out (r5.below hW)
    rw [← HR2.out] at h
    dsimp only at h
    rw [List.length_append, List.length_singleton, ← HNN.out] at h
    exact h
  have hsr : ∀ W, Below w7.heap.size w7 W → Calls Try.prog 55 #[.slice (some ⟨g5, o5, none⟩) nn c5, .slice RA nn rc] W (fun e w' => e = .returned (.bool true) ∧ Below W.heap.size W w') := fun W hW => by
    have ht : (j.recs ++ [b]).take nn = j.recs := by rw [HNN.out]; simp
    have hr := rows_take (r5.below hW) nn
    rw [ht] at hr
    have h := sameR_t (n₀ := n₀) (some ⟨g5, o5, none⟩) RA c5 rc j.recs j.recs W (by omega) (by omega) hr (r0.below hW)
    rw [← HNN.out] at h
    simpa using h
  have HCV1 := Lib.hid cv1
  have HCV2 := Lib.hid cv2
  have HCK := Lib.hid hck
  have HRK := Lib.hid hrk
  have HSR := Lib.hid hsr
  obtain ⟨sb, hsb⟩ : ∃ s, s = (⟨b.toArray⟩ : ByteArray) := ⟨_, rfl⟩
  rw [← hsb] at HCV1 HCV2
  have nw : IntKind.i64.wrap ((nn : Int) + 1) = nn + 1 := IntWalk.i64_in _ (by omega)
  have n5 : (nn : Int) ≤ (c5 : Int) := by omega
  have n0 : (0 : Int) ≤ (nn : Int) := by omega
  have n6 : (nn : Int) < ((nn + 1 : Nat) : Int) := by omega
  have n7 : (nn : Int) < (nn : Int) + 1 := by omega
  clear hget hlast cv1 cv2 hck hrk hsr hsb hbb hcb
  have hS : ∀ W, Below w7.heap.size w7 W → (fun W => W.cell? ⟨w5.heap.size, 0, none⟩ = some (.slice (some ⟨g5, o5, none⟩) (nn + 1) c5) ∧ W.cell? ⟨w5.heap.size, 1, none⟩ = some (.int .i64 j.many) ∧ W.cell? ⟨w5.heap.size, 2, none⟩ = some (.int .i64 j.sync) ∧ W.cell? ⟨w.heap.size, 0, none⟩ = some (.slice RA nn rc) ∧ W.cell? ⟨w.heap.size, 1, none⟩ = some (.int .i64 j.many) ∧ W.cell? ⟨w.heap.size, 2, none⟩ = some (.int .i64 j.sync) ∧ W.cell? ⟨g5, o5 + nn, none⟩ = some (.slice Ab b.length cb) ∧ (convert 35 9 (.slice Ab b.length cb)).run Try.prog W = .ok (.string sb) W ∧ (convert 35 9 (.slice A b.length c)).run Try.prog W = .ok (.string sb) W ∧ Below w7.heap.size w7 W) W := fun W hW => ⟨(hW.cell (p := ⟨w5.heap.size, 0, none⟩) x5l).trans x5c0, (hW.cell (p := ⟨w5.heap.size, 1, none⟩) x5l).trans x5c1, (hW.cell (p := ⟨w5.heap.size, 2, none⟩) x5l).trans x5c2, (hW.cell (p := ⟨w.heap.size, 0, none⟩) x2l).trans x2c0, (hW.cell (p := ⟨w.heap.size, 1, none⟩) x2l).trans x2c1, (hW.cell (p := ⟨w.heap.size, 2, none⟩) x2l).trans x2c2, (hW.cell (p := ⟨g5, _, none⟩) lg5).trans zb, HCV1.out W hW, HCV2.out W hW, hW⟩
  have HSS := Lib.hid hS
  clear hS
  go_upto_region 12 with (fail)
  refine wp_region_held_drew (S := (fun W => W.cell? ⟨w5.heap.size, 0, none⟩ = some (.slice (some ⟨g5, o5, none⟩) (nn + 1) c5) ∧ W.cell? ⟨w5.heap.size, 1, none⟩ = some (.int .i64 j.many) ∧ W.cell? ⟨w5.heap.size, 2, none⟩ = some (.int .i64 j.sync) ∧ W.cell? ⟨w.heap.size, 0, none⟩ = some (.slice RA nn rc) ∧ W.cell? ⟨w.heap.size, 1, none⟩ = some (.int .i64 j.many) ∧ W.cell? ⟨w.heap.size, 2, none⟩ = some (.int .i64 j.sync) ∧ W.cell? ⟨g5, o5 + nn, none⟩ = some (.slice Ab b.length cb) ∧ (convert 35 9 (.slice Ab b.length cb)).run Try.prog W = .ok (.string sb) W ∧ (convert 35 9 (.slice A b.length c)).run Try.prog W = .ok (.string sb) W ∧ Below w7.heap.size w7 W)) (by kernel_rfl) (HSS.out _ (Below.refl _ _).drew) (fun hHeld => ?_)
  refine wpAnyH_take (i := 0) (oi := { dst := some 58, op := Op.load 55 (Operand.tmp 5), type := 55, pos := "law.go:152", after := #[], guard := none }) (v := ?_) rfl (by kernel_rfl) (by kernel_rfl) (by kernel_rfl) (fun _ _ _ h => h) (Or.inl ⟨by rfl, ?_⟩) (by assumption) ?_
  rotate_left
  · intro wS hSw; go_split_ands; go_simp; first | done | with_reducible rfl
  simp only [Act.put, List.setIfInBounds_toArray, List.set_cons_zero, List.set_cons_succ]
  refine wpAnyH_ready (rs := [1]) (by kernel_rfl) (by simp) ?_
  refine AllReadyH.cons (o := { dst := some 59, op := Op.call { callee := Callee.value (Operand.func 49), args := #[Operand.tmp 58], argTypes := #[55] }, type := 28, pos := "law.go:152", after := #[{ on := 0, ground := Ground.data }], guard := none }) rfl (fun K hK => ?_) AllReadyH.nil
  go_simp
  go_at_call 49; refine (HCK.out _ hHeld.2.2.2.2.2.2.2.2.2).mono ?_; rintro e w9 ⟨rfl, hb9⟩
  refine hK.out _ _ ?_ (fun hHeld => ?_)
  · exact HSS.out _ (hHeld.2.2.2.2.2.2.2.2.2.trans (hb9.mono hHeld.2.2.2.2.2.2.2.2.2.size))
  clear hK K
  try simp only [Act.put, List.setIfInBounds_toArray, List.set_cons_zero, List.set_cons_succ]
  refine wpAnyH_take (i := 2) (oi := { dst := some 60, op := Op.binOp BinOp.eql 28 (Operand.tmp 59) (Operand.const (Value.int IntKind.i64 0)) 28, type := 4, pos := "law.go:152", after := #[{ on := 1, ground := Ground.data }], guard := none }) (v := ?_) rfl (by kernel_rfl) (by kernel_rfl) (by kernel_rfl) (fun _ _ _ h => h) (Or.inl ⟨by rfl, ?_⟩) (by assumption) ?_
  rotate_left
  · intro wS hSw; go_split_ands; go_simp; first | done | with_reducible rfl
  simp only [Act.put, List.setIfInBounds_toArray, List.set_cons_zero, List.set_cons_succ]
  refine wpAnyH_take (i := 3) (oi := { dst := some 61, op := Op.move (Operand.tmp 60), type := 4, pos := "law.go:152", after := #[{ on := 2, ground := Ground.data }, { on := 1, ground := Ground.chain }], guard := none }) (v := ?_) rfl (by kernel_rfl) (by kernel_rfl) (by kernel_rfl) (fun _ _ _ h => h) (Or.inl ⟨by rfl, ?_⟩) (by assumption) ?_
  rotate_left
  · intro wS hSw; go_split_ands; go_simp; first | done | with_reducible rfl
  simp only [Act.put, List.setIfInBounds_toArray, List.set_cons_zero, List.set_cons_succ]
  refine wpAnyH_take (i := 4) (oi := { dst := some 62, op := Op.fieldAddr 55 (Operand.tmp 5) 1, type := 0, pos := "law.go:152", after := #[{ on := 3, ground := Ground.guard }], guard := some (3, true) }) (v := ?_) rfl (by kernel_rfl) (by kernel_rfl) (by kernel_rfl) (fun _ _ _ h => h) (Or.inl ⟨by rfl, ?_⟩) (by assumption) ?_
  rotate_left
  · intro wS hSw; go_split_ands; go_simp; first | done | with_reducible rfl
  simp only [Act.put, List.setIfInBounds_toArray, List.set_cons_zero, List.set_cons_succ]
  refine wpAnyH_take (i := 5) (oi := { dst := some 63, op := Op.load 3 (Operand.tmp 62), type := 3, pos := "law.go:152", after := #[{ on := 4, ground := Ground.data }, { on := 3, ground := Ground.guard }], guard := some (3, true) }) (v := ?_) rfl (by kernel_rfl) (by kernel_rfl) (by kernel_rfl) (fun _ _ _ h => h) (Or.inl ⟨by rfl, ?_⟩) (by assumption) ?_
  rotate_left
  · intro wS hSw; go_split_ands; go_simp; first | done | with_reducible rfl
  simp only [Act.put, List.setIfInBounds_toArray, List.set_cons_zero, List.set_cons_succ]
  refine wpAnyH_take (i := 6) (oi := { dst := some 64, op := Op.fieldAddr 55 (Operand.tmp 2) 1, type := 0, pos := "law.go:152", after := #[{ on := 3, ground := Ground.guard }], guard := some (3, true) }) (v := ?_) rfl (by kernel_rfl) (by kernel_rfl) (by kernel_rfl) (fun _ _ _ h => h) (Or.inl ⟨by rfl, ?_⟩) (by assumption) ?_
  rotate_left
  · intro wS hSw; go_split_ands; go_simp; first | done | with_reducible rfl
  simp only [Act.put, List.setIfInBounds_toArray, List.set_cons_zero, List.set_cons_succ]
  refine wpAnyH_take (i := 7) (oi := { dst := some 65, op := Op.load 3 (Operand.tmp 64), type := 3, pos := "law.go:152", after := #[{ on := 6, ground := Ground.data }, { on := 3, ground := Ground.guard }], guard := some (3, true) }) (v := ?_) rfl (by kernel_rfl) (by kernel_rfl) (by kernel_rfl) (fun _ _ _ h => h) (Or.inl ⟨by rfl, ?_⟩) (by assumption) ?_
  rotate_left
  · intro wS hSw; go_split_ands; go_simp; first | done | with_reducible rfl
  simp only [Act.put, List.setIfInBounds_toArray, List.set_cons_zero, List.set_cons_succ]
  refine wpAnyH_take (i := 8) (oi := { dst := some 66, op := Op.binOp BinOp.eql 3 (Operand.tmp 63) (Operand.tmp 65) 3, type := 4, pos := "law.go:152", after := #[{ on := 5, ground := Ground.data }, { on := 7, ground := Ground.data }, { on := 3, ground := Ground.guard }], guard := some (3, true) }) (v := ?_) rfl (by kernel_rfl) (by kernel_rfl) (by kernel_rfl) (fun _ _ _ h => h) (Or.inl ⟨by rfl, ?_⟩) (by assumption) ?_
  rotate_left
  · intro wS hSw; go_split_ands; go_simp; first | done | with_reducible rfl
  simp only [Act.put, List.setIfInBounds_toArray, List.set_cons_zero, List.set_cons_succ]
  refine wpAnyH_take (i := 9) (oi := { dst := some 67, op := Op.pick (Operand.tmp 61) (Operand.tmp 66) (Operand.const (Value.bool false)), type := 4, pos := "law.go:152", after := #[{ on := 3, ground := Ground.data }, { on := 8, ground := Ground.data }], guard := none }) (v := ?_) rfl (by kernel_rfl) (by kernel_rfl) (by kernel_rfl) (fun _ _ _ h => h) (Or.inl ⟨by rfl, ?_⟩) (by assumption) ?_
  rotate_left
  · intro wS hSw; go_split_ands; go_simp; first | done | with_reducible rfl
  simp only [Act.put, List.setIfInBounds_toArray, List.set_cons_zero, List.set_cons_succ]
  refine wpAnyH_take (i := 10) (oi := { dst := some 68, op := Op.move (Operand.tmp 67), type := 4, pos := "law.go:152", after := #[{ on := 9, ground := Ground.data }, { on := 3, ground := Ground.chain }], guard := none }) (v := ?_) rfl (by kernel_rfl) (by kernel_rfl) (by kernel_rfl) (fun _ _ _ h => h) (Or.inl ⟨by rfl, ?_⟩) (by assumption) ?_
  rotate_left
  · intro wS hSw; go_split_ands; go_simp; first | done | with_reducible rfl
  simp only [Act.put, List.setIfInBounds_toArray, List.set_cons_zero, List.set_cons_succ]
  refine wpAnyH_take (i := 11) (oi := { dst := some 69, op := Op.fieldAddr 55 (Operand.tmp 5) 2, type := 0, pos := "law.go:152", after := #[{ on := 10, ground := Ground.guard }], guard := some (10, true) }) (v := ?_) rfl (by kernel_rfl) (by kernel_rfl) (by kernel_rfl) (fun _ _ _ h => h) (Or.inl ⟨by rfl, ?_⟩) (by assumption) ?_
  rotate_left
  · intro wS hSw; go_split_ands; go_simp; first | done | with_reducible rfl
  simp only [Act.put, List.setIfInBounds_toArray, List.set_cons_zero, List.set_cons_succ]
  refine wpAnyH_take (i := 12) (oi := { dst := some 70, op := Op.load 3 (Operand.tmp 69), type := 3, pos := "law.go:152", after := #[{ on := 11, ground := Ground.data }, { on := 10, ground := Ground.guard }], guard := some (10, true) }) (v := ?_) rfl (by kernel_rfl) (by kernel_rfl) (by kernel_rfl) (fun _ _ _ h => h) (Or.inl ⟨by rfl, ?_⟩) (by assumption) ?_
  rotate_left
  · intro wS hSw; go_split_ands; go_simp; first | done | with_reducible rfl
  simp only [Act.put, List.setIfInBounds_toArray, List.set_cons_zero, List.set_cons_succ]
  refine wpAnyH_take (i := 13) (oi := { dst := some 71, op := Op.fieldAddr 55 (Operand.tmp 2) 2, type := 0, pos := "law.go:152", after := #[{ on := 10, ground := Ground.guard }], guard := some (10, true) }) (v := ?_) rfl (by kernel_rfl) (by kernel_rfl) (by kernel_rfl) (fun _ _ _ h => h) (Or.inl ⟨by rfl, ?_⟩) (by assumption) ?_
  rotate_left
  · intro wS hSw; go_split_ands; go_simp; first | done | with_reducible rfl
  simp only [Act.put, List.setIfInBounds_toArray, List.set_cons_zero, List.set_cons_succ]
  refine wpAnyH_take (i := 14) (oi := { dst := some 72, op := Op.load 3 (Operand.tmp 71), type := 3, pos := "law.go:152", after := #[{ on := 13, ground := Ground.data }, { on := 10, ground := Ground.guard }], guard := some (10, true) }) (v := ?_) rfl (by kernel_rfl) (by kernel_rfl) (by kernel_rfl) (fun _ _ _ h => h) (Or.inl ⟨by rfl, ?_⟩) (by assumption) ?_
  rotate_left
  · intro wS hSw; go_split_ands; go_simp; first | done | with_reducible rfl
  simp only [Act.put, List.setIfInBounds_toArray, List.set_cons_zero, List.set_cons_succ]
  refine wpAnyH_take (i := 15) (oi := { dst := some 73, op := Op.binOp BinOp.eql 3 (Operand.tmp 70) (Operand.tmp 72) 3, type := 4, pos := "law.go:152", after := #[{ on := 12, ground := Ground.data }, { on := 14, ground := Ground.data }, { on := 10, ground := Ground.guard }], guard := some (10, true) }) (v := ?_) rfl (by kernel_rfl) (by kernel_rfl) (by kernel_rfl) (fun _ _ _ h => h) (Or.inl ⟨by rfl, ?_⟩) (by assumption) ?_
  rotate_left
  · intro wS hSw; go_split_ands; go_simp; first | done | with_reducible rfl
  simp only [Act.put, List.setIfInBounds_toArray, List.set_cons_zero, List.set_cons_succ]
  refine wpAnyH_take (i := 16) (oi := { dst := some 74, op := Op.pick (Operand.tmp 68) (Operand.tmp 73) (Operand.const (Value.bool false)), type := 4, pos := "law.go:152", after := #[{ on := 10, ground := Ground.data }, { on := 15, ground := Ground.data }], guard := none }) (v := ?_) rfl (by kernel_rfl) (by kernel_rfl) (by kernel_rfl) (fun _ _ _ h => h) (Or.inl ⟨by rfl, ?_⟩) (by assumption) ?_
  rotate_left
  · intro wS hSw; go_split_ands; go_simp; first | done | with_reducible rfl
  simp only [Act.put, List.setIfInBounds_toArray, List.set_cons_zero, List.set_cons_succ]
  refine wpAnyH_take (i := 17) (oi := { dst := some 75, op := Op.move (Operand.tmp 74), type := 4, pos := "law.go:152", after := #[{ on := 16, ground := Ground.data }, { on := 10, ground := Ground.chain }], guard := none }) (v := ?_) rfl (by kernel_rfl) (by kernel_rfl) (by kernel_rfl) (fun _ _ _ h => h) (Or.inl ⟨by rfl, ?_⟩) (by assumption) ?_
  rotate_left
  · intro wS hSw; go_split_ands; go_simp; first | done | with_reducible rfl
  simp only [Act.put, List.setIfInBounds_toArray, List.set_cons_zero, List.set_cons_succ]
  refine wpAnyH_take (i := 18) (oi := { dst := some 76, op := Op.fieldAddr 55 (Operand.tmp 5) 0, type := 0, pos := "law.go:152", after := #[{ on := 17, ground := Ground.guard }], guard := some (17, true) }) (v := ?_) rfl (by kernel_rfl) (by kernel_rfl) (by kernel_rfl) (fun _ _ _ h => h) (Or.inl ⟨by rfl, ?_⟩) (by assumption) ?_
  rotate_left
  · intro wS hSw; go_split_ands; go_simp; first | done | with_reducible rfl
  simp only [Act.put, List.setIfInBounds_toArray, List.set_cons_zero, List.set_cons_succ]
  refine wpAnyH_take (i := 19) (oi := { dst := some 77, op := Op.load 22 (Operand.tmp 76), type := 22, pos := "law.go:152", after := #[{ on := 18, ground := Ground.data }, { on := 17, ground := Ground.guard }], guard := some (17, true) }) (v := ?_) rfl (by kernel_rfl) (by kernel_rfl) (by kernel_rfl) (fun _ _ _ h => h) (Or.inl ⟨by rfl, ?_⟩) (by assumption) ?_
  rotate_left
  · intro wS hSw; go_split_ands; go_simp; first | done | with_reducible rfl
  simp only [Act.put, List.setIfInBounds_toArray, List.set_cons_zero, List.set_cons_succ]
  refine wpAnyH_take (i := 21) (oi := { dst := some 79, op := Op.move (Operand.tmp 8), type := 3, pos := "law.go:152", after := #[{ on := 17, ground := Ground.guard }], guard := some (17, true) }) (v := ?_) rfl (by kernel_rfl) (by kernel_rfl) (by kernel_rfl) (fun _ _ _ h => h) (Or.inl ⟨by rfl, ?_⟩) (by assumption) ?_
  rotate_left
  · intro wS hSw; go_split_ands; go_simp; first | done | with_reducible rfl
  simp only [Act.put, List.setIfInBounds_toArray, List.set_cons_zero, List.set_cons_succ]
  refine wpAnyH_take (i := 22) (oi := { dst := some 80, op := Op.binOp BinOp.add 3 (Operand.tmp 79) (Operand.const (Value.int IntKind.i64 1)) 3, type := 3, pos := "law.go:152", after := #[{ on := 21, ground := Ground.data }, { on := 17, ground := Ground.guard }], guard := some (17, true) }) (v := ?_) rfl (by kernel_rfl) (by kernel_rfl) (by kernel_rfl) (fun _ _ _ h => h) (Or.inl ⟨by rfl, ?_⟩) (by assumption) ?_
  rotate_left
  · intro wS hSw; go_split_ands; go_simp; first | done | with_reducible rfl
  simp only [Act.put, List.setIfInBounds_toArray, List.set_cons_zero, List.set_cons_succ]
  refine wpAnyH_ready (rs := [20]) (by kernel_rfl) (by simp) ?_
  refine AllReadyH.cons (o := { dst := some 78, op := Op.call { callee := Callee.builtin Builtin.len, args := #[Operand.tmp 77], argTypes := #[22] }, type := 3, pos := "law.go:152", after := #[{ on := 19, ground := Ground.data }, { on := 17, ground := Ground.guard }], guard := some (17, true) }) rfl (fun K hK => ?_) AllReadyH.nil
  go_simp
  refine hK.out _ _ ?_ (fun hHeld => ?_)
  · exact hHeld
  clear hK K
  try simp only [Act.put, List.setIfInBounds_toArray, List.set_cons_zero, List.set_cons_succ]
  refine wpAnyH_take (i := 23) (oi := { dst := some 81, op := Op.binOp BinOp.eql 3 (Operand.tmp 78) (Operand.tmp 80) 3, type := 4, pos := "law.go:152", after := #[{ on := 20, ground := Ground.data }, { on := 22, ground := Ground.data }, { on := 17, ground := Ground.guard }], guard := some (17, true) }) (v := ?_) rfl (by kernel_rfl) (by kernel_rfl) (by kernel_rfl) (fun _ _ _ h => h) (Or.inl ⟨by rfl, ?_⟩) (by assumption) ?_
  rotate_left
  · intro wS hSw; go_split_ands; go_simp; first | done | with_reducible rfl
  simp only [Act.put, List.setIfInBounds_toArray, List.set_cons_zero, List.set_cons_succ]
  refine wpAnyH_take (i := 24) (oi := { dst := some 82, op := Op.pick (Operand.tmp 75) (Operand.tmp 81) (Operand.const (Value.bool false)), type := 4, pos := "law.go:152", after := #[{ on := 17, ground := Ground.data }, { on := 23, ground := Ground.data }], guard := none }) (v := ?_) rfl (by kernel_rfl) (by kernel_rfl) (by kernel_rfl) (fun _ _ _ h => h) (Or.inl ⟨by rfl, ?_⟩) (by assumption) ?_
  rotate_left
  · intro wS hSw; go_split_ands; go_simp; first | done | with_reducible rfl
  simp only [Act.put, List.setIfInBounds_toArray, List.set_cons_zero, List.set_cons_succ]
  refine wpAnyH_take (i := 25) (oi := { dst := some 83, op := Op.move (Operand.tmp 82), type := 4, pos := "law.go:152", after := #[{ on := 24, ground := Ground.data }, { on := 17, ground := Ground.chain }], guard := none }) (v := ?_) rfl (by kernel_rfl) (by kernel_rfl) (by kernel_rfl) (fun _ _ _ h => h) (Or.inl ⟨by rfl, ?_⟩) (by assumption) ?_
  rotate_left
  · intro wS hSw; go_split_ands; go_simp; first | done | with_reducible rfl
  simp only [Act.put, List.setIfInBounds_toArray, List.set_cons_zero, List.set_cons_succ]
  refine wpAnyH_take (i := 26) (oi := { dst := some 84, op := Op.fieldAddr 55 (Operand.tmp 5) 0, type := 0, pos := "law.go:152", after := #[{ on := 25, ground := Ground.guard }], guard := some (25, true) }) (v := ?_) rfl (by kernel_rfl) (by kernel_rfl) (by kernel_rfl) (fun _ _ _ h => h) (Or.inl ⟨by rfl, ?_⟩) (by assumption) ?_
  rotate_left
  · intro wS hSw; go_split_ands; go_simp; first | done | with_reducible rfl
  simp only [Act.put, List.setIfInBounds_toArray, List.set_cons_zero, List.set_cons_succ]
  refine wpAnyH_take (i := 27) (oi := { dst := some 85, op := Op.load 22 (Operand.tmp 84), type := 22, pos := "law.go:152", after := #[{ on := 26, ground := Ground.data }, { on := 25, ground := Ground.guard }], guard := some (25, true) }) (v := ?_) rfl (by kernel_rfl) (by kernel_rfl) (by kernel_rfl) (fun _ _ _ h => h) (Or.inl ⟨by rfl, ?_⟩) (by assumption) ?_
  rotate_left
  · intro wS hSw; go_split_ands; go_simp; first | done | with_reducible rfl
  simp only [Act.put, List.setIfInBounds_toArray, List.set_cons_zero, List.set_cons_succ]
  refine wpAnyH_take (i := 28) (oi := { dst := some 86, op := Op.move (Operand.tmp 8), type := 3, pos := "law.go:152", after := #[{ on := 25, ground := Ground.guard }], guard := some (25, true) }) (v := ?_) rfl (by kernel_rfl) (by kernel_rfl) (by kernel_rfl) (fun _ _ _ h => h) (Or.inl ⟨by rfl, ?_⟩) (by assumption) ?_
  rotate_left
  · intro wS hSw; go_split_ands; go_simp; first | done | with_reducible rfl
  simp only [Act.put, List.setIfInBounds_toArray, List.set_cons_zero, List.set_cons_succ]
  refine wpAnyH_take (i := 29) (oi := { dst := some 87, op := Op.slice 22 (Operand.tmp 85) none (some (Operand.tmp 86)) none, type := 22, pos := "law.go:152", after := #[{ on := 27, ground := Ground.data }, { on := 28, ground := Ground.data }, { on := 25, ground := Ground.guard }], guard := some (25, true) }) (v := ?_) rfl (by kernel_rfl) (by kernel_rfl) (by kernel_rfl) (fun _ _ _ h => h) (Or.inl ⟨by rfl, ?_⟩) (by assumption) ?_
  rotate_left
  · intro wS hSw; go_split_ands; go_simp; first | done | with_reducible rfl
  simp only [Act.put, List.setIfInBounds_toArray, List.set_cons_zero, List.set_cons_succ]
  refine wpAnyH_take (i := 30) (oi := { dst := some 88, op := Op.fieldAddr 55 (Operand.tmp 2) 0, type := 0, pos := "law.go:152", after := #[{ on := 25, ground := Ground.guard }], guard := some (25, true) }) (v := ?_) rfl (by kernel_rfl) (by kernel_rfl) (by kernel_rfl) (fun _ _ _ h => h) (Or.inl ⟨by rfl, ?_⟩) (by assumption) ?_
  rotate_left
  · intro wS hSw; go_split_ands; go_simp; first | done | with_reducible rfl
  simp only [Act.put, List.setIfInBounds_toArray, List.set_cons_zero, List.set_cons_succ]
  refine wpAnyH_take (i := 31) (oi := { dst := some 89, op := Op.load 22 (Operand.tmp 88), type := 22, pos := "law.go:152", after := #[{ on := 30, ground := Ground.data }, { on := 25, ground := Ground.guard }], guard := some (25, true) }) (v := ?_) rfl (by kernel_rfl) (by kernel_rfl) (by kernel_rfl) (fun _ _ _ h => h) (Or.inl ⟨by rfl, ?_⟩) (by assumption) ?_
  rotate_left
  · intro wS hSw; go_split_ands; go_simp; first | done | with_reducible rfl
  simp only [Act.put, List.setIfInBounds_toArray, List.set_cons_zero, List.set_cons_succ]
  refine wpAnyH_ready (rs := [32]) (by kernel_rfl) (by simp) ?_
  refine AllReadyH.cons (o := { dst := some 90, op := Op.call { callee := Callee.value (Operand.func 55), args := #[Operand.tmp 87, Operand.tmp 89], argTypes := #[22, 22] }, type := 4, pos := "law.go:152", after := #[{ on := 29, ground := Ground.data }, { on := 31, ground := Ground.data }, { on := 25, ground := Ground.chain }, { on := 25, ground := Ground.guard }], guard := some (25, true) }) rfl (fun K hK => ?_) AllReadyH.nil
  go_simp
  go_at_call 55; refine (HSR.out _ hHeld.2.2.2.2.2.2.2.2.2).mono ?_; rintro e w9 ⟨rfl, hb9⟩
  refine hK.out _ _ ?_ (fun hHeld => ?_)
  · exact HSS.out _ (hHeld.2.2.2.2.2.2.2.2.2.trans (hb9.mono hHeld.2.2.2.2.2.2.2.2.2.size))
  clear hK K
  try simp only [Act.put, List.setIfInBounds_toArray, List.set_cons_zero, List.set_cons_succ]
  refine wpAnyH_take (i := 33) (oi := { dst := some 91, op := Op.pick (Operand.tmp 83) (Operand.tmp 90) (Operand.const (Value.bool false)), type := 4, pos := "law.go:152", after := #[{ on := 25, ground := Ground.data }, { on := 32, ground := Ground.data }], guard := none }) (v := ?_) rfl (by kernel_rfl) (by kernel_rfl) (by kernel_rfl) (fun _ _ _ h => h) (Or.inl ⟨by rfl, ?_⟩) (by assumption) ?_
  rotate_left
  · intro wS hSw; go_split_ands; go_simp; first | done | with_reducible rfl
  simp only [Act.put, List.setIfInBounds_toArray, List.set_cons_zero, List.set_cons_succ]
  refine wpAnyH_take (i := 34) (oi := { dst := some 92, op := Op.move (Operand.tmp 91), type := 4, pos := "law.go:152", after := #[{ on := 33, ground := Ground.data }, { on := 32, ground := Ground.chain }], guard := none }) (v := ?_) rfl (by kernel_rfl) (by kernel_rfl) (by kernel_rfl) (fun _ _ _ h => h) (Or.inl ⟨by rfl, ?_⟩) (by assumption) ?_
  rotate_left
  · intro wS hSw; go_split_ands; go_simp; first | done | with_reducible rfl
  simp only [Act.put, List.setIfInBounds_toArray, List.set_cons_zero, List.set_cons_succ]
  refine wpAnyH_take (i := 35) (oi := { dst := some 93, op := Op.fieldAddr 55 (Operand.tmp 5) 0, type := 0, pos := "law.go:152", after := #[{ on := 34, ground := Ground.guard }], guard := some (34, true) }) (v := ?_) rfl (by kernel_rfl) (by kernel_rfl) (by kernel_rfl) (fun _ _ _ h => h) (Or.inl ⟨by rfl, ?_⟩) (by assumption) ?_
  rotate_left
  · intro wS hSw; go_split_ands; go_simp; first | done | with_reducible rfl
  simp only [Act.put, List.setIfInBounds_toArray, List.set_cons_zero, List.set_cons_succ]
  refine wpAnyH_take (i := 36) (oi := { dst := some 94, op := Op.load 22 (Operand.tmp 93), type := 22, pos := "law.go:152", after := #[{ on := 35, ground := Ground.data }, { on := 34, ground := Ground.guard }], guard := some (34, true) }) (v := ?_) rfl (by kernel_rfl) (by kernel_rfl) (by kernel_rfl) (fun _ _ _ h => h) (Or.inl ⟨by rfl, ?_⟩) (by assumption) ?_
  rotate_left
  · intro wS hSw; go_split_ands; go_simp; first | done | with_reducible rfl
  simp only [Act.put, List.setIfInBounds_toArray, List.set_cons_zero, List.set_cons_succ]
  refine wpAnyH_take (i := 37) (oi := { dst := some 95, op := Op.move (Operand.tmp 8), type := 3, pos := "law.go:152", after := #[{ on := 34, ground := Ground.guard }], guard := some (34, true) }) (v := ?_) rfl (by kernel_rfl) (by kernel_rfl) (by kernel_rfl) (fun _ _ _ h => h) (Or.inl ⟨by rfl, ?_⟩) (by assumption) ?_
  rotate_left
  · intro wS hSw; go_split_ands; go_simp; first | done | with_reducible rfl
  simp only [Act.put, List.setIfInBounds_toArray, List.set_cons_zero, List.set_cons_succ]
  refine wpAnyH_take (i := 38) (oi := { dst := some 96, op := Op.indexAddr 22 (Operand.tmp 94) (Operand.tmp 95), type := 0, pos := "law.go:152", after := #[{ on := 36, ground := Ground.data }, { on := 37, ground := Ground.data }, { on := 34, ground := Ground.guard }], guard := some (34, true) }) (v := ?_) rfl (by kernel_rfl) (by kernel_rfl) (by kernel_rfl) (fun _ _ _ h => h) (Or.inl ⟨by rfl, ?_⟩) (by assumption) ?_
  rotate_left
  · intro wS hSw; go_split_ands; go_simp; first | done | with_reducible rfl
  simp only [Act.put, List.setIfInBounds_toArray, List.set_cons_zero, List.set_cons_succ]
  refine wpAnyH_take (i := 39) (oi := { dst := some 97, op := Op.load 35 (Operand.tmp 96), type := 35, pos := "law.go:152", after := #[{ on := 38, ground := Ground.data }, { on := 34, ground := Ground.guard }], guard := some (34, true) }) (v := ?_) rfl (by kernel_rfl) (by kernel_rfl) (by kernel_rfl) (fun _ _ _ h => h) (Or.inl ⟨by rfl, ?_⟩) (by assumption) ?_
  rotate_left
  · intro wS hSw; go_split_ands; go_simp; first | done | with_reducible rfl
  simp only [Act.put, List.setIfInBounds_toArray, List.set_cons_zero, List.set_cons_succ]
  refine wpAnyH_take (i := 40) (oi := { dst := some 98, op := Op.convert 35 9 (Operand.tmp 97), type := 9, pos := "law.go:152", after := #[{ on := 39, ground := Ground.data }, { on := 34, ground := Ground.guard }], guard := some (34, true) }) (v := ?_) rfl (by kernel_rfl) (by kernel_rfl) (by kernel_rfl) (fun _ _ _ h => h) (Or.inl ⟨by rfl, ?_⟩) (by assumption) ?_
  rotate_left
  · intro wS hSw; go_split_ands; go_simp; first | done | with_reducible rfl
  simp only [Act.put, List.setIfInBounds_toArray, List.set_cons_zero, List.set_cons_succ]
  refine wpAnyH_take (i := 41) (oi := { dst := some 99, op := Op.move (Operand.tmp 1), type := 35, pos := "law.go:152", after := #[{ on := 34, ground := Ground.guard }], guard := some (34, true) }) (v := ?_) rfl (by kernel_rfl) (by kernel_rfl) (by kernel_rfl) (fun _ _ _ h => h) (Or.inl ⟨by rfl, ?_⟩) (by assumption) ?_
  rotate_left
  · intro wS hSw; go_split_ands; go_simp; first | done | with_reducible rfl
  simp only [Act.put, List.setIfInBounds_toArray, List.set_cons_zero, List.set_cons_succ]
  refine wpAnyH_take (i := 42) (oi := { dst := some 100, op := Op.convert 35 9 (Operand.tmp 99), type := 9, pos := "law.go:152", after := #[{ on := 41, ground := Ground.data }, { on := 34, ground := Ground.guard }], guard := some (34, true) }) (v := ?_) rfl (by kernel_rfl) (by kernel_rfl) (by kernel_rfl) (fun _ _ _ h => h) (Or.inl ⟨by rfl, ?_⟩) (by assumption) ?_
  rotate_left
  · intro wS hSw; go_split_ands; go_simp; first | done | with_reducible rfl
  simp only [Act.put, List.setIfInBounds_toArray, List.set_cons_zero, List.set_cons_succ]
  refine wpAnyH_take (i := 43) (oi := { dst := some 101, op := Op.binOp BinOp.eql 9 (Operand.tmp 98) (Operand.tmp 100) 9, type := 4, pos := "law.go:152", after := #[{ on := 40, ground := Ground.data }, { on := 42, ground := Ground.data }, { on := 34, ground := Ground.guard }], guard := some (34, true) }) (v := ?_) rfl (by kernel_rfl) (by kernel_rfl) (by kernel_rfl) (fun _ _ _ h => h) (Or.inl ⟨by rfl, ?_⟩) (by assumption) ?_
  rotate_left
  · intro wS hSw; go_split_ands; go_simp; first | done | with_reducible rfl
  simp only [Act.put, List.setIfInBounds_toArray, List.set_cons_zero, List.set_cons_succ]
  refine wpAnyH_take (i := 44) (oi := { dst := some 102, op := Op.pick (Operand.tmp 92) (Operand.tmp 101) (Operand.const (Value.bool false)), type := 4, pos := "law.go:152", after := #[{ on := 34, ground := Ground.data }, { on := 43, ground := Ground.data }], guard := none }) (v := ?_) rfl (by kernel_rfl) (by kernel_rfl) (by kernel_rfl) (fun _ _ _ h => h) (Or.inl ⟨by rfl, ?_⟩) (by assumption) ?_
  rotate_left
  · intro wS hSw; go_split_ands; go_simp; first | done | with_reducible rfl
  simp only [Act.put, List.setIfInBounds_toArray, List.set_cons_zero, List.set_cons_succ]
  refine wpAnyH_take (i := 45) (oi := { dst := some 103, op := Op.move (Operand.tmp 102), type := 4, pos := "law.go:152", after := #[{ on := 44, ground := Ground.data }, { on := 34, ground := Ground.chain }], guard := none }) (v := ?_) rfl (by kernel_rfl) (by kernel_rfl) (by kernel_rfl) (fun _ _ _ h => h) (Or.inl ⟨by rfl, ?_⟩) (by assumption) ?_
  rotate_left
  · intro wS hSw; go_split_ands; go_simp; first | done | with_reducible rfl
  simp only [Act.put, List.setIfInBounds_toArray, List.set_cons_zero, List.set_cons_succ]
  refine wpAnyH_take (i := 46) (oi := { dst := some 104, op := Op.load 55 (Operand.tmp 5), type := 55, pos := "law.go:152", after := #[{ on := 45, ground := Ground.guard }], guard := some (45, true) }) (v := ?_) rfl (by kernel_rfl) (by kernel_rfl) (by kernel_rfl) (fun _ _ _ h => h) (Or.inl ⟨by rfl, ?_⟩) (by assumption) ?_
  rotate_left
  · intro wS hSw; go_split_ands; go_simp; first | done | with_reducible rfl
  simp only [Act.put, List.setIfInBounds_toArray, List.set_cons_zero, List.set_cons_succ]
  refine wpAnyH_take (i := 48) (oi := { dst := some 106, op := Op.move (Operand.tmp 7), type := 3, pos := "law.go:152", after := #[{ on := 45, ground := Ground.guard }], guard := some (45, true) }) (v := ?_) rfl (by kernel_rfl) (by kernel_rfl) (by kernel_rfl) (fun _ _ _ h => h) (Or.inl ⟨by rfl, ?_⟩) (by assumption) ?_
  rotate_left
  · intro wS hSw; go_split_ands; go_simp; first | done | with_reducible rfl
  simp only [Act.put, List.setIfInBounds_toArray, List.set_cons_zero, List.set_cons_succ]
  refine wpAnyH_ready (rs := [47]) (by kernel_rfl) (by simp) ?_
  refine AllReadyH.cons (o := { dst := some 105, op := Op.call { callee := Callee.value (Operand.func 51), args := #[Operand.tmp 104], argTypes := #[55] }, type := 3, pos := "law.go:152", after := #[{ on := 46, ground := Ground.data }, { on := 45, ground := Ground.chain }, { on := 45, ground := Ground.guard }], guard := some (45, true) }) rfl (fun K hK => ?_) AllReadyH.nil
  go_simp
  go_at_call 51; refine (HRK.out _ hHeld.2.2.2.2.2.2.2.2.2).mono ?_; rintro e w9 ⟨rfl, hb9⟩
  refine hK.out _ _ ?_ (fun hHeld => ?_)
  · exact HSS.out _ (hHeld.2.2.2.2.2.2.2.2.2.trans (hb9.mono hHeld.2.2.2.2.2.2.2.2.2.size))
  clear hK K
  try simp only [Act.put, List.setIfInBounds_toArray, List.set_cons_zero, List.set_cons_succ]
  refine wpAnyH_take (i := 49) (oi := { dst := some 107, op := Op.binOp BinOp.lss 3 (Operand.tmp 105) (Operand.tmp 106) 3, type := 4, pos := "law.go:152", after := #[{ on := 47, ground := Ground.data }, { on := 48, ground := Ground.data }, { on := 45, ground := Ground.guard }], guard := some (45, true) }) (v := ?_) rfl (by kernel_rfl) (by kernel_rfl) (by kernel_rfl) (fun _ _ _ h => h) (Or.inl ⟨by rfl, ?_⟩) (by assumption) ?_
  rotate_left
  · intro wS hSw; go_split_ands; go_simp; first | done | with_reducible rfl
  simp only [Act.put, List.setIfInBounds_toArray, List.set_cons_zero, List.set_cons_succ]
  refine wpAnyH_take (i := 50) (oi := { dst := some 108, op := Op.pick (Operand.tmp 103) (Operand.tmp 107) (Operand.const (Value.bool false)), type := 4, pos := "law.go:152", after := #[{ on := 45, ground := Ground.data }, { on := 49, ground := Ground.data }], guard := none }) (v := ?_) rfl (by kernel_rfl) (by kernel_rfl) (by kernel_rfl) (fun _ _ _ h => h) (Or.inl ⟨by rfl, ?_⟩) (by assumption) ?_
  rotate_left
  · intro wS hSw; go_split_ands; go_simp; first | done | with_reducible rfl
  simp only [Act.put, List.setIfInBounds_toArray, List.set_cons_zero, List.set_cons_succ]
  refine wpAnyH_ready (rs := [51]) (by kernel_rfl) (by simp) ?_
  refine AllReadyH.cons (o := { dst := some 4, op := Op.assign (Operand.tmp 108), type := 4, pos := "law.go:152", after := #[{ on := 50, ground := Ground.data }, { on := 47, ground := Ground.chain }, { on := 0, ground := Ground.phase }, { on := 1, ground := Ground.phase }, { on := 2, ground := Ground.phase }, { on := 3, ground := Ground.phase }, { on := 4, ground := Ground.phase }, { on := 5, ground := Ground.phase }, { on := 6, ground := Ground.phase }, { on := 7, ground := Ground.phase }, { on := 8, ground := Ground.phase }, { on := 9, ground := Ground.phase }, { on := 10, ground := Ground.phase }, { on := 11, ground := Ground.phase }, { on := 12, ground := Ground.phase }, { on := 13, ground := Ground.phase }, { on := 14, ground := Ground.phase }, { on := 15, ground := Ground.phase }, { on := 16, ground := Ground.phase }, { on := 17, ground := Ground.phase }, { on := 18, ground := Ground.phase }, { on := 19, ground := Ground.phase }, { on := 20, ground := Ground.phase }, { on := 21, ground := Ground.phase }, { on := 22, ground := Ground.phase }, { on := 23, ground := Ground.phase }, { on := 24, ground := Ground.phase }, { on := 25, ground := Ground.phase }, { on := 26, ground := Ground.phase }, { on := 27, ground := Ground.phase }, { on := 28, ground := Ground.phase }, { on := 29, ground := Ground.phase }, { on := 30, ground := Ground.phase }, { on := 31, ground := Ground.phase }, { on := 32, ground := Ground.phase }, { on := 33, ground := Ground.phase }, { on := 34, ground := Ground.phase }, { on := 35, ground := Ground.phase }, { on := 36, ground := Ground.phase }, { on := 37, ground := Ground.phase }, { on := 38, ground := Ground.phase }, { on := 39, ground := Ground.phase }, { on := 40, ground := Ground.phase }, { on := 41, ground := Ground.phase }, { on := 42, ground := Ground.phase }, { on := 43, ground := Ground.phase }, { on := 44, ground := Ground.phase }, { on := 45, ground := Ground.phase }, { on := 46, ground := Ground.phase }, { on := 47, ground := Ground.phase }, { on := 48, ground := Ground.phase }, { on := 49, ground := Ground.phase }, { on := 50, ground := Ground.phase }], guard := none }) rfl (fun K hK => ?_) AllReadyH.nil
  go_simp
  refine hK.out _ _ ?_ (fun hHeld => ?_)
  · exact hHeld
  clear hK K
  try simp only [Act.put, List.setIfInBounds_toArray, List.set_cons_zero, List.set_cons_succ]
  refine wpAnyH_done (by kernel_rfl) ?_ _

  go_wp2
  go_ret
  exact ⟨rfl, hw.trans (hHeld.2.2.2.2.2.2.2.2.2.mono hw.size)⟩
end Go.Proofs.Ytckeopidedoohaa
