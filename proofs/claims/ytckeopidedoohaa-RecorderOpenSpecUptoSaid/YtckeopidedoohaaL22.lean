/-
  RecorderBack walked: it answers true. Conditions: arguments of at most 1048576 values.
-/
import Derived.Test.YtckeopidedoohaaRsn
import Derived.Deep.CutBlock
import Derived.Deep.DeepCutAuto
namespace Go.Proofs.Ytckeopidedoohaa
open Go.RowKit
variable {n₀ : Nat}
attribute [local go_sem] Oper.semAt_some

/-- The law answers true, and leaves alone what lay. -/
def YesB (w : World) (e : Ending) (w' : World) : Prop := e = .returned (.bool true) ∧ Below w.heap.size w w'
theorem data_val {j : Jn} (h : (rData j).2 = 0) : JVal j ∧ (rdR j.recs).2 = 0 ∧ rData j = rdR j.recs := by
  by_cases hv : JVal j
  · exact ⟨hv, by rw [← rData_ok hv]; exact h, rData_ok hv⟩
  · rw [rData_no hv] at h; cases h
theorem back_no {j : Jn} {l : List Int} (h : (rWrite j l).2 ≠ 0) : (rWrite j l).1 = jn0 ∧ ((rData j).2 = 0 ∨ (rData j).2 = (rWrite j l).2) := by
  by_cases hd : (rData j).2 = 0
  · by_cases hb : OkB l
    · obtain ⟨hv, -, -⟩ := data_val hd
      by_cases hr : j.many - usedN j.recs < secN (encB l)
      · rw [rWrite_ok hd hb, gApp_lim hv hr]; exact ⟨rfl, .inl hd⟩
      · rw [rWrite_ok hd hb, gApp_ok hv hr] at h; exact absurd rfl h
    · rw [rWrite_bad hd hb]; exact ⟨rfl, .inl hd⟩
  · rw [rWrite_no hd]; exact ⟨rfl, .inr rfl⟩
theorem write_ok {j : Jn} {l : List Int} (h : (rWrite j l).2 = 0) : (rData j).2 = 0 ∧ OkB l ∧ JVal { j with recs := j.recs ++ [encB l] } ∧ rWrite j l = ({ j with recs := j.recs ++ [encB l] }, 0) ∧ rData { j with recs := j.recs ++ [encB l] } = ((rData j).1 ++ l, 0) := by
  by_cases hd : (rData j).2 = 0
  · by_cases hb : OkB l
    · obtain ⟨hv, hr, he⟩ := data_val hd
      by_cases hq : j.many - usedN j.recs < secN (encB l)
      · rw [rWrite_ok hd hb, gApp_lim hv hq] at h; cases h
      · have hv2 : JVal { j with recs := j.recs ++ [encB l] } := by
          obtain ⟨v1, v2, v3, v4, v5⟩ := hv
          refine ⟨v1, v2, v3, by simp only [List.length_append, List.length_singleton]; omega, ?_⟩
          rw [usedN_snoc]
          dsimp only
          omega
        refine ⟨hd, hb, hv2, by rw [rWrite_ok hd hb, gApp_ok hv hq], ?_⟩
        have hall := rdR_all hr
        obtain ⟨h1, h2⟩ := rdR_snoc hall (right_enc hb.1 hb.2.1)
        rw [rData_ok hv2, he, rdR_ok hall]
        dsimp only
        rw [rdR_ok h1, h2, smpL_enc hb.2.2]
    · rw [rWrite_bad hd hb] at h; cases h
  · rw [rWrite_no hd] at h; exact absurd h hd
theorem nums_src {w w' : World} {A : Option Addr} {xs : List Int} (h : NumsAt n₀ w A xs) (hb : Below w.heap.size w w') : 0 < xs.length → ∃ ad, A = some ad ∧ ∀ j u, (icells xs)[j]? = some u → w'.cell? (ad.add j) = some u := fun h0 => by
  obtain ⟨b, o, rfl, hl, hc⟩ := h h0
  refine ⟨_, rfl, fun j u hu => ?_⟩
  have hj : j < xs.length := by
    have := (List.getElem?_eq_some_iff.1 hu).1
    rwa [icells_len] at this
  rw [icells_get xs j hj] at hu
  rw [addr_at, (hb.cell (p := ⟨b, o + j, none⟩) hl.lt).trans (hc j hj)]
  exact hu
theorem rdR_len {rs : List Bs} (h : ∀ b ∈ rs, b.length ≤ 4000) : (rdR rs).1.length ≤ rs.length * 1000 := by
  by_cases ha : rs.all rRight = true
  · rw [rdR_ok ha]
    dsimp only
    clear ha
    induction rs with
    | nil => simp
    | cons b rs ih =>
      have h1 := ih (fun x hx => h x (List.mem_cons_of_mem _ hx))
      have h2 := h b List.mem_cons_self
      rw [List.flatMap_cons, List.length_append, smpL_len, List.length_cons]
      omega
  · rw [rdR_no ha]
    simp
theorem rData_len {j : Jn} (h : ∀ b ∈ j.recs, b.length ≤ 4000) (hl : j.recs.length ≤ 4000) : (rData j).1.length ≤ 4000000 := by
  by_cases hv : JVal j
  · rw [rData_ok hv]
    have := rdR_len h
    omega
  · rw [rData_no hv]
    simp

set_option maxRecDepth 20000 in
set_option maxHeartbeats 8000000 in
theorem recorderBack_t (RA A : Option Addr) (rc c : Nat) (j : Jn) (l : List Int) (w : World) (hn : n₀ ≤ w.heap.size) (hrl : j.recs.length ≤ 1048576) (hrb : ∀ x ∈ j.recs, x.length ≤ 1048576) (hll : l.length ≤ 1048576) (hrc : j.recs.length ≤ rc) (r0 : RowsAt n₀ w RA j.recs) (ni : NumsAt n₀ w A l) :
    Calls Try.prog 22 #[.agg #[.slice RA j.recs.length rc, .int .i64 j.many, .int .i64 j.sync], .slice A l.length c] w (YesB w) := by
  have HRB := Lib.hid hrb
  clear hrb
  obtain ⟨nn, hnn⟩ : ∃ n, n = j.recs.length := ⟨_, rfl⟩
  have HNN := Lib.hid hnn
  rw [← hnn] at hrl hrc ⊢
  clear hnn
  go_enter Try.func22, Try.ntmps22
  go_upto_region 1 with (fail)
  obtain ⟨W1, hW1⟩ : ∃ W, W = w.alloc (.cells #[.slice RA nn rc, .int .i64 j.many, .int .i64 j.sync] 55) := ⟨_, rfl⟩
  rw [← hW1]
  have hb : Below w.heap.size w W1 := by rw [hW1]; exact (Below.refl _ _).alloc (Nat.le_refl _) _
  have x2 : Blk W1 w.heap.size 55 #[.slice RA nn rc, .int .i64 j.many, .int .i64 j.sync] := by rw [hW1]; exact Blk.new w 55 _
  clear hW1
  replace r0 := r0.below hb
  replace ni := ni.below hb
  have hw := hb
  clear hb
  go_wp2_with (fail)
  have K : Calls Try.prog 57 #[] W1 (fun e w' => e = .returned (.bool true) ∧ Below W1.heap.size W1 w') := rsane_t W1
  go_at_call 57
  refine K.mono ?_
  rintro e w2 ⟨rfl, hb⟩
  clear K
  replace r0 := r0.below hb
  replace ni := ni.below hb
  replace x2 := x2.below hb x2.lt
  replace hw := hw.trans (hb.mono hw.size)
  clear hb
  have x2c0 := x2.cell 0
  have x2c1 := x2.cell 1
  have x2c2 := x2.cell 2
  simp only [List.getElem?_toArray, List.getElem?_cons_zero, List.getElem?_cons_succ] at x2c0 x2c1 x2c2
  have x2l := x2.lt
  go_wp2_with (fail)
  obtain ⟨y, hy⟩ : ∃ y, y = fewB 0 0 j.recs := ⟨_, rfl⟩
  have HY := Lib.hid hy
  clear hy
  have K : Calls Try.prog 63 #[.agg #[.slice none 0 0, .slice none 0 0, .int .i64 0, .bool false], .slice RA nn rc] w2 (fun e w' => e = .returned (.bool y) ∧ Below w2.heap.size w2 w') := by rw [HY.out, HNN.out]; exact few63_t none none RA 0 0 rc 0 0 0 false j.recs w2 (by decide) (by decide) (by rw [← HNN.out]; exact hrl) HRB.out r0
  go_at_call 63
  refine K.mono ?_
  rintro e w3 ⟨rfl, hb⟩
  clear K
  replace r0 := r0.below hb
  replace ni := ni.below hb
  replace x2 := x2.below hb x2.lt
  replace hw := hw.trans (hb.mono hw.size)
  clear x2c0 x2c1 x2c2 x2l
  clear hb
  cases y
  case false =>
    go_wp2
    go_ret
    exact ⟨rfl, hw⟩
  have hsm := (fewB_sm HY.out.symm).2.2.2
  have hs4 := (fewB_sm HY.out.symm).2.2.1
  have hjl := sumB_len j.recs
  have hnn4 : nn ≤ 4000 := by rw [HNN.out]; omega
  have hb4 : ∀ b ∈ j.recs, b.length ≤ 4000 := fun b hb => Nat.le_trans (sumB_mem hb) hs4
  have HB4 := Lib.hid hb4
  have HSM := Lib.hid hsm
  clear hsm hs4 hjl hb4
  by_cases k1 : 100 < l.length
  case pos =>
    have d1 : decide (100 < (l.length : Int)) = true := decide_eq_true (by omega)
    have d1n : decide (100 < l.length) = true := decide_eq_true k1
    go_wp2
    go_ret
    exact ⟨rfl, hw⟩
  have d1 : decide (100 < (l.length : Int)) = false := decide_eq_false (by omega)
  have d1n : decide (100 < l.length) = false := decide_eq_false k1
  obtain ⟨a, ha⟩ : ∃ a, a = (rData j).1 := ⟨_, rfl⟩
  obtain ⟨e0, he0⟩ : ∃ a, a = (rData j).2 := ⟨_, rfl⟩
  have HA := Lib.hid ha
  have HE0 := Lib.hid he0
  have hal : a.length ≤ 4000000 := by rw [ha]; exact rData_len HB4.out (by rw [← HNN.out]; exact hnn4)
  clear ha he0
  have x2c0 := x2.cell 0
  have x2c1 := x2.cell 1
  have x2c2 := x2.cell 2
  simp only [List.getElem?_toArray, List.getElem?_cons_zero, List.getElem?_cons_succ] at x2c0 x2c1 x2c2
  have x2l := x2.lt
  go_wp2_with (fail)
  have K : Calls Try.prog 62 #[.agg #[.slice RA nn rc, .int .i64 j.many, .int .i64 j.sync]] w3 (fun e w' => ∃ A c, e = .returned (.tuple #[.slice A a.length c, .int .i64 e0]) ∧ a.length ≤ c ∧ NumsAt n₀ w' A a ∧ Below w3.heap.size w3 w') := (by have h := data_t RA rc j w3 (Nat.le_trans hn hw.size) HSM.out r0; rw [← HNN.out] at h; unfold NsIs at h; rw [← HA.out, ← HE0.out] at h; exact h)
  go_at_call 62
  refine K.mono ?_
  rintro e w4 ⟨V5, v5, rfl, hv5, n5, hb⟩
  clear K
  replace r0 := r0.below hb
  replace ni := ni.below hb
  replace x2 := x2.below hb x2.lt
  replace hw := hw.trans (hb.mono hw.size)
  clear x2c0 x2c1 x2c2 x2l
  clear hb
  clear d1 d1n
  have x2c0 := x2.cell 0
  have x2c1 := x2.cell 1
  have x2c2 := x2.cell 2
  simp only [List.getElem?_toArray, List.getElem?_cons_zero, List.getElem?_cons_succ] at x2c0 x2c1 x2c2
  have x2l := x2.lt
  go_wp2_with (fail)
  by_cases hf : (rWrite j l).2 = 0
  case neg =>
    obtain ⟨hz, hor⟩ := back_no hf
    obtain ⟨f, hf2⟩ : ∃ f, f = (rWrite j l).2 := ⟨_, rfl⟩
    rw [← HE0.out, ← hf2] at hor
    rw [← hf2] at hf
    have HWR : Hid (rWrite j l = (jn0, f)) := Lib.hid (by rw [hf2, ← hz])
    clear hz hf2
    have K : Calls Try.prog 59 #[.agg #[.slice RA nn rc, .int .i64 j.many, .int .i64 j.sync], .slice A l.length c] w4 (fun e w' => ∃ A c, e = .returned (.tuple #[.agg #[.slice A 0 c, .int .i64 0, .int .i64 0], .int .i64 f]) ∧ Below w4.heap.size w4 w') := (by have h := rwriteR_t RA A rc c j l w4 (Nat.le_trans hn hw.size) HSM.out (by rw [← HNN.out]; exact hrc) (by omega) r0 ni; rw [← HNN.out, HWR.out] at h; exact h.mono fun e w9 hx => by obtain ⟨A, c, h1, -, -, h4⟩ := jn_out (rs := []) (m := 0) (s := 0) (e := f) hx; exact ⟨A, c, h1, h4⟩)
    go_at_call 59
    refine K.mono ?_
    rintro e w5 ⟨A7, c7, rfl, hb⟩
    clear K
    replace r0 := r0.below hb
    replace ni := ni.below hb
    replace n5 := n5.below hb
    replace x2 := x2.below hb x2.lt
    replace hw := hw.trans (hb.mono hw.size)
    clear x2c0 x2c1 x2c2 x2l
    clear hb
    go_upto_region 7 with (fail)
    obtain ⟨W6, hW6⟩ : ∃ W, W = w5.alloc (.cells #[.slice A7 0 c7, .int .i64 0, .int .i64 0] 55) := ⟨_, rfl⟩
    rw [← hW6]
    have hb : Below w5.heap.size w5 W6 := by rw [hW6]; exact (Below.refl _ _).alloc (Nat.le_refl _) _
    have x7 : Blk W6 w5.heap.size 55 #[.slice A7 0 c7, .int .i64 0, .int .i64 0] := by rw [hW6]; exact Blk.new w5 55 _
    clear hW6
    replace r0 := r0.below hb
    replace ni := ni.below hb
    replace n5 := n5.below hb
    replace x2 := x2.below hb x2.lt
    replace hw := hw.trans (hb.mono hw.size)
    clear hb
    have x7c0 := x7.cell 0
    have x7c1 := x7.cell 1
    have x7c2 := x7.cell 2
    simp only [List.getElem?_toArray, List.getElem?_cons_zero, List.getElem?_cons_succ] at x7c0 x7c1 x7c2
    have x7l := x7.lt
    have df : (f != 0) = true := bne_iff_ne.2 hf
    by_cases k2 : e0 = 0
    case pos =>
      have de : (e0 == 0) = true := by rw [k2]; rfl
      clear hor hf k2
      go_wp2
      go_ret
      exact ⟨rfl, hw⟩
    have de : (e0 == 0) = false := beq_eq_false_iff_ne.2 k2
    have de2 : (e0 == f) = true := by rw [hor.resolve_left k2]; simp
    clear hor hf k2
    go_wp2
    go_ret
    exact ⟨rfl, hw⟩
  obtain ⟨he, hb, hv2, hwr, hd2⟩ := write_ok hf
  rw [← HE0.out] at he
  have he2 : e0 = 0 := he
  subst he2
  rw [← HA.out] at hd2
  have HOK := Lib.hid hb
  have h1l : 1 ≤ l.length := hb.1
  have h16 : l.length ≤ 16 := hb.2.1
  have HWR := Lib.hid hwr
  have HD2 := Lib.hid hd2
  have hsm2 : Sm (j.recs ++ [encB l]) := ⟨by rw [List.length_append, ← HNN.out]; simp; omega, fun x hx => by
    rcases List.mem_append.1 hx with hx | hx
    · exact HSM.out.2 x hx
    · rw [List.mem_singleton.1 hx, encB_len]; omega⟩
  have HSM2 := Lib.hid hsm2
  clear hf he hb hv2 hwr hd2 hsm2
  have K : Calls Try.prog 59 #[.agg #[.slice RA nn rc, .int .i64 j.many, .int .i64 j.sync], .slice A l.length c] w4 (fun e w' => ∃ A c, e = .returned (.tuple #[.agg #[.slice A (nn + 1) c, .int .i64 j.many, .int .i64 j.sync], .int .i64 0]) ∧ nn + 1 ≤ c ∧ RowsAt n₀ w' A (j.recs ++ [encB l]) ∧ Below w4.heap.size w4 w') := (by have h := rwriteR_t RA A rc c j l w4 (Nat.le_trans hn hw.size) HSM.out (by rw [← HNN.out]; exact hrc) (by omega) r0 ni; rw [← HNN.out, HWR.out] at h; have hl : (j.recs ++ [encB l]).length = nn + 1 := (by rw [List.length_append, ← HNN.out]; rfl); exact h.mono fun e w9 hx => by obtain ⟨A, c, h1, h2, h3, h4⟩ := jn_out (rs := j.recs ++ [encB l]) (m := j.many) (s := j.sync) (e := 0) hx; rw [hl] at h1 h2; exact ⟨A, c, h1, h2, h3, h4⟩)
  go_at_call 59
  refine K.mono ?_
  rintro e w5 ⟨A7, c7, rfl, hc7, r7, hb⟩
  clear K
  replace r0 := r0.below hb
  replace ni := ni.below hb
  replace n5 := n5.below hb
  replace x2 := x2.below hb x2.lt
  replace hw := hw.trans (hb.mono hw.size)
  clear x2c0 x2c1 x2c2 x2l
  clear hb
  go_upto_region 7 with (fail)
  obtain ⟨W6, hW6⟩ : ∃ W, W = w5.alloc (.cells #[.slice A7 (nn + 1) c7, .int .i64 j.many, .int .i64 j.sync] 55) := ⟨_, rfl⟩
  rw [← hW6]
  have hb : Below w5.heap.size w5 W6 := by rw [hW6]; exact (Below.refl _ _).alloc (Nat.le_refl _) _
  have x7 : Blk W6 w5.heap.size 55 #[.slice A7 (nn + 1) c7, .int .i64 j.many, .int .i64 j.sync] := by rw [hW6]; exact Blk.new w5 55 _
  clear hW6
  replace r0 := r0.below hb
  replace ni := ni.below hb
  replace n5 := n5.below hb
  replace r7 := r7.below hb
  replace x2 := x2.below hb x2.lt
  replace hw := hw.trans (hb.mono hw.size)
  clear hb
  have x7c0 := x7.cell 0
  have x7c1 := x7.cell 1
  have x7c2 := x7.cell 2
  simp only [List.getElem?_toArray, List.getElem?_cons_zero, List.getElem?_cons_succ] at x7c0 x7c1 x7c2
  have x7l := x7.lt
  go_wp2_with (fail)
  have K : Calls Try.prog 62 #[.agg #[.slice A7 (nn + 1) c7, .int .i64 j.many, .int .i64 j.sync]] W6 (fun e w' => ∃ A c, e = .returned (.tuple #[.slice A (a ++ l).length c, .int .i64 0]) ∧ (a ++ l).length ≤ c ∧ NumsAt n₀ w' A (a ++ l) ∧ Below W6.heap.size W6 w') := (by have h := data_t A7 c7 { j with recs := j.recs ++ [encB l] } W6 (Nat.le_trans hn hw.size) HSM2.out r7; rw [HD2.out] at h; have hl : (j.recs ++ [encB l]).length = nn + 1 := (by rw [List.length_append, ← HNN.out]; rfl); dsimp only at h; rw [hl] at h; exact h)
  go_at_call 62
  refine K.mono ?_
  rintro e w7 ⟨V9, v9, rfl, hv9, n9, hb⟩
  clear K
  replace r0 := r0.below hb
  replace ni := ni.below hb
  replace n5 := n5.below hb
  replace r7 := r7.below hb
  replace x2 := x2.below hb x2.lt
  replace x7 := x7.below hb x7.lt
  replace hw := hw.trans (hb.mono hw.size)
  clear x7c0 x7c1 x7c2 x7l
  clear hb
  have x7c0 := x7.cell 0
  have x7c1 := x7.cell 1
  have x7c2 := x7.cell 2
  simp only [List.getElem?_toArray, List.getElem?_cons_zero, List.getElem?_cons_succ] at x7c0 x7c1 x7c2
  have x7l := x7.lt
  have x2c0 := x2.cell 0
  have x2c1 := x2.cell 1
  have x2c2 := x2.cell 2
  simp only [List.getElem?_toArray, List.getElem?_cons_zero, List.getElem?_cons_succ] at x2c0 x2c1 x2c2
  have x2l := x2.lt
  obtain ⟨i0, hi0, hz0, hz1, hz2⟩ := info_parts info3r
  have ow := World.ownsRow_lit (base := w7.heap.size) (e := 3) (size := 1) w7 #[] 0 (Nat.le_refl _) (by simp [maxLen]) rfl
  have hal2 : Below w7.heap.size w7 (w7.alloc (.cells #[] 3)) := (Below.refl _ _).alloc (Nat.le_refl _) _
  have hsm : ∀ W A c, Below w7.heap.size w7 W → NumsAt n₀ W A (a ++ l) → Calls Try.prog 61 #[.slice V9 (a ++ l).length v9, .slice A (a ++ l).length c] W (fun e w' => e = .returned (.bool true) ∧ Below W.heap.size W w') := fun W A c hW hA => by
    have h := sameI_t (n₀ := n₀) V9 A v9 c (a ++ l) (a ++ l) W (by rw [List.length_append]; omega) (by rw [List.length_append]; omega) (n9.below hW) hA
    simpa using h
  have HSR := Lib.hid hsm
  clear hsm
  have hap : (a ++ l).length = a.length + l.length := List.length_append
  rw [hap] at HSR
  have d1 : decide (1 ≤ (l.length : Int)) = true := decide_eq_true (by omega)
  have d1n : decide (1 ≤ l.length) = true := decide_eq_true h1l
  have d2 : decide ((l.length : Int) ≤ 16) = true := decide_eq_true (by omega)
  have d2n : decide (l.length ≤ 16) = true := decide_eq_true h16
  obtain ⟨na, hna⟩ : ∃ n, n = a.length := ⟨_, rfl⟩
  obtain ⟨nl, hnl⟩ : ∃ n, n = l.length := ⟨_, rfl⟩
  have hsa := nums_src (w' := w7) n5 (Below.refl _ _)
  have HNA := Lib.hid hna
  have HNL := Lib.hid hnl
  have HN5 := Lib.hid n5
  have HNI := Lib.hid ni
  rw [← hna, ← hnl] at HSR
  rw [hap, ← hna, ← hnl]
  rw [← hna] at hal
  rw [← hnl] at h1l h16 k1 d1 d1n d2 d2n
  have hx7 := x7l
  have hx2 := x2l
  have HAL2 := Lib.hid hal2
  have HOW := Lib.hid ow
  clear hna hnl hap hsa hal2 ow hll n9 n5 ni
  go_wp2_with (first
    | (at_builtin; refine wpList_append_any (by rfl) (.tmp 72) (.tmp 73) 67 rfl w7.heap.size 3 i0 (.int .i64 0) 1 8 Try.underlying67 hi0 hz0 hz1 hz2 rfl (by decide) _ 0 [] rfl HOW.out V5 na v5 (icells a) rfl (by rw [icells_len, ← HNA.out, Nat.mul_one]) (fun h => nums_src HN5.out HAL2.out (by rw [← HNA.out]; exact h)) (icells_one a) (by simp [maxLen]; omega) (by omega) (by simp) ?_; intro v6 w6 hown6 hgrow6; simp only [Nat.zero_add, List.nil_append] at hown6; obtain ⟨A6, c6, rfl, hc6⟩ := own_slice hown6; have b6 := HAL2.out.grown hgrow6 (by simp) (own_base HOW.out))
    | (at_builtin; refine wpList_append_any (by rfl) (.tmp 74) (.tmp 75) 67 rfl w7.heap.size 3 i0 (.int .i64 0) 1 8 Try.underlying67 hi0 hz0 hz1 hz2 rfl (by decide) _ na _ rfl hown6 A nl c (icells l) rfl (by rw [icells_len, ← HNL.out, Nat.mul_one]) (fun h => nums_src HNI.out b6 (by rw [← HNL.out]; exact h)) (icells_one l) (by simp [maxLen]; omega) (by omega) b6.size ?_; intro v8 w8 hown8 hgrow8; rw [← icells_append] at hown8; obtain ⟨A8, c8, rfl, hc8⟩ := own_slice hown8; have b8 := b6.grown hgrow8 b6.size (own_base hown6); have n8 := own_nums (n₀ := n₀) hown8 (by rw [List.length_append, ← HNA.out, ← HNL.out]))
    | (go_at_call 61; refine (HSR.out _ A8 c8 b8 n8).mono ?_; rintro e w9 ⟨rfl, hb9⟩; have b9 := b8.trans (hb9.mono b8.size); have p72 := (b9.cell (p := ⟨w5.heap.size, 2, none⟩) x7l).trans x7c2; have p22 := (b9.cell (p := ⟨w.heap.size, 2, none⟩) x2l).trans x2c2))
  go_ret
  exact ⟨rfl, hw.trans (b9.mono hw.size)⟩
end Go.Proofs.Ytckeopidedoohaa
