/-
  What the reference gives as samples of records and of a journal. Conditions: the arguments lie as plain data.
-/
import Derived.Test.YtckeopidedoohaaRsa
import Derived.Test.YtckeopidedoohaaJra
import Derived.Deep.CutBlock
import Derived.Deep.DeepCutAuto
namespace Go.Proofs.Ytckeopidedoohaa
open Go.RowKit
variable {n₀ : Nat}
attribute [local go_sem] Oper.semAt_some

def smpO (b : Bs) : List Int := if rRight b = true then smpL b else []
theorem smpO_no {b : Bs} (h : rRight b = false) : smpO b = [] := by unfold smpO; rw [h]; rfl
theorem smpO_yes {b : Bs} (h : rRight b = true) : smpO b = smpL b := by unfold smpO; rw [if_pos h]
set_option maxRecDepth 20000 in
set_option maxHeartbeats 4000000 in
theorem samplesR_t (A : Option Addr) (c : Nat) (b : Bs) (w : World) (hl : b.length ≤ 140737488355328) (hc : b.length ≤ c) (h : BsAt n₀ w A b) : Calls Try.prog 114 #[.slice A b.length c] w fun e w' => ∃ V cv, e = .returned (.tuple #[.slice V (smpO b).length cv, .bool (rRight b)]) ∧ NumsAt n₀ w' V (smpO b) ∧ Below w.heap.size w w' := by
  have HB := Lib.hid h
  clear h
  by_cases hr : rRight b = true
  case neg =>
    have hr2 : rRight b = false := by simpa using hr
    have HR := Lib.hid hr2
    have hno : ¬ (0 < b.length ∧ b.length % 4 = 0 ∧ b.length ≤ 64) := of_decide_eq_false hr2
    obtain ⟨n, hn⟩ : ∃ n, n = b.length := ⟨_, rfl⟩
    have ret : ∀ W, Below w.heap.size w W → (∃ V cv, Ending.returned (Value.tuple #[.slice none 0 0, .bool false]) = .returned (.tuple #[.slice V (smpO b).length cv, .bool (rRight b)]) ∧ NumsAt n₀ W V (smpO b) ∧ Below w.heap.size w W) := fun W hW => by
      rw [smpO_no HR.out, HR.out]
      exact ⟨none, 0, rfl, NumsAt.nil _ _, hW⟩
    have RET := Lib.hid ret
    rw [← hn] at hl hc hno ⊢
    clear hn hr hr2 ret
    by_cases k1 : n = 0
    · have d1 : ((n : Int) == 0) = true := by rw [k1]; rfl
      have d1n : (n == 0) = true := by rw [k1]; rfl
      clear k1 hno
      go_enter Try.func114, Try.ntmps114
      go_wp2
      refine bodyPost_ret (v := .tuple #[.slice none 0 0, .bool false]) (by simp [results, Try.results114, go_sem]) rfl ?_
      exact RET.out _ (Below.refl _ _)
    have d1 : ((n : Int) == 0) = false := beq_eq_false_iff_ne.2 (by omega)
    have d1n : (n == 0) = false := beq_eq_false_iff_ne.2 k1
    by_cases k2 : n % 4 = 0
    · have d2 : ((n : Int) % 4 != 0) = false := by rw [bne_eq_false_iff_eq]; omega
      have d2t : ((n : Int).tmod 4 != 0) = false := by rw [bne_eq_false_iff_eq, Int.tmod_eq_emod_of_nonneg (by omega)]; omega
      have d2n : (n % 4 != 0) = false := by rw [bne_eq_false_iff_eq]; exact k2
      have k3 : 64 < n := by omega
      have d3 : decide (64 < (n : Int)) = true := decide_eq_true (by omega)
      have d3n : decide (64 < n) = true := decide_eq_true k3
      clear k1 k2 hno
      go_enter Try.func114, Try.ntmps114
      go_wp2
      refine bodyPost_ret (v := .tuple #[.slice none 0 0, .bool false]) (by simp [results, Try.results114, go_sem]) rfl ?_
      exact RET.out _ (Below.refl _ _)
    · have d2 : ((n : Int) % 4 != 0) = true := by rw [bne_iff_ne]; omega
      have d2t : ((n : Int).tmod 4 != 0) = true := by rw [bne_iff_ne, Int.tmod_eq_emod_of_nonneg (by omega)]; omega
      have d2n : (n % 4 != 0) = true := by rw [bne_iff_ne]; exact k2
      clear k1 k2 hno
      go_enter Try.func114, Try.ntmps114
      go_wp2
      refine bodyPost_ret (v := .tuple #[.slice none 0 0, .bool false]) (by simp [results, Try.results114, go_sem]) rfl ?_
      exact RET.out _ (Below.refl _ _)
  obtain ⟨h1, h2, h3⟩ := of_decide_eq_true hr
  have HSL := Lib.hid (smpL_len b)
  rw [smpO_yes hr, hr]
  obtain ⟨bb, o, rfl, hlb, hcell⟩ := HB.out h1
  have HC := Lib.hid hcell
  have lbb := hlb.lt
  obtain ⟨i0, hi0, hz0, hz1, hz2⟩ := info_parts info3r
  obtain ⟨n, hn⟩ : ∃ n, n = b.length := ⟨_, rfl⟩
  have HN := Lib.hid hn
  rw [← hn] at hl hc h1 h2 h3 ⊢
  clear hcell hlb hr hn
  have d1 : ((n : Int) == 0) = false := beq_eq_false_iff_ne.2 (by omega)
  have d1n : (n == 0) = false := beq_eq_false_iff_ne.2 (by omega)
  have d2 : ((n : Int) % 4 != 0) = false := by rw [bne_eq_false_iff_eq]; omega
  have d2t : ((n : Int).tmod 4 != 0) = false := by rw [bne_eq_false_iff_eq, Int.tmod_eq_emod_of_nonneg (by omega)]; omega
  have d2n : (n % 4 != 0) = false := by rw [bne_eq_false_iff_eq]; exact h2
  have d3 : decide (64 < (n : Int)) = false := decide_eq_false (by omega)
  have d3n : decide (64 < n) = false := decide_eq_false (by omega)
  have H2 := Lib.hid h2
  have n1 : ¬ n = 0 := by omega
  clear h2
  go_enter Try.func114, Try.ntmps114
  go_wp2_with (fail)
  go_loopw [4, 5] (fun v4 v5 wr => ∃ k : Nat, 4 * k ≤ n ∧ v5 = .int .i64 (4 * k : Nat) ∧ wr.ownsRow w.heap.size 3 1 v4 k (icells ((smpL b).take k)) ∧ Below w.heap.size w wr) (fun _ v5 _ => n - (intOf v5).toNat)
  case atStart => exact ⟨0, by omega, rfl, World.ownsRow_lit (base := w.heap.size) (e := 3) (size := 1) w #[] 0 (Nat.le_refl _) (by simp [maxLen]) rfl, (Below.refl _ _).alloc (Nat.le_refl _) _⟩
  case round =>
    clear d1 d1n d2 d2t d2n d3 d3n
    obtain ⟨k, hk, rfl, ho, hb⟩ := hrel
    obtain ⟨q, hq⟩ : ∃ q, q = 4 * k := ⟨_, rfl⟩
    rw [← hq] at hk ⊢
    have HQ := Lib.hid hq
    clear hq
    by_cases hlt : q < n
    case neg =>
      have hkl : k = (smpL b).length := by rw [HSL.out, ← HN.out]; have := HQ.out; have := H2.out; omega
      have ho2 : wr.ownsRow w.heap.size 3 1 u4 (smpL b).length (icells (smpL b)) := by rw [hkl, List.take_length] at ho; exact ho
      obtain ⟨A9, c9, rfl, hc9⟩ := own_slice ho2
      have dl : decide ((q : Int) < (n : Int)) = false := decide_eq_false (by omega)
      have dln : decide (q < n) = false := decide_eq_false hlt
      have HO := Lib.hid ho2
      clear ho ho2 hkl
      go_wp2
      refine bodyPost_ret (v := .tuple #[.slice A9 (smpL b).length c9, .bool true]) (by simp [results, Try.results114, go_sem]) rfl ?_
      exact ⟨A9, c9, rfl, own_nums HO.out rfl, hb⟩
    have hq3 : q + 3 < b.length := by rw [← HN.out]; have := HQ.out; have := H2.out; omega
    have cells : ∀ j, j < b.length → wr.cell? ⟨bb, o + j, none⟩ = some (u8v (b.getD j 0)) := fun j hj => (hb.cell (p := ⟨bb, o + j, none⟩) lbb).trans (HC.out j hj)
    have z0 := cells q (by omega)
    have z1 := cells (q + 1) (by omega)
    have z2 := cells (q + 2) (by omega)
    have z3 := cells (q + 3) (by omega)
    rw [← Nat.add_assoc] at z1 z2 z3
    have K := sampleR_t bb (o + q) (c - q) (b.getD q 0) (b.getD (q + 1) 0) (b.getD (q + 2) 0) (b.getD (q + 3) 0) wr z0 z1 z2 z3
    have hgd := smpL_get b k (by have := HQ.out; omega)
    rw [← HQ.out] at hgd
    obtain ⟨v, hv⟩ : ∃ v, v = (smpL b).getD k 0 := ⟨_, rfl⟩
    rw [← hgd, ← hv] at K
    have hts := take_smp (l := smpL b) (k := k) (by rw [HSL.out, ← HN.out]; have := HQ.out; have := H2.out; omega)
    rw [← hv] at hts
    have HTS := Lib.hid hts
    have HK := Lib.hid K
    have q0 : (0 : Int) ≤ (q : Int) := by omega
    have q4' : q + 4 ≤ n := by have := HN.out; omega
    have i4 : IntKind.i64.wrap ((q : Int) + 4) = (q : Int) + 4 := IntWalk.i64_in _ (by omega)
    have n2 : (q : Int) ≤ (q : Int) + 4 := by omega
    have n3 : (q : Int) + 4 ≤ (c : Int) := by omega
    have n4 : ¬ c = q := by omega
    have nq : ((q : Int) + 4).toNat = q + 4 := by omega
    have dl : decide ((q : Int) < (n : Int)) = true := decide_eq_true (by omega)
    have dln : decide (q < n) = true := decide_eq_true hlt
    have hbs := hb.size
    have hkn : k ≤ 64 := by have := HQ.out; omega
    have HO := Lib.hid ho
    have HBW := Lib.hid hb
    clear cells z0 z1 z2 z3 K hgd hv hts hq3 ho hb
    go_wp2_with (first | (go_at_call 120; refine HK.out.mono ?_; rintro e w5 ⟨rfl, hw5⟩; have hw5 := hw5.symm; subst hw5) | (at_builtin; refine wpList_append_own _ rfl (.tmp 27) (.tmp 34) 67 rfl w.heap.size 3 i0 (.int .i64 0) 1 8 Try.underlying67 hi0 hz0 hz1 hz2 rfl (by decide) u4 k (icells ((smpL b).take k)) rfl (HO.out.alloc _) ⟨wr.heap.size, 0, none⟩ 1 1 [.int .i64 v] rfl rfl (cell_new1 wr _ _) (by simp [Value.oneCell']) (by simp [maxLen]; omega) (by omega) (by simp <;> omega) ?_; intro v7 w7 hown7 hgrow7 _))
    have b7 : Below w.heap.size w w7 := (HBW.out.alloc hbs (.cells #[.int .i64 v] 3)).grown hgrow7 (by simp <;> omega) (own_base HO.out)
    have e8 : icells ((smpL b).take k) ++ [.int .i64 v] = icells ((smpL b).take (k + 1)) := by rw [HTS.out, icells_append]; rfl
    rw [e8] at hown7
    go_roundw
    case rel => exact ⟨k + 1, by have := HQ.out; omega, by have := HQ.out; go_num, hown7, b7⟩
    case measure => simp [intOf]; omega
/-- The samples of records as the reference gives them. -/
def okRd (rs : List Bs) : Bool := rs.all rRight
set_option maxRecDepth 20000 in
set_option maxHeartbeats 4000000 in
theorem recsR_t (RA : Option Addr) (rc : Nat) (rs : List Bs) (w : World) (hs : Sm rs) (h : RowsAt n₀ w RA rs) : Calls Try.prog 96 #[.slice RA rs.length rc] w fun e w' => ∃ V cv, e = .returned (.tuple #[.slice V (rdR rs).1.length cv, .bool (okRd rs)]) ∧ NumsAt n₀ w' V (rdR rs).1 ∧ Below w.heap.size w w' := by
  have HS := Lib.hid hs
  have HH := Lib.hid h
  have hrl := hs.1
  clear hs h
  obtain ⟨i0, hi0, hz0, hz1, hz2⟩ := info_parts info3r
  go_enter Try.func96, Try.ntmps96
  go_wp2_with (fail)
  go_loopw [4, 5] (fun v4 v5 wr => ∃ (i na : Nat) (acc : List Int), i ≤ rs.length ∧ v5 = .int .i64 i ∧ Hid (acc = (rs.take i).flatMap smpL) ∧ na ≤ 16 * i ∧ na = acc.length ∧ Hid ((rs.take i).all rRight = true) ∧ wr.ownsRow w.heap.size 3 1 v4 na (icells acc) ∧ Below w.heap.size w wr) (fun _ v5 _ => rs.length - (intOf v5).toNat)
  case atStart => exact ⟨0, 0, [], by omega, rfl, Lib.hid rfl, by omega, rfl, Lib.hid rfl, World.ownsRow_lit (base := w.heap.size) (e := 3) (size := 1) w #[] 0 (Nat.le_refl _) (by simp [maxLen]) rfl, (Below.refl _ _).alloc (Nat.le_refl _) _⟩
  case round =>
    obtain ⟨i, na, acc, hi, rfl, HAC, hal, hna, HALL, ho, hb⟩ := hrel
    have HNA := Lib.hid hna
    clear hna
    by_cases hlt : i < rs.length
    case neg =>
      have hil : i = rs.length := by omega
      have hE : rdR rs = (acc, 0) ∧ okRd rs = true := by
        have h1 := HAC.out
        have h2 := HALL.out
        rw [hil, List.take_length] at h1 h2
        exact ⟨by rw [h1]; exact rdR_ok h2, h2⟩
      have HE := Lib.hid hE
      obtain ⟨A9, c9, rfl, hc9⟩ := own_slice ho
      have dl : decide ((i : Int) < (rs.length : Int)) = false := decide_eq_false (by omega)
      have dln : decide (i < rs.length) = false := decide_eq_false hlt
      have HO := Lib.hid ho
      clear hE ho hil hi
      go_wp2
      refine bodyPost_ret (v := .tuple #[.slice A9 na c9, .bool true]) (by simp [results, Try.results96, go_sem]) rfl ?_
      rw [HE.out.1, HE.out.2]
      exact ⟨A9, c9, by rw [HNA.out], own_nums HO.out HNA.out, hb⟩
    obtain ⟨ga, oa, hRA, lga, hget⟩ := (HH.out.below hb).get (by omega)
    subst hRA
    obtain ⟨Ab, cb, zb, hcb, hbb⟩ := hget i hlt
    clear hget
    obtain ⟨b, hbd⟩ : ∃ b, b = rs.getD i [] := ⟨_, rfl⟩
    have hts := take_snocR rs i hlt
    have hbm := mem_getD hlt
    rw [← hbd] at zb hcb hbb hts hbm
    have hbl := HS.out.2 b hbm
    have K := samplesR_t Ab cb b wr hbl hcb hbb
    have HTS := Lib.hid hts
    have HBM := Lib.hid hbm
    have dl : decide ((i : Int) < (rs.length : Int)) = true := decide_eq_true (by omega)
    have dln : decide (i < rs.length) = true := decide_eq_true hlt
    have k0 : (0 : Int) ≤ (i : Int) := by omega
    have k1 : (i : Int) < (rs.length : Int) := by omega
    clear hbd hts hbm hbb
    cases hy : rRight b
    case false =>
      have hE : rdR rs = ([], 430) ∧ okRd rs = false := ⟨rdR_no (not_all HBM.out hy), by unfold okRd; exact Bool.eq_false_iff.2 (not_all HBM.out hy)⟩
      have HE := Lib.hid hE
      rw [smpO_no hy, hy] at K
      have HK := Lib.hid K
      clear hE K hy
      go_wp2_with (go_at_call 114; refine HK.out.mono ?_; rintro e w5 ⟨V5, c5, rfl, -, hb5⟩)
      refine bodyPost_ret (v := .tuple #[.slice none 0 0, .bool false]) (by simp [results, Try.results96, go_sem]) rfl ?_
      rw [HE.out.1, HE.out.2]
      exact ⟨none, 0, rfl, NumsAt.nil _ _, hb.trans (hb5.mono hb.size)⟩
    rw [smpO_yes hy, hy] at K
    have hal2 := all_take HALL.out HTS.out hy
    have hb64 := (of_decide_eq_true hy).2.2
    have hsl := smpL_len b
    obtain ⟨ys, hys⟩ : ∃ y, y = smpL b := ⟨_, rfl⟩
    rw [← hys] at K hsl
    have hsum : acc ++ ys = (rs.take (i + 1)).flatMap smpL := by rw [HTS.out, List.flatMap_append, ← HAC.out, hys]; simp
    obtain ⟨ny, hny⟩ : ∃ n, n = ys.length := ⟨_, rfl⟩
    rw [← hny] at K hsl
    have HNY := Lib.hid hny
    have HK := Lib.hid K
    have HSUM := Lib.hid hsum
    have HAL2 := Lib.hid hal2
    have hnyl : ny ≤ 16 := by omega
    have HO := Lib.hid ho
    have hbs := hb.size
    clear K hy hal2 hsum hny hys hb64 hsl ho
    go_wp2_with (first | (go_at_call 114; refine HK.out.mono ?_; rintro e w5 ⟨V5, c5, rfl, hn5, hb5⟩; have hbw := hb.trans (hb5.mono hb.size); have hs5 := hbw.size; have HO5 := Lib.hid (row_keep HO.out hb5); have HN5 := Lib.hid hn5) | (at_builtin; refine wpList_append_any (by rfl) (.tmp 25) (.tmp 26) 67 rfl w.heap.size 3 i0 (.int .i64 0) 1 8 Try.underlying67 hi0 hz0 hz1 hz2 rfl (by decide) u4 na (icells acc) rfl HO5.out V5 ny c5 (icells ys) rfl (by rw [icells_len, ← HNY.out, Nat.mul_one]) (fun h => nums_src HN5.out (Below.refl _ _) (by rw [← HNY.out]; exact h)) (icells_one _) (by simp [maxLen]; omega) (by omega) hs5 ?_; intro v7 w7 hown7 hgrow7))
    have b7 : Below w.heap.size w w7 := hbw.grown hgrow7 hs5 (own_base HO5.out)
    rw [← icells_append] at hown7
    go_roundw
    case rel => exact ⟨i + 1, na + ny, acc ++ ys, by omega, by go_num, HSUM, by omega, by rw [List.length_append, ← HNA.out, ← HNY.out], HAL2, hown7, b7⟩
    case measure => simp [intOf]; omega
set_option maxRecDepth 20000 in
set_option maxHeartbeats 4000000 in
theorem rdata43_t (RA : Option Addr) (rc : Nat) (j : Jn) (w : World) (hs : Sm j.recs) (h : RowsAt n₀ w RA j.recs) : Calls Try.prog 66 #[.agg #[.slice RA j.recs.length rc, .int .i64 j.many, .int .i64 j.sync]] w fun e w' => ∃ A c, e = .returned (.tuple #[.slice A (rData j).1.length c, .int .i64 (rData j).2]) ∧ NumsAt n₀ w' A (rData j).1 ∧ Below w.heap.size w w' := by
  have HS := Lib.hid hs
  obtain ⟨gc, hgc⟩ : ∃ x, x = gJchk j := ⟨_, rfl⟩
  have HGC := Lib.hid hgc
  clear hs
  go_enter Try.func66, Try.ntmps66
  go_wp2_with (fail)
  obtain ⟨W1, hW1⟩ : ∃ W, W = w.alloc (.cells #[.slice RA j.recs.length rc, .int .i64 j.many, .int .i64 j.sync] 55) := ⟨_, rfl⟩
  rw [← hW1]
  have hb : Below w.heap.size w W1 := by rw [hW1]; exact (Below.refl _ _).alloc (Nat.le_refl _) _
  have x1 : Blk W1 w.heap.size 55 #[.slice RA j.recs.length rc, .int .i64 j.many, .int .i64 j.sync] := by rw [hW1]; exact Blk.new w 55 _
  clear hW1
  replace h := h.below hb
  have hw := hb
  clear hb
  have K : Calls Try.prog 50 #[.agg #[.slice RA j.recs.length rc, .int .i64 j.many, .int .i64 j.sync]] W1 (fun e w' => e = .returned (.int .i64 gc) ∧ Below W1.heap.size W1 w') := by rw [HGC.out]; exact rjcheck_t RA rc j W1 HS.out h
  go_at_call 50
  refine K.mono ?_
  rintro e w2 ⟨rfl, hb⟩
  clear K
  replace h := h.below hb
  replace x1 := x1.below hb x1.lt
  replace hw := hw.trans (hb.mono hw.size)
  clear hb
  by_cases k0 : gc = 0
  case neg =>
    have dk0 : (gc != 0) = true := bne_iff_ne.2 k0
    have HR : rData j = ([], 1) := rData_no (fun hv => k0 (by rw [hgc, jchk_yes hv]))
    have HHR := Lib.hid HR
    obtain rfl : gc = 1 := by rw [hgc, jchk_no (fun hv => k0 (by rw [hgc, jchk_yes hv]))]
    clear HR k0 hgc
    go_wp2
    refine bodyPost_ret (v := .tuple #[.slice none 0 0, .int .i64 1]) (by simp [results, Try.results66, go_sem]) rfl ?_
    rw [HHR.out]
    exact ⟨none, 0, rfl, NumsAt.nil _ _, hw⟩
  subst k0
  have hv := jchk_val HGC.out.symm
  have HR := Lib.hid (rData_ok hv)
  clear hgc hv
  have x1c0 := x1.cell 0
  have x1c1 := x1.cell 1
  have x1c2 := x1.cell 2
  simp only [List.getElem?_toArray, List.getElem?_cons_zero, List.getElem?_cons_succ] at x1c0 x1c1 x1c2
  have x1l := x1.lt
  go_wp2_with (fail)
  have K := recsR_t RA rc j.recs w2 HS.out h
  cases hy : okRd j.recs
  case false =>
    have hE : rdR j.recs = ([], 430) := rdR_no (by unfold okRd at hy; rw [hy]; simp)
    have HE := Lib.hid hE
    rw [hy, hE] at K
    clear hE hy
    go_at_call 96
    refine K.mono ?_
    rintro e w9 ⟨A9, c9, rfl, -, hb9⟩
    clear K
    go_wp2
    refine bodyPost_ret (v := .tuple #[.slice none 0 0, .int .i64 430]) (by simp [results, Try.results66, go_sem]) rfl ?_
    rw [HR.out, HE.out]
    exact ⟨none, 0, rfl, NumsAt.nil _ _, hw.trans (hb9.mono hw.size)⟩
  have hE : (rdR j.recs).2 = 0 := by unfold okRd at hy; rw [rdR_ok hy]
  have HE := Lib.hid hE
  rw [hy] at K
  clear hE hy
  go_at_call 96
  refine K.mono ?_
  rintro e w9 ⟨A9, c9, rfl, hn9, hb9⟩
  clear K
  go_wp2
  refine bodyPost_ret (v := .tuple #[.slice A9 (rdR j.recs).1.length c9, .int .i64 0]) (by simp [results, Try.results66, go_sem]) rfl ?_
  rw [HR.out, HE.out]
  exact ⟨A9, c9, rfl, hn9, hw.trans (hb9.mono hw.size)⟩
end Go.Proofs.Ytckeopidedoohaa
