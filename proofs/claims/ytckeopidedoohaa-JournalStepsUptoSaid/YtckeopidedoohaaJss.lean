/-
  add f56: appends to a journal what has room. Conditions: a valid journal. | The plain laws of JournalSteps: two lists of records synced one after the other, at once, and again.
-/
import Derived.Test.YtckeopidedoohaaJsr
import Derived.Test.YtckeopidedoohaaJfw
import Derived.Deep.CutBlock
import Derived.Deep.DeepCutAuto
import Derived.Test.YtckeopidedoohaaJsv
namespace Go.Proofs.Ytckeopidedoohaa
open Go.RowKit
variable {n₀ : Nat}
attribute [local go_sem] Oper.semAt_some

open Classical in
/-- One record more, where there is room. -/
noncomputable def addJ (j : Jn) (b : Bs) : Jn := if j.many - usedN j.recs < secN b then j else { j with recs := j.recs ++ [b] }
noncomputable def addL (j : Jn) (l : List Bs) : Jn := l.foldl addJ j
theorem addL_snoc (j : Jn) (l : List Bs) (b : Bs) : addL j (l ++ [b]) = addJ (addL j l) b := by simp [addL]
theorem addJ_no {j : Jn} {b : Bs} (h : j.many - usedN j.recs < secN b) : addJ j b = j := by unfold addJ; rw [if_pos h]
theorem addJ_yes {j : Jn} {b : Bs} (h : ¬ j.many - usedN j.recs < secN b) : addJ j b = { j with recs := j.recs ++ [b] } := by unfold addJ; rw [if_neg h]
theorem addJ_val {j : Jn} {b : Bs} (h : JVal j) : JVal (addJ j b) ∧ (addJ j b).many = j.many ∧ (addJ j b).sync = j.sync ∧ ∃ r, (addJ j b).recs = j.recs ++ r := by
  by_cases h1 : j.many - usedN j.recs < secN b
  · rw [addJ_no h1]
    exact ⟨h, rfl, rfl, [], by simp⟩
  · rw [addJ_yes h1]
    obtain ⟨v1, v2, v3, v4, v5⟩ := h
    refine ⟨⟨v1, v2, v3, by simp only [List.length_append, List.length_singleton]; omega, ?_⟩, rfl, rfl, [b], rfl⟩
    rw [usedN_snoc]
    dsimp only
    omega
theorem addL_val {j : Jn} (h : JVal j) (l : List Bs) : JVal (addL j l) ∧ (addL j l).many = j.many ∧ (addL j l).sync = j.sync ∧ ∃ r, (addL j l).recs = j.recs ++ r := by
  induction l generalizing j with
  | nil => exact ⟨h, rfl, rfl, [], by simp [addL]⟩
  | cons b l ih =>
    obtain ⟨a1, a2, a3, r1, a4⟩ := addJ_val (b := b) h
    obtain ⟨c1, c2, c3, r2, c4⟩ := ih a1
    exact ⟨c1, c2.trans a2, c3.trans a3, r1 ++ r2, by rw [← List.append_assoc, ← a4]; exact c4⟩
theorem jval_smN {j : Jn} (h : JVal j) : Sm j.recs ∧ j.recs.length ≤ 4096 := by
  obtain ⟨v1, v2, v3, v4, v5⟩ := h
  have hl := usedN_len j.recs
  refine ⟨⟨by omega, fun b hb => ?_⟩, by omega⟩
  have h2 := usedN_each hb
  unfold secN at h2
  omega
theorem put3J {W : World} {B : Nat} {a0 a1 a2 b0 b1 b2 : Value} (h : Blk W B 55 #[a0, a1, a2]) : Blk (((W.setCell ⟨B, 0, none⟩ b0).setCell ⟨B, 1, none⟩ b1).setCell ⟨B, 2, none⟩ b2) B 55 #[b0, b1, b2] := by simpa using ((h.set 0 b0).set 1 b1).set 2 b2
def AdI (n₀ : Nat) (w : World) (B2 B4 k : Nat) (j : Jn) (l : List Bs) (W : World) : Prop := ∃ x A c, x = addL j (l.take k) ∧ Blk W B2 55 #[.slice A (Jn.recs x).length c, .int .i64 j.many, .int .i64 j.sync] ∧ x.recs.length ≤ c ∧ RowsAt n₀ W A x.recs ∧ Blk W B4 55 #[.slice none 0 0, .int .i64 0, .int .i64 0] ∧ Below w.heap.size w W

set_option maxRecDepth 20000 in
set_option maxHeartbeats 8000000 in
theorem add_t (RA LA : Option Addr) (rc lc : Nat) (j : Jn) (l : List Bs) (w : World) (hn : n₀ ≤ w.heap.size) (hv : JVal j) (hrc : j.recs.length ≤ rc) (hl : l.length ≤ 1048576) (hb : ∀ b ∈ l, b.length ≤ 1000000000) (r0 : RowsAt n₀ w RA j.recs) (r1 : RowsAt n₀ w LA l) :
    Calls Try.prog 56 #[.agg #[.slice RA j.recs.length rc, .int .i64 j.many, .int .i64 j.sync], .slice LA l.length lc] w fun e w' => ∃ A c, e = .returned (.agg #[.slice A (addL j l).recs.length c, .int .i64 j.many, .int .i64 j.sync]) ∧ (addL j l).recs.length ≤ c ∧ RowsAt n₀ w' A (addL j l).recs ∧ Below w.heap.size w w' := by
  have HB := Lib.hid hb
  have HV := Lib.hid hv
  clear hb hv
  go_enter Try.func56, Try.ntmps56
  go_upto_region 1 with (fail)
  obtain ⟨W1, hW1⟩ : ∃ W, W = (w.alloc (.cells #[.slice RA j.recs.length rc, .int .i64 j.many, .int .i64 j.sync] 55)).alloc (.cells #[.slice none 0 0, .int .i64 0, .int .i64 0] 55) := ⟨_, rfl⟩
  rw [← hW1]
  have hw : Below w.heap.size w W1 := by rw [hW1]; exact ((Below.refl _ _).alloc (Nat.le_refl _) _).alloc (by simp) _
  obtain ⟨B2, hB2⟩ : ∃ B, B = w.heap.size := ⟨_, rfl⟩
  obtain ⟨B4, hB4⟩ : ∃ B, B = w.heap.size + 1 := ⟨_, rfl⟩
  have x2 : Blk W1 B2 55 #[.slice RA j.recs.length rc, .int .i64 j.many, .int .i64 j.sync] := by rw [hW1, hB2]; exact (Blk.new w 55 _).alloc _
  have x4 : Blk W1 B4 55 #[.slice none 0 0, .int .i64 0, .int .i64 0] := by rw [hW1, hB4]; exact Blk.newAt (by simp) 55 _
  rw [← hB4, ← hB2]
  have hB24 : B4 = B2 + 1 := by omega
  have hB2w : w.heap.size ≤ B2 := by omega
  have H24 := Lib.hid hB24
  clear hW1 hB2 hB4 hB24
  go_wp2_with (fail)
  go_loopw [11] (fun v11 wr => ∃ k : Nat, k ≤ l.length ∧ v11 = .int .i64 k ∧ AdI n₀ w B2 B4 k j l wr) (fun v11 _ => l.length - (intOf v11).toNat)
  case atStart => exact ⟨0, by omega, rfl, j, RA, rc, rfl, x2, hrc, r0.below hw, x4, hw⟩
  case round =>
    clear x2 x4 hw
    obtain ⟨k, hk, rfl, x, A, c, hx, x2, hc, rA, x4, hw⟩ := hrel
    obtain ⟨hxv, hxm, hxs, -⟩ := addL_val HV.out (l.take k)
    rw [← hx] at hxv hxm hxs
    have hsm := jval_smN hxv
    have HSM := Lib.hid hsm.1
    have hx4 := hsm.2
    have HXV := Lib.hid hxv
    have HXM := Lib.hid hxm
    have HXS := Lib.hid hxs
    have HX := Lib.hid hx
    clear hx hxv hxm hxs hsm
    have x2c0 := x2.cell 0
    have x2c1 := x2.cell 1
    have x2c2 := x2.cell 2
    simp only [List.getElem?_toArray, List.getElem?_cons_zero, List.getElem?_cons_succ] at x2c0 x2c1 x2c2
    have x2l := x2.lt
    have x4l := x4.lt
    by_cases hlt : k < l.length
    case neg =>
      have hkl : k = l.length := by omega
      have hxe : x = addL j l := by rw [HX.out, hkl, List.take_length]
      have HXE := Lib.hid hxe
      clear hxe
      have x4c0 := x4.cell 0
      have x4c1 := x4.cell 1
      have x4c2 := x4.cell 2
      have x4f0 := x4.frozen 0
      have x4f1 := x4.frozen 1
      have x4f2 := x4.frozen 2
      simp only [List.getElem?_toArray, List.getElem?_cons_zero, List.getElem?_cons_succ] at x4c0 x4c1 x4c2
      go_wp2_with (fail)
      obtain ⟨W9, hW9⟩ : ∃ W, W = ((wr.setCell ⟨B4, 0, none⟩ (.slice A x.recs.length c)).setCell ⟨B4, 1, none⟩ (.int .i64 j.many)).setCell ⟨B4, 2, none⟩ (.int .i64 j.sync) := ⟨_, rfl⟩
      rw [← hW9]
      have hk9 : Keep (fun r => r = B4) wr W9 := by rw [hW9]; repeat (first | with_reducible exact Keep.refl _ _ | refine Keep.setCell ?_ (fun _ => by simp) _)
      have hm9 := Boxes.one (n₀ := n₀) x4 rfl (by have := H24.out; omega)
      have y4 : Blk W9 B4 55 #[.slice A x.recs.length c, .int .i64 j.many, .int .i64 j.sync] := by rw [hW9]; exact put3J x4
      replace rA := rA.keep hk9 hm9
      replace hw := hw.trans (hk9.below hw.size (fun r hr h => by have := H24.out; omega))
      have y0 := y4.cell 0
      have y1 := y4.cell 1
      have y2 := y4.cell 2
      simp only [List.getElem?_toArray, List.getElem?_cons_zero, List.getElem?_cons_succ] at y0 y1 y2
      clear hW9 hk9 hm9 x4c0 x4c1 x4c2 x4f0 x4f1 x4f2 x2c0 x2c1 x2c2
      refine bodyPost_ret (v := .agg #[.slice A x.recs.length c, .int .i64 j.many, .int .i64 j.sync]) (by simp [results, Try.results56, go_sem, y0, y1, y2]) rfl ?_
      rw [← HXE.out]
      exact ⟨A, c, rfl, hc, rA, hw⟩
    obtain ⟨ga, oa, hRA, lga, hget⟩ := (r1.below hw).get (by omega)
    subst hRA
    obtain ⟨Ab, cb, zb, hcb, hbb⟩ := hget k (by omega)
    clear hget
    obtain ⟨b, hbd⟩ : ∃ b, b = l.getD k [] := ⟨_, rfl⟩
    have hbl : b.length ≤ 1000000000 := by rw [hbd]; exact HB.out _ (by rw [List.getD_eq_getElem?_getD, List.getElem?_eq_getElem hlt]; exact List.getElem_mem hlt)
    have hts := take_snocR l k hlt
    rw [← hbd] at zb hcb hbb hts
    have hxa : addL j (l.take (k + 1)) = addJ x b := by rw [hts, addL_snoc, ← HX.out]
    have HXA := Lib.hid hxa
    clear hbd hts hxa
    go_wp2_with (fail)
    by_cases ha : j.many - (usedN x.recs : Int) < secN b
    case pos =>
      have HA := Lib.hid ha
      have hno : addJ x b = x := addJ_no (by rw [HXM.out]; exact HA.out)
      have HNO := Lib.hid hno
      clear ha hno
      have K1 : Calls Try.prog 47 #[.agg #[.slice A x.recs.length c, .int .i64 j.many, .int .i64 j.sync], .slice Ab b.length cb] wr (fun e w' => ∃ A c, e = .returned (.tuple #[.agg #[.slice A 0 c, .int .i64 0, .int .i64 0], .int .i64 2]) ∧ Below wr.heap.size wr w') := by
        have h := append_t (n₀ := n₀) A Ab c cb x b wr HSM.out hbl hc rA hbb
        rw [gApp_lim HXV.out (by rw [HXM.out]; exact HA.out), HXM.out, HXS.out] at h
        exact h.mono fun e w9 hx => by obtain ⟨A, c, h1, -, -, h4⟩ := jn_out (rs := []) (m := 0) (s := 0) (e := 2) hx; exact ⟨A, c, h1, h4⟩
      go_at_call 47
      refine K1.mono ?_
      rintro e wi5 ⟨A5, c5, rfl, hb5⟩
      clear K1 x2c0 x2c1 x2c2 zb
      go_wp2_with (fail)
      have hb6 : Below wr.heap.size wr (wi5.alloc (.cells #[.slice A5 0 c5, .int .i64 0, .int .i64 0] 55)) := hb5.alloc hb5.size _
      go_roundw
      case rel => exact ⟨k + 1, by omega, by go_num, x, A, c, by rw [HXA.out, HNO.out], x2.below hb6 x2l, hc, rA.below hb6, x4.below hb6 x4l, hw.trans (hb6.mono hw.size)⟩
      case measure => simp [intOf]; omega
    have HA := Lib.hid ha
    have hyes : addJ x b = { x with recs := x.recs ++ [b] } := addJ_yes (by rw [HXM.out]; exact HA.out)
    obtain ⟨x9, hx9⟩ : ∃ y, y = addJ x b := ⟨_, rfl⟩
    have hxr : x9.recs = x.recs ++ [b] := by rw [hx9, hyes]
    have HX9 := Lib.hid hx9
    have HXR := Lib.hid hxr
    clear ha hyes hx9 hxr
    have K1 : Calls Try.prog 47 #[.agg #[.slice A x.recs.length c, .int .i64 j.many, .int .i64 j.sync], .slice Ab b.length cb] wr (fun e w' => ∃ A c, e = .returned (.tuple #[.agg #[.slice A x9.recs.length c, .int .i64 j.many, .int .i64 j.sync], .int .i64 0]) ∧ x9.recs.length ≤ c ∧ RowsAt n₀ w' A x9.recs ∧ Below wr.heap.size wr w') := by
      have h := append_t (n₀ := n₀) A Ab c cb x b wr HSM.out hbl hc rA hbb
      rw [gApp_ok HXV.out (by rw [HXM.out]; exact HA.out), ← HXR.out, HXM.out, HXS.out] at h
      exact h.mono fun e w9 hx => jn_out (rs := x9.recs) (m := j.many) (s := j.sync) (e := 0) hx
    go_at_call 47
    refine K1.mono ?_
    rintro e wi5 ⟨A5, c5, rfl, hc5, r6, hb5⟩
    clear K1 x2c0 x2c1 x2c2 zb rA
    go_upto_region 5 with (fail)
    obtain ⟨Wi6, hWi6⟩ : ∃ W, W = wi5.alloc (.cells #[.slice A5 x9.recs.length c5, .int .i64 j.many, .int .i64 j.sync] 55) := ⟨_, rfl⟩
    rw [← hWi6]
    have hb6 : Below wi5.heap.size wi5 Wi6 := by rw [hWi6]; exact (Below.refl _ _).alloc (Nat.le_refl _) _
    have x14 : Blk Wi6 wi5.heap.size 55 #[.slice A5 x9.recs.length c5, .int .i64 j.many, .int .i64 j.sync] := by rw [hWi6]; exact Blk.new wi5 55 _
    clear hWi6
    have hb7 := hb5.trans (hb6.mono hb5.size)
    replace r6 := r6.below hb6
    replace x2 := x2.below hb7 x2l
    replace x4 := x4.below hb7 x4l
    replace hw := hw.trans (hb7.mono hw.size)
    clear hb5 hb6 hb7 x2l x4l
    have x14c0 := x14.cell 0
    have x14c1 := x14.cell 1
    have x14c2 := x14.cell 2
    have x2c0 := x2.cell 0
    have x2c1 := x2.cell 1
    have x2c2 := x2.cell 2
    have x2f0 := x2.frozen 0
    have x2f1 := x2.frozen 1
    have x2f2 := x2.frozen 2
    simp only [List.getElem?_toArray, List.getElem?_cons_zero, List.getElem?_cons_succ] at x14c0 x14c1 x14c2 x2c0 x2c1 x2c2
    go_upto_region 7 with (fail)
    obtain ⟨Wi7, hWi7⟩ : ∃ W, W = ((Wi6.setCell ⟨B2, 0, none⟩ (.slice A5 x9.recs.length c5)).setCell ⟨B2, 1, none⟩ (.int .i64 j.many)).setCell ⟨B2, 2, none⟩ (.int .i64 j.sync) := ⟨_, rfl⟩
    rw [← hWi7]
    have hk7 : Keep (fun r => r = B2) Wi6 Wi7 := by rw [hWi7]; repeat (first | with_reducible exact Keep.refl _ _ | refine Keep.setCell ?_ (fun _ => by simp) _)
    have hm7 := Boxes.one (n₀ := n₀) x2 rfl (by omega)
    replace r6 := r6.keep hk7 hm7
    replace x4 := x4.keep hk7 (fun h => by have := H24.out; omega)
    have y2 : Blk Wi7 B2 55 #[.slice A5 x9.recs.length c5, .int .i64 j.many, .int .i64 j.sync] := by rw [hWi7]; exact put3J x2
    replace hw := hw.trans (hk7.below hw.size (fun r hr h => by omega))
    clear hWi7 hk7 hm7 x2c0 x2c1 x2c2 x2f0 x2f1 x2f2 x14 x14c0 x14c1 x14c2 x2
    go_wp2_with (fail)
    go_roundw
    case rel => exact ⟨k + 1, by omega, by go_num, x9, A5, c5, by rw [HXA.out, HX9.out], y2, hc5, r6, x4, hw⟩
    case measure => simp [intOf]; omega
end Go.Proofs.Ytckeopidedoohaa

namespace Go.Proofs.Ytckeopidedoohaa
open Go.RowKit

theorem good40 : GoodD dD40 40 [] 1 := good_new (ns := 40) (by decide) (by decide)
theorem addJ_sync (j : Jn) (s : Int) (b : Bs) : addJ { j with sync := s } b = { addJ j b with sync := s } := by
  by_cases h : j.many - usedN j.recs < secN b
  · rw [addJ_no h, addJ_no (j := { j with sync := s }) h]
  · rw [addJ_yes h, addJ_yes (j := { j with sync := s }) h]
theorem addL_sync (l : List Bs) (j : Jn) (s : Int) : addL { j with sync := s } l = { addL j l with sync := s } := by
  induction l generalizing j with
  | nil => rfl
  | cons b l ih =>
    show addL (addJ { j with sync := s } b) l = _
    rw [addJ_sync, ih]
    rfl
theorem jn_eta {j : Jn} {m s : Int} (h1 : j.many = m) (h2 : j.sync = s) : j = ⟨j.recs, m, s⟩ := by
  subst h1 h2
  rfl
theorem steps_plain (a b : List Bs) : ∃ (A R : List Bs) (c x y : Dk), addL ⟨[], 40, 0⟩ a = ⟨A, 40, 0⟩ ∧ addL ⟨A, 40, 0⟩ b = ⟨R, 40, 0⟩ ∧ addL ⟨A, 40, A.length⟩ b = ⟨R, 40, A.length⟩ ∧ JVal ⟨A, 40, 0⟩ ∧ JVal ⟨R, 40, 0⟩ ∧ JVal ⟨A, 40, A.length⟩ ∧ JVal ⟨R, 40, A.length⟩ ∧ JVal ⟨R, 40, R.length⟩ ∧
    gJs ⟨R, 40, 0⟩ dD40 = ((⟨R, 40, R.length⟩, c), 0) ∧ GoodD c 40 R 2 ∧ gJs ⟨A, 40, 0⟩ dD40 = ((⟨A, 40, A.length⟩, x), 0) ∧ GoodD x 40 A 2 ∧ gJs ⟨R, 40, A.length⟩ x = ((⟨R, 40, R.length⟩, y), 0) ∧ GoodD y 40 R 3 ∧ gJs ⟨R, 40, R.length⟩ y = ((⟨R, 40, R.length⟩, y), 0) := by
  have v0 : JVal ⟨[], 40, 0⟩ := by simp [JVal, usedN_nil]
  obtain ⟨a1, a2, a3, -, -⟩ := addL_val v0 a
  have eA := jn_eta a2 a3
  obtain ⟨A, hA⟩ : ∃ A, A = (addL ⟨[], 40, 0⟩ a).recs := ⟨_, rfl⟩
  rw [← hA] at eA
  rw [eA] at a1
  obtain ⟨b1, b2, b3, r, b4⟩ := addL_val a1 b
  have eR := jn_eta b2 b3
  obtain ⟨R, hR⟩ : ∃ R, R = (addL ⟨A, 40, 0⟩ b).recs := ⟨_, rfl⟩
  rw [← hR] at eR b4
  rw [eR] at b1
  dsimp only at b4
  have eS : addL ⟨A, 40, A.length⟩ b = ⟨R, 40, A.length⟩ := by
    have h := addL_sync b ⟨A, 40, 0⟩ A.length
    rw [eR] at h
    exact h
  have uA : (usedN A : Int) ≤ 40 := a1.2.2.2.2
  have uR : (usedN R : Int) ≤ 40 := b1.2.2.2.2
  have hAR : A.length ≤ R.length := by rw [b4, List.length_append]; omega
  have tAR : R.take A.length = A := by rw [b4, List.take_left]
  have jv : ∀ (rs : List Bs) (s : Nat), (usedN rs : Int) ≤ 40 → s ≤ rs.length → JVal ⟨rs, 40, s⟩ := fun rs s h1 h2 => ⟨by dsimp only; omega, by dsimp only; omega, by dsimp only; omega, by dsimp only; omega, h1⟩
  obtain ⟨c, c1, c2⟩ := sv_run (rs := R) good40 (by decide) rfl (Nat.zero_le _) (jv R 0 uR (Nat.zero_le _))
  obtain ⟨x, x1, x2⟩ := sv_run (rs := A) good40 (by decide) rfl (Nat.zero_le _) (jv A 0 uA (Nat.zero_le _))
  obtain ⟨y, y1, y2⟩ := sv_run (rs := R) x2 (by decide) tAR hAR (jv R A.length uR hAR)
  have jR := jv R R.length uR (Nat.le_refl _)
  have f : Fits ⟨R, 40, R.length⟩ y := ⟨jR, y2.runs.1, by rw [y2.len]; rfl, y2.runs.2, y2.pend, by dsimp only; rw [y2.recs, Int.toNat_natCast, List.take_length], by have := y2.gen; omega⟩
  exact ⟨A, R, c, x, y, eA, eR, eS, a1, b1, jv A A.length uA (Nat.le_refl _), jv R A.length uR hAR, jR, c1, c2, x1, x2, y1, y2, gJs_same f rfl⟩
end Go.Proofs.Ytckeopidedoohaa
