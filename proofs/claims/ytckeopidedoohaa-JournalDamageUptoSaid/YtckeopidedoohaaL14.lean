/-
  JournalDamage walked: it answers true. Conditions: arguments of at most 1048576 values.
-/
import Derived.Test.YtckeopidedoohaaJdp
import Derived.Test.YtckeopidedoohaaJfw
import Derived.Test.YtckeopidedoohaaJsa
import Derived.Deep.CutBlock
import Derived.Deep.DeepCutAuto
namespace Go.Proofs.Ytckeopidedoohaa
open Go.RowKit
variable {n₀ : Nat}
attribute [local go_sem] Oper.semAt_some

/-- The law answers true, and leaves alone what lay. -/
def YesD (w : World) (e : Ending) (w' : World) : Prop := e = .returned (.bool true) ∧ Below w.heap.size w w'
theorem info3 : (Try.prog.info? 3).map (fun i => (i.zero, i.size, i.bytes)) = some (some (.int .i64 0), 1, 8) := by kernel_rfl
/-- The ends of the records. -/
def endV (rs : List Bs) (m : Nat) : List Value := (List.range m).map fun k => .int .i64 (usedN (rs.take (k + 1)))
theorem endV_len (rs : List Bs) (m : Nat) : (endV rs m).length = m := by simp [endV]
theorem endV_snoc (rs : List Bs) (m : Nat) : endV rs (m + 1) = endV rs m ++ [.int .i64 (usedN (rs.take (m + 1)))] := by simp [endV, List.range_succ]
theorem endV_get (rs : List Bs) (m k : Nat) (h : k < m) : (endV rs m)[k]? = some (.int .i64 (usedN (rs.take (k + 1)))) := by simp [endV, h]
theorem endV_take (rs : List Bs) (m : Nat) : endV (rs.take m) m = endV rs m := by
  unfold endV
  refine List.map_congr_left fun k hk => ?_
  rw [List.take_take, Nat.min_eq_left (by have := List.mem_range.1 hk; omega)]
theorem own_int {w : World} {base n c k : Nat} {A : Option Addr} {rs : List Bs} (h : w.ownsRow base 3 1 (.slice A n c) n (endV rs n)) (hk : k < n) : ∃ g, A = some ⟨g, 0, none⟩ ∧ g < w.heap.size ∧ ∀ j, j < n → w.cell? ⟨g, j, none⟩ = some (.int .i64 (usedN (rs.take (j + 1)))) := by
  obtain ⟨g, rfl, _, hlt⟩ := own_some h (by omega)
  refine ⟨g, rfl, hlt, fun j hj => ?_⟩
  obtain ⟨cur, h1, h2, h3⟩ := own_cur h
  have hx : cur[j]? = some (.int .i64 (usedN (rs.take (j + 1)))) := by
    have h4 := endV_get rs n j hj
    rw [← h2, List.getElem?_take, if_pos hj] at h4
    exact h4
  have hb : Blk w g 3 cur.toArray := h1
  have hc := hb.cell j
  rw [hc]
  simpa using hx
/-- What the law holds between two records. -/
def LpD (n₀ : Nat) (rs : List Bs) (w1 : World) (B i : Nat) (v : Value) (W : World) : Prop := ∃ A c V cv, v = .slice V i cv ∧ JVal ⟨rs.take i, 40, 0⟩ ∧ Blk W B 55 #[.slice A i c, .int .i64 40, .int .i64 0] ∧ i ≤ c ∧ RowsAt n₀ W A (rs.take i) ∧ W.ownsRow w1.heap.size 3 1 (.slice V i cv) i (endV rs i) ∧ Below w1.heap.size w1 W
theorem own_boxes3 {w : World} {base : Nat} {v : Value} {n : Nat} {xs : List Value} (h : w.ownsRow base 3 1 v n xs) (hn : n₀ ≤ base) : Boxes n₀ w (fun r => v.ownBlock = some r) := fun r _ hb => by
  rcases h.2 with ⟨rfl, _⟩ | ⟨g, cap, cur, rfl, hg, hh, _⟩
  · simp [Value.ownBlock] at hb
  · simp only [Value.ownBlock, Option.some.injEq] at hb
    subst hb
    refine ⟨by omega, 3, _, (show Blk w g 3 _ from hh), rfl⟩
theorem put3 {W : World} {B : Nat} {a0 a1 a2 b0 b1 b2 : Value} (h : Blk W B 55 #[a0, a1, a2]) : Blk (((W.setCell ⟨B, 0, none⟩ b0).setCell ⟨B, 1, none⟩ b1).setCell ⟨B, 2, none⟩ b2) B 55 #[b0, b1, b2] := by simpa using ((h.set 0 b0).set 1 b1).set 2 b2
theorem u64_rng (x : Int) : 0 ≤ IntKind.u64.wrap x ∧ IntKind.u64.wrap x < 18446744073709551616 := by
  simp [IntKind.wrap, IntKind.bits, IntKind.signed]
  omega
theorem own_setB {w : World} {base g c : Nat} {bs : Bs} {m : Nat} (h : w.ownsRow base 5 1 (.slice (some ⟨g, 0, none⟩) m c) m (bcells bs)) (hm : m = bs.length) (i : Nat) (v : UInt8) : BsAt n₀ (w.setCell ⟨g, i, none⟩ (.int .u8 (v.toNat : Int))) (some ⟨g, 0, none⟩) (bs.set i v) := fun h0 => by
  subst hm
  obtain ⟨cur, h1, h2, h3⟩ := own_cur h
  have hb : Blk w g 5 cur.toArray := h1
  have hb2 := hb.set i (.int .u8 (v.toNat : Int))
  refine ⟨g, 0, rfl, .of_blk hb2 rfl, fun j hj => ?_⟩
  rw [List.length_set] at hj
  rw [Nat.zero_add, hb2.cell, List.setIfInBounds_toArray, List.getElem?_toArray]
  have hx : cur[j]? = some (u8v (bs.getD j 0)) := by
    have h4 := bcells_get bs j hj
    rw [← h2, List.getElem?_take, if_pos hj] at h4
    exact h4
  rw [List.getElem?_set, set_getD bs i j v 0 hj]
  by_cases e : i = j
  · rw [if_pos e, if_pos e, if_pos (by omega)]
    rfl
  · rw [if_neg e, if_neg e, hx]
theorem own_byte {w : World} {base g c : Nat} {bs : Bs} {m : Nat} (h : w.ownsRow base 5 1 (.slice (some ⟨g, 0, none⟩) m c) m (bcells bs)) (hm : m = bs.length) (i : Nat) (hi : i < m) : w.cell? ⟨g, i, none⟩ = some (.int .u8 ((bs.getD i 0).toNat : Int)) ∧ w.frozen? ⟨g, i, none⟩ = false := by
  subst hm
  obtain ⟨cur, h1, h2, h3⟩ := own_cur h
  have hb : Blk w g 5 cur.toArray := h1
  refine ⟨?_, hb.frozen i⟩
  rw [hb.cell, List.getElem?_toArray]
  have h4 := bcells_get bs i hi
  rw [← h2, List.getElem?_take, if_pos hi] at h4
  exact h4
theorem own_blkE {w : World} {base g c n : Nat} {rs : List Bs} (h : w.ownsRow base 3 1 (.slice (some ⟨g, 0, none⟩) n c) n (endV rs n)) : ∃ cur : List Value, Blk w g 3 cur.toArray ∧ ∀ j, j < n → cur[j]? = some (.int .i64 (usedN (rs.take (j + 1)))) := by
  obtain ⟨cur, h1, h2, h3⟩ := own_cur h
  refine ⟨cur, h1, fun j hj => ?_⟩
  have h4 := endV_get rs n j hj
  rw [← h2, List.getElem?_take, if_pos hj] at h4
  exact h4

set_option maxRecDepth 20000 in
set_option maxHeartbeats 8000000 in
theorem journalDamage_t (RA : Option Addr) (rc : Nat) (rs : List Bs) (sec at_ : Int) (by_ : UInt8) (w : World) (hn : n₀ ≤ w.heap.size) (hrl : rs.length ≤ 1048576) (hrb : ∀ x ∈ rs, x.length ≤ 1048576) (r0 : RowsAt n₀ w RA rs) :
    Calls Try.prog 14 #[.slice RA rs.length rc, .int .i64 sec, .int .i64 at_, .int .u8 (by_.toNat : Int)] w (YesD w) := by
  have HRB := Lib.hid hrb
  clear hrb
  go_enter Try.func14, Try.ntmps14
  go_wp2_with (fail)
  have K : Calls Try.prog 42 #[] w (fun e w' => e = .returned (.bool true) ∧ Below w.heap.size w w') := jsane_t w
  go_at_call 42
  refine K.mono ?_
  rintro e w1 ⟨rfl, hb⟩
  clear K
  replace r0 := r0.below hb
  have hw := hb
  clear hb
  go_wp2_with (fail)
  have K : Calls Try.prog 25 #[.int .i64 40] w1 (fun e w' => ∃ S s P p, e = .returned (.tuple #[.agg #[.slice S 40 s, .slice P 0 p, .int .i64 (-1), .bool false], .int .i64 0]) ∧ 40 ≤ s ∧ RowsAt n₀ w' S dD40.secs ∧ WrsAt n₀ w' P [] ∧ Below w1.heap.size w1 w') := (by have h := new_t (n₀ := n₀) 40 w1; rw [d40_new] at h; exact h.mono fun e w9 hx => by obtain ⟨v, rfl, ⟨S, s, P, p, rfl, h1, h2, h3, h4⟩, h5⟩ := hx; exact ⟨S, s, P, p, rfl, h1, h3, h4, h5⟩)
  go_at_call 25
  refine K.mono ?_
  rintro e w2 ⟨S9, s9, P9, p9, rfl, hs9, r9, q9, hb⟩
  clear K
  replace r0 := r0.below hb
  replace hw := hw.trans (hb.mono hw.size)
  clear hb
  go_upto_region 4 with (fail)
  obtain ⟨W3, hW3⟩ : ∃ W, W = w2.alloc (.cells #[.slice S9 40 s9, .slice P9 0 p9, .int .i64 (-1), .bool false] 25) := ⟨_, rfl⟩
  rw [← hW3]
  have hb : Below w2.heap.size w2 W3 := by rw [hW3]; exact (Below.refl _ _).alloc (Nat.le_refl _) _
  have x9 : Blk W3 w2.heap.size 25 #[.slice S9 40 s9, .slice P9 0 p9, .int .i64 (-1), .bool false] := by rw [hW3]; exact Blk.new w2 25 _
  clear hW3
  replace r0 := r0.below hb
  replace r9 := r9.below hb
  replace q9 := q9.below hb
  replace hw := hw.trans (hb.mono hw.size)
  clear hb
  have x9c0 := x9.cell 0
  have x9c1 := x9.cell 1
  have x9c2 := x9.cell 2
  have x9c3 := x9.cell 3
  simp only [List.getElem?_toArray, List.getElem?_cons_zero, List.getElem?_cons_succ] at x9c0 x9c1 x9c2 x9c3
  have x9l := x9.lt
  go_wp2_with (fail)
  obtain ⟨y, hy⟩ : ∃ y, y = fewB 40 0 rs := ⟨_, rfl⟩
  have HY := Lib.hid hy
  clear hy
  have K : Calls Try.prog 43 #[.agg #[.slice S9 40 s9, .slice P9 0 p9, .int .i64 (-1), .bool false], .slice RA rs.length rc] W3 (fun e w' => e = .returned (.bool y) ∧ Below W3.heap.size W3 w') := by rw [HY.out]; exact few5_t S9 P9 RA s9 p9 rc 40 0 (-1) false rs W3 (by decide) (by decide) hrl HRB.out r0
  go_at_call 43
  refine K.mono ?_
  rintro e w4 ⟨rfl, hb⟩
  clear K
  replace r0 := r0.below hb
  replace r9 := r9.below hb
  replace q9 := q9.below hb
  replace x9 := x9.below hb x9.lt
  replace hw := hw.trans (hb.mono hw.size)
  clear x9c0 x9c1 x9c2 x9c3 x9l
  clear hb
  cases y
  case false =>
    go_wp2
    go_ret
    exact ⟨rfl, hw⟩
  have hsm := (fewB_sm HY.out.symm).2.2.2
  have hs4 := (fewB_sm HY.out.symm).2.2.1
  have hjl := sumB_len rs
  have hrl2 : rs.length ≤ 4000 := by omega
  have hb4 : ∀ x ∈ rs, x.length ≤ 4000 := fun x hx => Nat.le_trans (sumB_mem hx) hs4
  have HB4 := Lib.hid hb4
  have HSM := Lib.hid hsm
  clear hsm hs4 hjl hb4
  by_cases k1 : rs.length = 0
  case pos =>
    have d1 : ((rs.length : Int) == 0) = true := by rw [k1]; rfl
    clear k1
    go_wp2
    all_goals
      go_ret
      exact ⟨rfl, hw⟩
  have d1 : ((rs.length : Int) == 0) = false := by rw [beq_eq_false_iff_ne]; omega
  by_cases k2 : by_ = 0
  case pos =>
    have d2 : ((by_.toNat : Int) == 0) = true := by rw [k2]; rfl
    clear k1 k2
    go_wp2
    go_ret
    exact ⟨rfl, hw⟩
  have d2 : ((by_.toNat : Int) == 0) = false := by
    rw [beq_eq_false_iff_ne]
    intro h
    exact k2 (UInt8.toNat_inj.1 (by rw [show by_.toNat = 0 by omega]; rfl))
  have HBY := Lib.hid k2
  clear k2
  have x9c0 := x9.cell 0
  have x9c1 := x9.cell 1
  have x9c2 := x9.cell 2
  have x9c3 := x9.cell 3
  simp only [List.getElem?_toArray, List.getElem?_cons_zero, List.getElem?_cons_succ] at x9c0 x9c1 x9c2 x9c3
  have x9l := x9.lt
  go_wp2_with (fail)
  have K : Calls Try.prog 44 #[.agg #[.slice S9 40 s9, .slice P9 0 p9, .int .i64 (-1), .bool false]] w4 (fun e w' => ∃ A c, e = .returned (.tuple #[.agg #[.slice A 0 c, .int .i64 40, .int .i64 0], .int .i64 0]) ∧ Below w4.heap.size w4 w') := (by have h := open_t (n₀ := n₀) S9 P9 s9 p9 dD40 w4 (Nat.le_trans hn hw.size) (by simp [dD40]) (by simp [dD40]) r9 q9; rw [d40_open] at h; exact (show Calls Try.prog 44 #[.agg #[.slice S9 40 s9, .slice P9 0 p9, .int .i64 (-1), .bool false]] w4 (JnIs n₀ w4 (⟨[], 40, 0⟩, 0)) from h).mono fun e w9 hx => by obtain ⟨A, c, h1, -, -, h4⟩ := jn_out (rs := []) (m := 40) (s := 0) (e := 0) hx; exact ⟨A, c, h1, h4⟩)
  go_at_call 44
  refine K.mono ?_
  rintro e w5 ⟨A11, c11, rfl, hb⟩
  clear K
  replace r0 := r0.below hb
  replace r9 := r9.below hb
  replace q9 := q9.below hb
  replace x9 := x9.below hb x9.lt
  replace hw := hw.trans (hb.mono hw.size)
  clear x9c0 x9c1 x9c2 x9c3 x9l
  clear hb
  clear d1 d2
  go_upto_region 7 with (fail)
  have hw1 := hw
  have hn1 : n₀ ≤ w5.heap.size := Nat.le_trans hn hw.size
  obtain ⟨B, hB⟩ : ∃ B, B = w5.heap.size := ⟨_, rfl⟩
  obtain ⟨W2, hW2⟩ : ∃ W, W = w5.alloc (.cells #[.slice A11 0 c11, .int .i64 40, .int .i64 0] 55) := ⟨_, rfl⟩
  rw [← hW2]
  have hb2 : Below w5.heap.size w5 W2 := by rw [hW2]; exact (Below.refl _ _).alloc (Nat.le_refl _) _
  have x11 : Blk W2 B 55 #[.slice A11 0 c11, .int .i64 40, .int .i64 0] := by rw [hW2, hB]; exact Blk.new w5 55 _
  rw [← hB]
  have hBn : n₀ ≤ B := by omega
  clear hW2
  have HBE := Lib.hid hB
  clear hB
  go_upto_block 0 with (fail)
  go_cut [13] (fun s13 wx => ∃ m, m ≤ rs.length ∧ LpD n₀ rs w5 B m s13 wx)
  case first =>
    go_wp2_with (fail)
    go_loopw [13, 62] (fun v13 v62 wr => ∃ i : Nat, i ≤ rs.length ∧ v62 = .int .i64 i ∧ LpD n₀ rs w5 B i v13 wr) (fun _ v62 _ => rs.length - (intOf v62).toNat)
    case atStart => exact ⟨0, by omega, rfl, A11, c11, none, 0, rfl, by simp [JVal, usedN_nil], x11, by omega, RowsAt.nil _ _, by simpa [endV] using World.ownsRow_nil _ _ _ _, hb2⟩
    case round =>
      clear x11 hb2
      obtain ⟨i, hi, rfl, A, c, V, cv, rfl, hv, x11, hc, r11, ho, hb⟩ := hrel
      by_cases hlt : i < rs.length
      case neg =>
        go_wp2_with (fail)
        go_meet
        exact ⟨i, hi, A, c, V, cv, rfl, hv, x11, hc, r11, ho, hb⟩
      obtain ⟨ga, oa, hRA, lga, hget⟩ := (r0.below hb).get (by omega)
      subst hRA
      obtain ⟨Ab, cb, zb, hcb, hbb⟩ := hget i (by omega)
      clear hget
      obtain ⟨b, hbd⟩ : ∃ b, b = rs.getD i [] := ⟨_, rfl⟩
      have hbl : b.length ≤ 4000 := by rw [hbd]; exact HB4.out _ (by rw [List.getD_eq_getElem?_getD, List.getElem?_eq_getElem hlt]; exact List.getElem_mem hlt)
      have hts := take_snocR rs i hlt
      rw [← hbd] at zb hcb hbb hts
      have HTS := Lib.hid hts
      clear hbd hts
      have hst : Sm (rs.take i) := ⟨by rw [List.length_take]; omega, fun x hx => HSM.out.2 x (List.mem_of_mem_take hx)⟩
      have htl : (rs.take i).length = i := by rw [List.length_take]; omega
      have HTL := Lib.hid htl
      have HST := Lib.hid hst
      have HV := Lib.hid hv
      clear hst htl hv
      have x11c0 := x11.cell 0
      have x11c1 := x11.cell 1
      have x11c2 := x11.cell 2
      simp only [List.getElem?_toArray, List.getElem?_cons_zero, List.getElem?_cons_succ] at x11c0 x11c1 x11c2
      have x11l := x11.lt
      go_wp2_with (fail)
      by_cases ha : (40 : Int) - usedN (rs.take i) < secN b
      case pos =>
        have K : Calls Try.prog 47 #[.agg #[.slice A i c, .int .i64 40, .int .i64 0], .slice Ab b.length cb] wr (fun e w' => ∃ A c, e = .returned (.tuple #[.agg #[.slice A 0 c, .int .i64 0, .int .i64 0], .int .i64 2]) ∧ Below wr.heap.size wr w') := by
          have h := append_t (n₀ := n₀) A Ab c cb ⟨rs.take i, 40, 0⟩ b wr HST.out (by omega) (by rw [HTL.out]; exact hc) r11 hbb
          rw [gApp_lim HV.out ha] at h
          dsimp only at h
          rw [HTL.out] at h
          exact h.mono fun e wi9 hx => by obtain ⟨A, c, h1, -, -, h4⟩ := jn_out (rs := []) (m := 0) (s := 0) (e := 2) hx; exact ⟨A, c, h1, h4⟩
        go_at_call 47
        refine K.mono ?_
        rintro e wi5 ⟨A5, c5, rfl, hb5⟩
        clear K x11c0 x11c1 x11c2 zb
        go_wp2_with (fail)
        go_meet
        have hb6 : Below wr.heap.size wr (wi5.alloc (.cells #[.slice A5 0 c5, .int .i64 0, .int .i64 0] 55)) := hb5.alloc hb5.size _
        exact ⟨i, hi, A, c, V, cv, rfl, HV.out, x11.below hb6 x11l, hc, r11.below hb6, row_keep ho hb6, hb.trans (hb6.mono hb.size)⟩
      have hv2 := jv_snoc HV.out ha
      rw [← HTS.out] at hv2
      have hu2 : usedN (rs.take (i + 1)) = usedN (rs.take i) + secN b := by rw [HTS.out, usedN_snoc]
      have hu4 : (usedN (rs.take (i + 1)) : Int) ≤ 40 := hv2.2.2.2.2
      have HV2 := Lib.hid hv2
      clear hv2
      have K : Calls Try.prog 47 #[.agg #[.slice A i c, .int .i64 40, .int .i64 0], .slice Ab b.length cb] wr (fun e w' => ∃ A c, e = .returned (.tuple #[.agg #[.slice A (i + 1) c, .int .i64 40, .int .i64 0], .int .i64 0]) ∧ i + 1 ≤ c ∧ RowsAt n₀ w' A (rs.take (i + 1)) ∧ Below wr.heap.size wr w') := by
        have h := append_t (n₀ := n₀) A Ab c cb ⟨rs.take i, 40, 0⟩ b wr HST.out (by omega) (by rw [HTL.out]; exact hc) r11 hbb
        rw [gApp_ok HV.out ha] at h
        dsimp only at h
        rw [HTL.out, ← HTS.out] at h
        exact h.mono fun e wi9 hx => by
          obtain ⟨A, c, h1, h2, h3, h4⟩ := jn_out (rs := rs.take (i + 1)) (m := 40) (s := 0) (e := 0) hx
          rw [show (rs.take (i + 1)).length = i + 1 by rw [List.length_take]; omega] at h1 h2
          exact ⟨A, c, h1, h2, h3, h4⟩
      go_at_call 47
      refine K.mono ?_
      rintro e wi5 ⟨A5, c5, rfl, hc5, r5, hb5⟩
      clear K x11c0 x11c1 x11c2 zb r11
      go_upto_region 14 with (fail)
      obtain ⟨Wi6, hWi6⟩ : ∃ W, W = wi5.alloc (.cells #[.slice A5 (i + 1) c5, .int .i64 40, .int .i64 0] 55) := ⟨_, rfl⟩
      rw [← hWi6]
      have hb6 : Below wi5.heap.size wi5 Wi6 := by rw [hWi6]; exact (Below.refl _ _).alloc (Nat.le_refl _) _
      have x16 : Blk Wi6 wi5.heap.size 55 #[.slice A5 (i + 1) c5, .int .i64 40, .int .i64 0] := by rw [hWi6]; exact Blk.new wi5 55 _
      clear hWi6
      have hb7 := hb5.trans (hb6.mono hb5.size)
      replace r5 := r5.below hb6
      replace x11 := x11.below hb7 x11l
      replace ho := row_keep ho hb7
      replace hb := hb.trans (hb7.mono hb.size)
      clear hb5 hb6 hb7 x11l
      have x16c0 := x16.cell 0
      have x16c1 := x16.cell 1
      have x16c2 := x16.cell 2
      have x11l := x11.lt
      simp only [List.getElem?_toArray, List.getElem?_cons_zero, List.getElem?_cons_succ] at x16c0 x16c1 x16c2
      have x11f0 := x11.frozen 0
      have x11f1 := x11.frozen 1
      have x11f2 := x11.frozen 2
      have x11c0 := x11.cell 0
      have x11c1 := x11.cell 1
      have x11c2 := x11.cell 2
      simp only [List.getElem?_toArray, List.getElem?_cons_zero, List.getElem?_cons_succ] at x11c0 x11c1 x11c2
      go_upto_region 16 with (fail)
      obtain ⟨Wi7, hWi7⟩ : ∃ W, W = ((Wi6.setCell ⟨B, 0, none⟩ (.slice A5 (i + 1) c5)).setCell ⟨B, 1, none⟩ (.int .i64 40)).setCell ⟨B, 2, none⟩ (.int .i64 0) := ⟨_, rfl⟩
      rw [← hWi7]
      have hk : Keep (fun r => r = B) Wi6 Wi7 := by rw [hWi7]; repeat (first | with_reducible exact Keep.refl _ _ | refine Keep.setCell ?_ (fun _ => by simp) _)
      have hm := Boxes.one (n₀ := n₀) x11 rfl hBn
      have hne := own_ne ho (show Wi6.heap[B]? = _ from x11) (show (55 : Nat) ≠ 3 by decide)
      replace ho := own_keepB ho hk (fun k hk1 hk2 => hne (by rw [hk1, hk2]))
      replace r5 := r5.keep hk hm
      have y11 : Blk Wi7 B 55 #[.slice A5 (i + 1) c5, .int .i64 40, .int .i64 0] := by rw [hWi7]; exact put3 x11
      replace hb := hb.trans (hk.below hb.size (fun r hr h => by have := HBE.out; omega))
      clear hWi7 hk hm hne x11c0 x11c1 x11c2 x11f0 x11f1 x11f2 x16 x16c0 x16c1 x16c2 x11 x11l
      have e0 : ((b.length : Int) + 111).tdiv 112 = (((b.length + 111) / 112 : Nat) : Int) := rfl
      obtain ⟨sn, hsn⟩ : ∃ s, s = (b.length + 111) / 112 := ⟨_, rfl⟩
      rw [← hsn] at e0
      have hsn2 : sn ≤ 40 := by omega
      have hse : secN b = max 1 sn := by rw [hsn]; rfl
      have HSE := Lib.hid hse
      clear hsn hse
      have i1 : IntKind.i64.wrap (sn : Int) = (sn : Int) := IntWalk.i64_in _ (by omega)
      go_upto_if 82 with (fail)
      obtain ⟨z, hz⟩ : ∃ z : Int, z = (if 1 < (sn : Int) then (sn : Int) else 1) := ⟨_, rfl⟩
      rw [← hz]
      have hz2 : z = (secN b : Nat) := by rw [hz, HSE.out]; split <;> omega
      obtain ⟨u, hu⟩ : ∃ u, u = usedN (rs.take (i + 1)) := ⟨_, rfl⟩
      have hu3 : (u : Int) = z + (usedN (rs.take i) : Nat) := by rw [hz2, hu, hu2]; omega
      rw [← hu] at hu4
      have HU := Lib.hid hu
      have HU3 := Lib.hid hu3
      clear hz hz2 hu hu2 hu3
      go_cut [18] (fun s18 wx => s18 = .int .i64 u ∧ wx = Wi7)
      case first =>
        by_cases h0 : i = 0
        case pos =>
          have dd : decide (0 < (i : Int)) = false := decide_eq_false (by omega)
          go_wp2_with (fail)
          go_meet
          refine ⟨congrArg (fun q : Int => Value.int .i64 q) ?_, rfl⟩
          have h9 := HU3.out
          rw [h0] at h9
          simp only [List.take_zero, usedN_nil] at h9
          omega
        case neg =>
          have dd : decide (0 < (i : Int)) = true := decide_eq_true (by omega)
          obtain ⟨q, hq⟩ : ∃ q, i = q + 1 := ⟨i - 1, by omega⟩
          obtain ⟨gE, hVe, hgl, hce⟩ := own_int ho (k := q) (by omega)
          have zc := hce q (by omega)
          subst hVe
          rw [← hq] at zc
          have iw : IntKind.i64.wrap ((i : Int) - 1) = (q : Int) := by rw [hq]; rw [show ((q + 1 : Nat) : Int) - 1 = (q : Int) by omega]; exact IntWalk.i64_in _ (by omega)
          have q0 : (0 : Int) ≤ (q : Int) := by omega
          have q1 : (q : Int) < (i : Int) := by omega
          obtain ⟨uo, huo⟩ : ∃ u, u = usedN (rs.take i) := ⟨_, rfl⟩
          have h9 := HU3.out
          rw [← huo] at zc h9
          have iz : IntKind.i64.wrap (z + (uo : Int)) = (u : Int) := by rw [← h9]; exact IntWalk.i64_in _ (by omega)
          clear h9 huo hce hq h0
          go_wp2_with (fail)
          go_meet
          exact ⟨rfl, rfl⟩
      case rest =>
        obtain ⟨rfl, hwc⟩ := hcut
        have hwc := hwc.symm
        subst hwc
        clear e0 i1 hsn2
        obtain ⟨i0, hi0, hz0, hz1, hz2⟩ := info_parts info3
        go_wp2_with (at_builtin; refine wpList_append_own _ rfl (.tmp 91) (.tmp 93) 67 rfl w5.heap.size 3 i0 (.int .i64 0) 1 8 Try.underlying67 hi0 hz0 hz1 hz2 rfl (by decide) _ i (endV rs i) rfl (ho.alloc _) ⟨Wi7.heap.size, 0, none⟩ 1 1 [.int .i64 u] rfl rfl (cell_new1 Wi7 _ _) (by simp [Value.oneCell']) (by simp [maxLen]; omega) (by omega) (by have := hb.size; simp <;> omega) ?_; intro v9 wi9 hown9 hgrow9 _; obtain ⟨V9, c9, rfl, hc9⟩ := own_slice hown9)
        have hk9 : Keep (fun r => (Value.slice V i cv).ownBlock = some r) Wi7 wi9 := ((Keep.refl (fun r => (Value.slice V i cv).ownBlock = some r) _).alloc _).grown hgrow9 (fun k hk _ => hk)
        have hm9 := own_boxes3 ho hn1
        have hne := own_ne ho (show Wi7.heap[B]? = _ from y11) (show (55 : Nat) ≠ 3 by decide)
        go_roundw
        case rel => exact ⟨i + 1, by omega, by go_num, A5, c5, V9, c9, rfl, HV2.out, y11.keep hk9 hne, hc5, r5.keep hk9 hm9, by rw [endV_snoc, ← HU.out]; exact hown9, hb.trans (hk9.below hb.size (fun r hr h9 => by have := own_base ho r h9; omega))⟩
        case measure => simp [intOf]; omega
  case rest =>
    clear x11 hb2
    obtain ⟨m, hm, A, c, V, cv, rfl, hv, x11, hc, r11, ho, hb⟩ := hcut
    obtain ⟨R, hR⟩ : ∃ R, R = rs.take m := ⟨_, rfl⟩
    have hRl : R.length = m := by rw [hR, List.length_take]; omega
    have hRS : Sm R := ⟨by omega, fun x hx => HSM.out.2 x (by rw [hR] at hx; exact List.mem_of_mem_take hx)⟩
    have he := endV_take rs m
    rw [← hR] at hv r11 he
    rw [← he] at ho
    have HRS := Lib.hid hRS
    have HV := Lib.hid hv
    clear hR hRS he hv
    subst hRl
    replace r0 := r0.below hb
    replace r9 := r9.below hb
    replace q9 := q9.below hb
    replace x9 := x9.below hb x9.lt
    replace hw := hw.trans (hb.mono hw.size)
    clear hb
    by_cases hm0 : R.length = 0
    case pos =>
      obtain rfl := List.eq_nil_of_length_eq_zero hm0
      clear hm0 ho r11
      replace x11 : Blk wc B 55 #[.slice A 0 c, .int .i64 40, .int .i64 0] := x11
      dsimp only [List.length_nil]
      have x11c0 := x11.cell 0
      have x11c1 := x11.cell 1
      have x11c2 := x11.cell 2
      have x11c3 := x11.cell 3
      simp only [List.getElem?_toArray, List.getElem?_cons_zero, List.getElem?_cons_succ] at x11c0 x11c1 x11c2 x11c3
      have x11l := x11.lt
      have x9c0 := x9.cell 0
      have x9c1 := x9.cell 1
      have x9c2 := x9.cell 2
      have x9c3 := x9.cell 3
      simp only [List.getElem?_toArray, List.getElem?_cons_zero, List.getElem?_cons_succ] at x9c0 x9c1 x9c2 x9c3
      have x9l := x9.lt
      go_wp2_with (fail)
      have K : Calls Try.prog 53 #[.agg #[.slice A 0 c, .int .i64 40, .int .i64 0], .agg #[.slice S9 40 s9, .slice P9 0 p9, .int .i64 (-1), .bool false]] wc (JsIs n₀ wc ((⟨[], 40, 0⟩, dD40), 0)) := (by have h := js_t (n₀ := n₀) A S9 P9 c s9 p9 ⟨[], 40, 0⟩ dD40 wc (Nat.le_trans hn hw.size) ⟨by decide, fun b hb => by cases hb⟩ (by simp) (by simp [dD40]) (by simp [dD40]) (by simpa [dD40] using hs9) (by simp [dD40]) (RowsAt.nil _ _) r9 q9; rw [d40_none] at h; exact h)
      go_at_call 53
      refine K.mono ?_
      intro e w6 hx
      obtain ⟨A5, c5, S5, s5, P5, p5, rfl, hc5, r5, hs5, hp5, r5s, q5, hb⟩ := js_out hx
      clear hx
      dsimp only [List.length_nil] at hc5 ⊢
      clear K
      replace r0 := r0.below hb
      replace r9 := r9.below hb
      replace q9 := q9.below hb
      replace x9 := x9.below hb x9.lt
      replace x11 := x11.below hb x11.lt
      replace hw := hw.trans (hb.mono hw.size)
      clear x11c0 x11c1 x11c2 x11c3 x11l x9c0 x9c1 x9c2 x9c3 x9l
      clear hb
      go_upto_region 22 with (fail)
      obtain ⟨W7, hW7⟩ : ∃ W, W = (w6.alloc (.cells #[.slice A5 0 c5, .int .i64 40, .int .i64 0] 55)).alloc (.cells #[.slice S5 dD40.secs.length s5, .slice P5 dD40.pend.length p5, .int .i64 dD40.left, .bool dD40.stop] 25) := ⟨_, rfl⟩
      rw [← hW7]
      have hb : Below w6.heap.size w6 W7 := by rw [hW7]; exact ((Below.refl _ _).alloc (Nat.le_refl _) _).alloc (by simp) _
      have x19 : Blk W7 w6.heap.size 55 #[.slice A5 0 c5, .int .i64 40, .int .i64 0] := by rw [hW7]; exact (Blk.new w6 55 _).alloc _
      have x20 : Blk W7 (w6.heap.size + 1) 25 #[.slice S5 dD40.secs.length s5, .slice P5 dD40.pend.length p5, .int .i64 dD40.left, .bool dD40.stop] := by rw [hW7]; exact Blk.newAt (by simp) 25 _
      clear hW7
      replace r0 := r0.below hb
      replace r9 := r9.below hb
      replace q9 := q9.below hb
      replace x9 := x9.below hb x9.lt
      replace x11 := x11.below hb x11.lt
      replace hw := hw.trans (hb.mono hw.size)
      clear hb
      go_wp2
      go_ret
      exact ⟨rfl, hw⟩
    obtain ⟨y, gjs, hry, hyp, hyl, hylf, hys, hu⟩ := dmg_sync HV.out (by omega)
    have HGJ := Lib.hid gjs
    have HRY := Lib.hid hry
    have HYP := Lib.hid hyp
    have HYL := Lib.hid hyl
    have HYF := Lib.hid hylf
    have HYS := Lib.hid hys
    clear gjs hry hyp hyl hylf hys
    have x11c0 := x11.cell 0
    have x11c1 := x11.cell 1
    have x11c2 := x11.cell 2
    have x11c3 := x11.cell 3
    simp only [List.getElem?_toArray, List.getElem?_cons_zero, List.getElem?_cons_succ] at x11c0 x11c1 x11c2 x11c3
    have x11l := x11.lt
    have x9c0 := x9.cell 0
    have x9c1 := x9.cell 1
    have x9c2 := x9.cell 2
    have x9c3 := x9.cell 3
    simp only [List.getElem?_toArray, List.getElem?_cons_zero, List.getElem?_cons_succ] at x9c0 x9c1 x9c2 x9c3
    have x9l := x9.lt
    go_wp2_with (fail)
    have K : Calls Try.prog 53 #[.agg #[.slice A R.length c, .int .i64 40, .int .i64 0], .agg #[.slice S9 40 s9, .slice P9 0 p9, .int .i64 (-1), .bool false]] wc (fun e w' => ∃ A c S s P p, e = .returned (.tuple #[.agg #[.slice A R.length c, .int .i64 40, .int .i64 R.length], .agg #[.slice S 40 s, .slice P 0 p, .int .i64 (-1), .bool false], .int .i64 0]) ∧ 40 ≤ s ∧ RowsAt n₀ w' S y.secs ∧ Below wc.heap.size wc w') := (by have h := js_t (n₀ := n₀) A S9 P9 c s9 p9 ⟨R, 40, 0⟩ dD40 wc (Nat.le_trans hn hw.size) HRS.out hc (by simp [dD40]) (by simp [dD40]) (by simpa [dD40] using hs9) (by simp [dD40]) r11 r9 q9; rw [HGJ.out] at h; exact h.mono fun e w9 hx => by obtain ⟨A5, c5, S5, s5, P5, p5, rfl, hc5, r5, hs5, hp5, r5s, q5, hB⟩ := js_out hx; rw [HYL.out] at hs5; rw [HYL.out, HYP.out, HYF.out, HRY.out.2]; exact ⟨A5, c5, S5, s5, P5, p5, rfl, hs5, r5s, hB⟩)
    go_at_call 53
    refine K.mono ?_
    rintro e w6 ⟨A5, c5, S5, s5, P5, p5, rfl, hs5, r5, hb⟩
    clear K
    replace r0 := r0.below hb
    replace r9 := r9.below hb
    replace q9 := q9.below hb
    replace r11 := r11.below hb
    replace x9 := x9.below hb x9.lt
    replace x11 := x11.below hb x11.lt
    replace ho := row_keep ho hb
    replace hw := hw.trans (hb.mono hw.size)
    clear x11c0 x11c1 x11c2 x11c3 x11l x9c0 x9c1 x9c2 x9c3 x9l
    clear hb
    obtain ⟨gE, hVe, hgl, -⟩ := own_int ho (k := 0) (by omega)
    subst hVe
    obtain ⟨cur, xE, hcu⟩ := own_blkE ho
    have HCU := Lib.hid hcu
    clear hcu ho
    have hn6 : n₀ ≤ w6.heap.size := Nat.le_trans hn hw.size
    have hw6 : w.heap.size ≤ w6.heap.size := hw.size
    have hB6 : B < w6.heap.size := x11.lt
    obtain ⟨gs, os, hS5, lgs, hget⟩ := r5.get (by rw [HYL.out]; decide)
    subst hS5
    clear lgs hget
    go_upto_region 22 with (fail)
    obtain ⟨W7, hW7⟩ : ∃ W, W = (w6.alloc (.cells #[.slice A5 R.length c5, .int .i64 40, .int .i64 R.length] 55)).alloc (.cells #[.slice (some ⟨gs, os, none⟩) 40 s5, .slice P5 0 p5, .int .i64 (-1), .bool false] 25) := ⟨_, rfl⟩
    rw [← hW7]
    have hb : Below w6.heap.size w6 W7 := by rw [hW7]; exact ((Below.refl _ _).alloc (Nat.le_refl _) _).alloc (by simp) _
    have x19 : Blk W7 w6.heap.size 55 #[.slice A5 R.length c5, .int .i64 40, .int .i64 R.length] := by rw [hW7]; exact (Blk.new w6 55 _).alloc _
    have x20 : Blk W7 (w6.heap.size + 1) 25 #[.slice (some ⟨gs, os, none⟩) 40 s5, .slice P5 0 p5, .int .i64 (-1), .bool false] := by rw [hW7]; exact Blk.newAt (by simp) 25 _
    clear hW7
    replace r0 := r0.below hb
    replace r9 := r9.below hb
    replace q9 := q9.below hb
    replace r11 := r11.below hb
    replace r5 := r5.below hb
    replace x9 := x9.below hb x9.lt
    replace x11 := x11.below hb x11.lt
    replace xE := xE.below hb xE.lt
    replace hw := hw.trans (hb.mono hw.size)
    clear hb
    clear x19 x9
    obtain ⟨un, hun⟩ : ∃ u, u = usedN R := ⟨_, rfl⟩
    rw [← hun] at hu
    have hu1 : 0 < un := by
      rw [hun]
      cases hRc : R with
      | nil => rw [hRc] at hm0; exact absurd rfl hm0
      | cons b R2 => rw [usedN_cons]; have := secN_pos b; omega
    have HUN := Lib.hid hun
    clear hun
    obtain ⟨q, hq⟩ : ∃ q, R.length = q + 1 := ⟨R.length - 1, by omega⟩
    have zc : W7.cell? ⟨gE, q, none⟩ = some (.int .i64 un) := by have h9 := HCU.out q (by omega); rw [← hq, List.take_length, ← HUN.out] at h9; rw [xE.cell, List.getElem?_toArray]; exact h9
    have iw : IntKind.i64.wrap ((R.length : Int) - 1) = (q : Int) := by rw [hq]; rw [show ((q + 1 : Nat) : Int) - 1 = (q : Int) by omega]; exact IntWalk.i64_in _ (by have := HRS.out.1; omega)
    have q0 : (0 : Int) ≤ (q : Int) := by omega
    have q1 : (q : Int) < (R.length : Int) := by omega
    have hR9 : R.length ≤ 4000 := by omega
    have hRp : 0 < R.length := by omega
    clear hq
    have dm : ((R.length : Int) == 0) = false := by rw [beq_eq_false_iff_ne]; omega
    clear hm0
    obtain ⟨su, hsu⟩ : ∃ su : Nat, IntKind.u64.wrap sec = (su : Int) := ⟨(IntKind.u64.wrap sec).toNat, by have := u64_rng sec; omega⟩
    have hsul : su < 18446744073709551616 := by have := u64_rng sec; omega
    obtain ⟨k, hk⟩ : ∃ k, k = su % un := ⟨_, rfl⟩
    have hk2 : k < un := by rw [hk]; exact Nat.mod_lt _ hu1
    have wu : IntKind.u64.wrap (un : Int) = (un : Int) := IntWalk.u64_in _ (by omega)
    have wr : (su : Int) % (un : Int) = (k : Int) := by rw [hk]; rfl
    have wk : wrap64 (k : Int) = (k : Int) := by unfold wrap64; omega
    have un0 : ¬ (un : Int) = 0 := by omega
    have un1 : ((un : Int) == 0) = false := by rw [beq_eq_false_iff_ne]; omega
    clear hsul hk
    have HWR := Lib.hid wr
    have HWK := Lib.hid wk
    clear wr wk
    go_upto_region 25 with (fail)
    rw [HWR.out, HWK.out]
    clear wu hsu un0 un1 zc iw q0 q1
    obtain ⟨gs2, os2, hS2, lgs, hget⟩ := r5.get (by rw [HYL.out]; decide)
    cases hS2
    obtain ⟨Ak, ck, zk, hck, hbk⟩ := hget k (by rw [HYL.out]; omega)
    obtain ⟨sk, hsk⟩ : ∃ s, s = y.secs.getD k [] := ⟨_, rfl⟩
    have hsl : sk.length = 128 := by rw [hsk]; exact secs_len HRY.out (by rw [HYL.out]; omega)
    rw [← hsk] at zk hck hbk
    rw [hsl] at zk hck
    have HSL := Lib.hid hsl
    have HSK := Lib.hid hsk
    clear hget hsk hsl
    have dk1 : decide (40 ≤ (k : Int)) = false := decide_eq_false (by omega)
    have k0 : (0 : Int) ≤ (k : Int) := by omega
    have k1 : (k : Int) < 40 := by omega
    have x11c0 := x11.cell 0
    have x11c1 := x11.cell 1
    have x11c2 := x11.cell 2
    have x11c3 := x11.cell 3
    simp only [List.getElem?_toArray, List.getElem?_cons_zero, List.getElem?_cons_succ] at x11c0 x11c1 x11c2 x11c3
    have x11l := x11.lt
    have x20c0 := x20.cell 0
    have x20c1 := x20.cell 1
    have x20c2 := x20.cell 2
    have x20c3 := x20.cell 3
    simp only [List.getElem?_toArray, List.getElem?_cons_zero, List.getElem?_cons_succ] at x20c0 x20c1 x20c2 x20c3
    have x20l := x20.lt
    go_upto_region 27 with (fail)
    clear dm
    obtain ⟨i5, hi5, hy0, hy1, hy2⟩ := info_parts info5
    have ow := World.ownsRow_lit (base := W7.heap.size) (e := 5) (size := 1) W7 #[] 0 (Nat.le_refl _) (by simp [maxLen]) rfl
    have hal : Below W7.heap.size W7 (W7.alloc (.cells #[] 5)) := (Below.refl _ _).alloc (Nat.le_refl _) _
    have hbc : (bcells sk).length = 128 := by rw [bcells_len, HSL.out]
    have HBC := Lib.hid hbc
    clear hbc
    go_upto_region 28 with (at_builtin; refine wpList_append_any (by rfl) (.tmp 145) (.tmp 150) 35 rfl W7.heap.size 5 i5 (.int .u8 0) 1 1 Try.underlying35 hi5 hy0 hy1 hy2 rfl (by decide) _ 0 [] rfl ow Ak 128 ck (bcells sk) rfl HBC.out (fun _ => bs_src hbk hal (by rw [HSL.out]; decide)) (bcells_one _) (by simp [maxLen]) (by omega) (by simp) ?_; intro v7 w17 hown7 hgrow7; simp only [Nat.zero_add, List.nil_append] at hown7; obtain ⟨A7, c7, rfl, hc7⟩ := own_slice hown7; obtain ⟨g7, rfl, hg7a, hg7b⟩ := own_some hown7 (by decide); have hbz := hal.grown hgrow7 (by simp) (own_base ow))
    clear zk hck hbk ow hal hgrow7 dk1 lgs
    clear x11c0 x11c1 x11c2 x11c3 x11l x20c0 x20c1 x20c2 x20c3 x20l
    obtain ⟨sa, hsa⟩ : ∃ su : Nat, IntKind.u64.wrap at_ = (su : Int) := ⟨(IntKind.u64.wrap at_).toNat, by have := u64_rng at_; omega⟩
    have hi : sa % 128 < 128 := Nat.mod_lt _ (by decide)
    obtain ⟨zi, zf⟩ := own_byte hown7 HSL.out.symm (sa % 128) hi
    obtain ⟨bo, hbo⟩ : ∃ b, b = sk.getD (sa % 128) 0 := ⟨_, rfl⟩
    rw [← hbo] at zi
    have HBO := Lib.hid hbo
    clear hbo
    have hxr : bits .xor .u8 (bo.toNat : Int) (by_.toNat : Int) = ((bo ^^^ by_).toNat : Int) := by rw [u8_xor_nat _ _ bo.toNat_lt by_.toNat_lt]; rfl
    go_upto_region 29 with (fail)
    have bs8 := own_setB (n₀ := n₀) hown7 HSL.out.symm (sa % 128) (bo ^^^ by_)
    rw [UInt8.toNat_xor] at bs8
    obtain ⟨W18, hW18⟩ : ∃ W, W = w17.setCell ⟨g7, sa % 128, none⟩ (.int .u8 ((bo.toNat ^^^ by_.toNat : Nat) : Int)) := ⟨_, rfl⟩
    rw [← hW18] at bs8 ⊢
    have hk : Keep (fun r => r = g7) w17 W18 := by rw [hW18]; exact (Keep.refl (fun r => r = g7) w17).setCell (p := ⟨g7, sa % 128, none⟩) (fun _ => rfl) _
    have hb : Below W7.heap.size W7 W18 := hbz.trans (hk.below hbz.size (fun r hr h => by omega))
    clear hW18 hk hown7 zi zf hbz hsa hxr
    replace r0 := r0.below hb
    replace r9 := r9.below hb
    replace q9 := q9.below hb
    replace r11 := r11.below hb
    replace r5 := r5.below hb
    replace x11 := x11.below hb x11.lt
    replace xE := xE.below hb xE.lt
    replace x20 := x20.below hb x20.lt
    replace hw := hw.trans (hb.mono hw.size)
    clear hb
    obtain ⟨bn, hbn⟩ : ∃ b, b = sk.set (sa % 128) (bo ^^^ by_) := ⟨_, rfl⟩
    have hbl : bn.length = 128 := by rw [hbn, List.length_set]; exact HSL.out
    obtain ⟨n, x, z, hn1, hn2, hn3, hgw, hgs, hgo, hx1, hx2, hz1, hz2⟩ := dmg_read HRY.out HYP.out HYL.out HYF.out HYS.out (by rw [← HUN.out]; exact hu) (k := k) (i := sa % 128) (v := bo ^^^ by_) (by rw [← HUN.out]; exact hk2) hi (by rw [← HSK.out, ← HBO.out]; exact xor_ne HBY.out)
    rw [← HSK.out, ← hbn] at hgw
    rw [← hbn] at bs8
    have HGW := Lib.hid hgw
    have HGS := Lib.hid hgs
    have HGO := Lib.hid hgo
    have HN2 := Lib.hid hn2
    have HN3 := Lib.hid hn3
    have HX1 := Lib.hid hx1
    have HX2 := Lib.hid hx2
    have HZ1 := Lib.hid hz1
    have HZ2 := Lib.hid hz2
    have HBL := Lib.hid hbl
    clear hbn hbl hgw hgs hgo hn2 hn3 hx1 hx2 hz1 hz2 hi HBO
    have x20c0 := x20.cell 0
    have x20c1 := x20.cell 1
    have x20c2 := x20.cell 2
    have x20c3 := x20.cell 3
    simp only [List.getElem?_toArray, List.getElem?_cons_zero, List.getElem?_cons_succ] at x20c0 x20c1 x20c2 x20c3
    have x20l := x20.lt
    go_wp2_with (fail)
    have K : Calls Try.prog 32 #[.agg #[.slice (some ⟨gs, os, none⟩) 40 s5, .slice P5 0 p5, .int .i64 (-1), .bool false], .int .i64 k, .slice (some ⟨g7, 0, none⟩) 128 c7] W18 (DkIs n₀ W18 (x, 0)) := (by have h := write_t (n₀ := n₀) (some ⟨gs, os, none⟩) P5 (some ⟨g7, 0, none⟩) s5 p5 c7 y k bn W18 (by rw [HYL.out]; decide) (by rw [HYP.out]; decide) (by rw [HBL.out]; decide) (by rw [HYL.out]; exact hs5) r5 (by rw [HYP.out]; exact ⟨[], ⟨rfl, fun i hi => absurd hi (by simp)⟩, fun h0 => absurd h0 (by simp)⟩) bs8; rw [HGW.out, HYL.out, HYP.out, HYF.out, HRY.out.2, HBL.out] at h; exact h)
    go_at_call 32
    refine K.mono ?_
    rintro e w8 ⟨v13, rfl, ⟨S13, s13, P13, p13, rfl, hs13, hp13, r13, q13⟩, hb⟩
    clear K
    replace r0 := r0.below hb
    replace r9 := r9.below hb
    replace q9 := q9.below hb
    replace r11 := r11.below hb
    replace r5 := r5.below hb
    replace bs8 := bs8.below hb
    replace x11 := x11.below hb x11.lt
    replace xE := xE.below hb xE.lt
    replace x20 := x20.below hb x20.lt
    replace hw := hw.trans (hb.mono hw.size)
    clear x20c0 x20c1 x20c2 x20c3 x20l
    clear hb
    have x20c0 := x20.cell 0
    have x20f0 := x20.frozen 0
    have x20c1 := x20.cell 1
    have x20f1 := x20.frozen 1
    have x20c2 := x20.cell 2
    have x20f2 := x20.frozen 2
    have x20c3 := x20.cell 3
    have x20f3 := x20.frozen 3
    simp only [List.getElem?_toArray, List.getElem?_cons_zero, List.getElem?_cons_succ] at x20c0 x20c1 x20c2 x20c3
    have x20l := x20.lt
    go_upto_region 30 with (fail)
    obtain ⟨W9, hW9⟩ : ∃ W, W = ((((w8.setCell ⟨(w6.heap.size + 1), 0, none⟩ (.slice S13 x.secs.length s13)).setCell ⟨(w6.heap.size + 1), 1, none⟩ (.slice P13 x.pend.length p13)).setCell ⟨(w6.heap.size + 1), 2, none⟩ (.int .i64 x.left)).setCell ⟨(w6.heap.size + 1), 3, none⟩ (.bool x.stop)) := ⟨_, rfl⟩
    rw [← hW9]
    have hk : Keep (fun r => r = (w6.heap.size + 1)) w8 W9 := by rw [hW9]; repeat (first | with_reducible exact Keep.refl _ _ | refine Keep.setCell ?_ (fun _ => by simp) _)
    have hm := Boxes.one (n₀ := n₀) x20 rfl (by omega)
    replace r0 := r0.keep hk hm
    replace r9 := r9.keep hk hm
    replace q9 := q9.keep hk hm
    replace r11 := r11.keep hk hm
    replace r5 := r5.keep hk hm
    replace bs8 := bs8.keep hk hm
    replace r13 := r13.keep hk hm
    replace q13 := q13.keep hk hm
    replace x11 := x11.keep hk (fun h => by omega)
    replace xE := xE.keep hk (fun h => by omega)
    replace x20 : Blk W9 (w6.heap.size + 1) 25 #[.slice S13 x.secs.length s13, .slice P13 x.pend.length p13, .int .i64 x.left, .bool x.stop] := by rw [hW9]; exact ((((x20.set 0 (.slice S13 x.secs.length s13)).set 1 (.slice P13 x.pend.length p13)).set 2 (.int .i64 x.left)).set 3 (.bool x.stop))
    replace hw := hw.trans (hk.below hw.size (fun r hr h => by omega))
    clear x20f0 x20f1 x20f2 x20f3 x20c0 x20c1 x20c2 x20c3 x20l
    clear hW9 hk hm
    clear bs8 r5 r9 q9
    have x20c0 := x20.cell 0
    have x20c1 := x20.cell 1
    have x20c2 := x20.cell 2
    have x20c3 := x20.cell 3
    simp only [List.getElem?_toArray, List.getElem?_cons_zero, List.getElem?_cons_succ] at x20c0 x20c1 x20c2 x20c3
    have x20l := x20.lt
    go_wp2_with (fail)
    have K : Calls Try.prog 36 #[.agg #[.slice S13 x.secs.length s13, .slice P13 x.pend.length p13, .int .i64 x.left, .bool x.stop]] W9 (DkIs n₀ W9 (z, 0)) := (by have h := sync_t (n₀ := n₀) S13 P13 s13 p13 x W9 (by rw [HX1.out]; decide) (by rw [HX2.out]; decide) hp13 r13 q13; rw [HGS.out] at h; exact h)
    go_at_call 36
    refine K.mono ?_
    rintro e w10 ⟨v14, rfl, ⟨S14, s14, P14, p14, rfl, hs14, hp14, r14, q14⟩, hb⟩
    clear K
    replace r0 := r0.below hb
    replace r11 := r11.below hb
    replace r13 := r13.below hb
    replace q13 := q13.below hb
    replace x11 := x11.below hb x11.lt
    replace xE := xE.below hb xE.lt
    replace x20 := x20.below hb x20.lt
    replace hw := hw.trans (hb.mono hw.size)
    clear x20c0 x20c1 x20c2 x20c3 x20l
    clear hb
    have x20c0 := x20.cell 0
    have x20f0 := x20.frozen 0
    have x20c1 := x20.cell 1
    have x20f1 := x20.frozen 1
    have x20c2 := x20.cell 2
    have x20f2 := x20.frozen 2
    have x20c3 := x20.cell 3
    have x20f3 := x20.frozen 3
    simp only [List.getElem?_toArray, List.getElem?_cons_zero, List.getElem?_cons_succ] at x20c0 x20c1 x20c2 x20c3
    have x20l := x20.lt
    go_upto_region 31 with (fail)
    obtain ⟨W11, hW11⟩ : ∃ W, W = ((((w10.setCell ⟨(w6.heap.size + 1), 0, none⟩ (.slice S14 z.secs.length s14)).setCell ⟨(w6.heap.size + 1), 1, none⟩ (.slice P14 z.pend.length p14)).setCell ⟨(w6.heap.size + 1), 2, none⟩ (.int .i64 z.left)).setCell ⟨(w6.heap.size + 1), 3, none⟩ (.bool z.stop)) := ⟨_, rfl⟩
    rw [← hW11]
    have hk : Keep (fun r => r = (w6.heap.size + 1)) w10 W11 := by rw [hW11]; repeat (first | with_reducible exact Keep.refl _ _ | refine Keep.setCell ?_ (fun _ => by simp) _)
    have hm := Boxes.one (n₀ := n₀) x20 rfl (by omega)
    replace r0 := r0.keep hk hm
    replace r11 := r11.keep hk hm
    replace r13 := r13.keep hk hm
    replace q13 := q13.keep hk hm
    replace r14 := r14.keep hk hm
    replace q14 := q14.keep hk hm
    replace x11 := x11.keep hk (fun h => by omega)
    replace xE := xE.keep hk (fun h => by omega)
    replace x20 : Blk W11 (w6.heap.size + 1) 25 #[.slice S14 z.secs.length s14, .slice P14 z.pend.length p14, .int .i64 z.left, .bool z.stop] := by rw [hW11]; exact ((((x20.set 0 (.slice S14 z.secs.length s14)).set 1 (.slice P14 z.pend.length p14)).set 2 (.int .i64 z.left)).set 3 (.bool z.stop))
    replace hw := hw.trans (hk.below hw.size (fun r hr h => by omega))
    clear x20f0 x20f1 x20f2 x20f3 x20c0 x20c1 x20c2 x20c3 x20l
    clear hW11 hk hm
    clear r13 q13
    have x20c0 := x20.cell 0
    have x20c1 := x20.cell 1
    have x20c2 := x20.cell 2
    have x20c3 := x20.cell 3
    simp only [List.getElem?_toArray, List.getElem?_cons_zero, List.getElem?_cons_succ] at x20c0 x20c1 x20c2 x20c3
    have x20l := x20.lt
    go_wp2_with (fail)
    have hRt : (R.take n).length = n := by rw [List.length_take]; omega
    have HRT := Lib.hid hRt
    clear hRt
    have K : Calls Try.prog 44 #[.agg #[.slice S14 z.secs.length s14, .slice P14 z.pend.length p14, .int .i64 z.left, .bool z.stop]] W11 (fun e w' => ∃ A c, e = .returned (.tuple #[.agg #[.slice A n c, .int .i64 40, .int .i64 n], .int .i64 0]) ∧ n ≤ c ∧ RowsAt n₀ w' A (R.take n) ∧ Below W11.heap.size W11 w') := (by have h := open_t (n₀ := n₀) S14 P14 s14 p14 z W11 (Nat.le_trans hn hw.size) (by rw [HZ1.out]; decide) (by rw [HZ2.out]; decide) r14 q14; rw [HGO.out] at h; exact h.mono fun e w9 hx => by obtain ⟨A, c, h1, h2, h3, h4⟩ := jn_out (rs := R.take n) (m := 40) (s := n) (e := 0) hx; rw [HRT.out] at h1 h2; exact ⟨A, c, h1, h2, h3, h4⟩)
    go_at_call 44
    refine K.mono ?_
    rintro e w12 ⟨A15, c15, rfl, hc15, r15, hb⟩
    clear K
    replace r0 := r0.below hb
    replace r11 := r11.below hb
    replace r14 := r14.below hb
    replace q14 := q14.below hb
    replace x11 := x11.below hb x11.lt
    replace xE := xE.below hb xE.lt
    replace x20 := x20.below hb x20.lt
    replace hw := hw.trans (hb.mono hw.size)
    clear x20c0 x20c1 x20c2 x20c3 x20l
    clear hb
    go_upto_region 32 with (fail)
    obtain ⟨W13, hW13⟩ : ∃ W, W = w12.alloc (.cells #[.slice A15 n c15, .int .i64 40, .int .i64 n] 55) := ⟨_, rfl⟩
    rw [← hW13]
    have hb : Below w12.heap.size w12 W13 := by rw [hW13]; exact (Below.refl _ _).alloc (Nat.le_refl _) _
    have x25 : Blk W13 w12.heap.size 55 #[.slice A15 n c15, .int .i64 40, .int .i64 n] := by rw [hW13]; exact Blk.new w12 55 _
    clear hW13
    replace r0 := r0.below hb
    replace r11 := r11.below hb
    replace r14 := r14.below hb
    replace q14 := q14.below hb
    replace r15 := r15.below hb
    replace x11 := x11.below hb x11.lt
    replace xE := xE.below hb xE.lt
    replace x20 := x20.below hb x20.lt
    replace hw := hw.trans (hb.mono hw.size)
    clear hb
    clear x20
    clear r14 q14 r0
    skip
    go_wp2_with (fail)
    go_loopw [27] (fun v wr => ∃ j : Nat, j ≤ n ∧ v = .int .i64 j ∧ Below W13.heap.size W13 wr) (fun v _ => n - (intOf v).toNat)
    case atStart => exact ⟨0, by omega, rfl, Below.refl _ _⟩
    case round =>
      obtain ⟨j, hj, rfl, hb⟩ := hrel
      have hb0 := hb
      replace r11 := r11.below hb
      replace r15 := r15.below hb
      replace x11 := x11.below hb x11.lt
      replace xE := xE.below hb xE.lt
      replace x25 := x25.below hb x25.lt
      replace hw := hw.trans (hb.mono hw.size)
      clear hb
      have j0 : (0 : Int) ≤ (j : Int) := by omega
      have j1 : (j : Int) < (R.length : Int) := by omega
      have d1 : decide ((j : Int) < (R.length : Int)) = true := decide_eq_true (by omega)
      have d1n : decide (j < R.length) = true := decide_eq_true (by omega)
      obtain ⟨uj, huj⟩ : ∃ u, u = usedN (R.take (j + 1)) := ⟨_, rfl⟩
      have zj : wr.cell? ⟨gE, j, none⟩ = some (.int .i64 uj) := by rw [xE.cell, List.getElem?_toArray, huj]; exact HCU.out j (by omega)
      have HUJ := Lib.hid huj
      clear huj
      by_cases hjn : j < n
      case pos =>
        have d2 : decide ((uj : Int) ≤ (k : Int)) = true := decide_eq_true (by rw [HUJ.out]; have := HN2.out j hjn; omega)
        have d2n : decide (uj ≤ k) = true := decide_eq_true (by rw [HUJ.out]; exact HN2.out j hjn)
        go_wp2_with (fail)
        go_roundw
        case rel => exact ⟨j + 1, by omega, by go_num, hb0⟩
        case measure => simp [intOf]; omega
      obtain rfl : j = n := by omega
      have d2 : decide ((uj : Int) ≤ (k : Int)) = false := decide_eq_false (by rw [HUJ.out]; have := HN3.out; omega)
      have d2n : decide (uj ≤ k) = false := decide_eq_false (by rw [HUJ.out]; have := HN3.out; omega)
      go_upto_region 35 with (fail)
      clear d1 d1n d2 d2n zj hjn hb0
      have x25c0 := x25.cell 0
      have x25c1 := x25.cell 1
      have x25c2 := x25.cell 2
      have x25c3 := x25.cell 3
      simp only [List.getElem?_toArray, List.getElem?_cons_zero, List.getElem?_cons_succ] at x25c0 x25c1 x25c2 x25c3
      have x25l := x25.lt
      have x11c0 := x11.cell 0
      have x11c1 := x11.cell 1
      have x11c2 := x11.cell 2
      have x11c3 := x11.cell 3
      simp only [List.getElem?_toArray, List.getElem?_cons_zero, List.getElem?_cons_succ] at x11c0 x11c1 x11c2 x11c3
      have x11l := x11.lt
      have hsr : ∀ W, Below wr.heap.size wr W → Calls Try.prog 55 #[.slice A15 j c15, .slice A j c] W (fun e w' => e = .returned (.bool true) ∧ Below W.heap.size W w') := fun W hW => by
        have hr := rows_take (r11.below hW) j
        have h := sameR_t (n₀ := n₀) A15 A c15 c (R.take j) (R.take j) W (by rw [HRT.out]; omega) (by rw [HRT.out]; omega) (r15.below hW) hr
        rw [HRT.out] at h
        simpa using h
      have HSR := Lib.hid hsr
      clear hsr
      have nc : (j : Int) ≤ (c : Int) := by omega
      have hS : ∀ W, Below wr.heap.size wr W → (fun W => W.cell? ⟨w12.heap.size, 0, none⟩ = some (.slice A15 j c15) ∧ W.cell? ⟨w12.heap.size, 1, none⟩ = some (.int .i64 40) ∧ W.cell? ⟨w12.heap.size, 2, none⟩ = some (.int .i64 j) ∧ W.cell? ⟨B, 0, none⟩ = some (.slice A R.length c) ∧ W.cell? ⟨B, 1, none⟩ = some (.int .i64 40) ∧ W.cell? ⟨B, 2, none⟩ = some (.int .i64 0) ∧ Below wr.heap.size wr W) W := fun W hW => ⟨(hW.cell (p := ⟨w12.heap.size, 0, none⟩) x25l).trans x25c0, (hW.cell (p := ⟨w12.heap.size, 1, none⟩) x25l).trans x25c1, (hW.cell (p := ⟨w12.heap.size, 2, none⟩) x25l).trans x25c2, (hW.cell (p := ⟨B, 0, none⟩) x11l).trans x11c0, (hW.cell (p := ⟨B, 1, none⟩) x11l).trans x11c1, (hW.cell (p := ⟨B, 2, none⟩) x11l).trans x11c2, hW⟩
      have HSS := Lib.hid hS
      clear hS
      refine wp_region_held_drew (S := (fun W => W.cell? ⟨w12.heap.size, 0, none⟩ = some (.slice A15 j c15) ∧ W.cell? ⟨w12.heap.size, 1, none⟩ = some (.int .i64 40) ∧ W.cell? ⟨w12.heap.size, 2, none⟩ = some (.int .i64 j) ∧ W.cell? ⟨B, 0, none⟩ = some (.slice A R.length c) ∧ W.cell? ⟨B, 1, none⟩ = some (.int .i64 40) ∧ W.cell? ⟨B, 2, none⟩ = some (.int .i64 0) ∧ Below wr.heap.size wr W)) (by kernel_rfl) (HSS.out _ (Below.refl _ _).drew) (fun hHeld => ?_)
      refine wpAnyH_take (i := 0) (oi := { dst := some 192, op := Op.move (Operand.tmp 21), type := 28, pos := "law.go:198", after := #[], guard := none }) (v := ?_) rfl (by kernel_rfl) (by kernel_rfl) (by kernel_rfl) (fun _ _ _ h => h) (Or.inl ⟨by rfl, ?_⟩) (by assumption) ?_
      rotate_left
      · intro wS hSw; go_split_ands; go_simp; first | done | with_reducible rfl
      simp only [Act.put, List.setIfInBounds_toArray, List.set_cons_zero, List.set_cons_succ]
      refine wpAnyH_take (i := 1) (oi := { dst := some 193, op := Op.binOp BinOp.eql 28 (Operand.tmp 192) (Operand.const (Value.int IntKind.i64 0)) 28, type := 4, pos := "law.go:198", after := #[{ on := 0, ground := Ground.data }], guard := none }) (v := ?_) rfl (by kernel_rfl) (by kernel_rfl) (by kernel_rfl) (fun _ _ _ h => h) (Or.inl ⟨by rfl, ?_⟩) (by assumption) ?_
      rotate_left
      · intro wS hSw; go_split_ands; go_simp; first | done | with_reducible rfl
      simp only [Act.put, List.setIfInBounds_toArray, List.set_cons_zero, List.set_cons_succ]
      refine wpAnyH_take (i := 2) (oi := { dst := some 194, op := Op.move (Operand.tmp 193), type := 4, pos := "law.go:198", after := #[{ on := 1, ground := Ground.data }], guard := none }) (v := ?_) rfl (by kernel_rfl) (by kernel_rfl) (by kernel_rfl) (fun _ _ _ h => h) (Or.inl ⟨by rfl, ?_⟩) (by assumption) ?_
      rotate_left
      · intro wS hSw; go_split_ands; go_simp; first | done | with_reducible rfl
      simp only [Act.put, List.setIfInBounds_toArray, List.set_cons_zero, List.set_cons_succ]
      refine wpAnyH_take (i := 3) (oi := { dst := some 195, op := Op.move (Operand.tmp 24), type := 28, pos := "law.go:198", after := #[{ on := 2, ground := Ground.guard }], guard := some (2, true) }) (v := ?_) rfl (by kernel_rfl) (by kernel_rfl) (by kernel_rfl) (fun _ _ _ h => h) (Or.inl ⟨by rfl, ?_⟩) (by assumption) ?_
      rotate_left
      · intro wS hSw; go_split_ands; go_simp; first | done | with_reducible rfl
      simp only [Act.put, List.setIfInBounds_toArray, List.set_cons_zero, List.set_cons_succ]
      refine wpAnyH_take (i := 4) (oi := { dst := some 196, op := Op.binOp BinOp.eql 28 (Operand.tmp 195) (Operand.const (Value.int IntKind.i64 0)) 28, type := 4, pos := "law.go:198", after := #[{ on := 3, ground := Ground.data }, { on := 2, ground := Ground.guard }], guard := some (2, true) }) (v := ?_) rfl (by kernel_rfl) (by kernel_rfl) (by kernel_rfl) (fun _ _ _ h => h) (Or.inl ⟨by rfl, ?_⟩) (by assumption) ?_
      rotate_left
      · intro wS hSw; go_split_ands; go_simp; first | done | with_reducible rfl
      simp only [Act.put, List.setIfInBounds_toArray, List.set_cons_zero, List.set_cons_succ]
      refine wpAnyH_take (i := 5) (oi := { dst := some 197, op := Op.pick (Operand.tmp 194) (Operand.tmp 196) (Operand.const (Value.bool false)), type := 4, pos := "law.go:198", after := #[{ on := 2, ground := Ground.data }, { on := 4, ground := Ground.data }], guard := none }) (v := ?_) rfl (by kernel_rfl) (by kernel_rfl) (by kernel_rfl) (fun _ _ _ h => h) (Or.inl ⟨by rfl, ?_⟩) (by assumption) ?_
      rotate_left
      · intro wS hSw; go_split_ands; go_simp; first | done | with_reducible rfl
      simp only [Act.put, List.setIfInBounds_toArray, List.set_cons_zero, List.set_cons_succ]
      refine wpAnyH_take (i := 6) (oi := { dst := some 198, op := Op.move (Operand.tmp 197), type := 4, pos := "law.go:198", after := #[{ on := 5, ground := Ground.data }, { on := 2, ground := Ground.chain }], guard := none }) (v := ?_) rfl (by kernel_rfl) (by kernel_rfl) (by kernel_rfl) (fun _ _ _ h => h) (Or.inl ⟨by rfl, ?_⟩) (by assumption) ?_
      rotate_left
      · intro wS hSw; go_split_ands; go_simp; first | done | with_reducible rfl
      simp only [Act.put, List.setIfInBounds_toArray, List.set_cons_zero, List.set_cons_succ]
      refine wpAnyH_take (i := 7) (oi := { dst := some 199, op := Op.move (Operand.tmp 26), type := 28, pos := "law.go:198", after := #[{ on := 6, ground := Ground.guard }], guard := some (6, true) }) (v := ?_) rfl (by kernel_rfl) (by kernel_rfl) (by kernel_rfl) (fun _ _ _ h => h) (Or.inl ⟨by rfl, ?_⟩) (by assumption) ?_
      rotate_left
      · intro wS hSw; go_split_ands; go_simp; first | done | with_reducible rfl
      simp only [Act.put, List.setIfInBounds_toArray, List.set_cons_zero, List.set_cons_succ]
      refine wpAnyH_take (i := 8) (oi := { dst := some 200, op := Op.binOp BinOp.eql 28 (Operand.tmp 199) (Operand.const (Value.int IntKind.i64 0)) 28, type := 4, pos := "law.go:198", after := #[{ on := 7, ground := Ground.data }, { on := 6, ground := Ground.guard }], guard := some (6, true) }) (v := ?_) rfl (by kernel_rfl) (by kernel_rfl) (by kernel_rfl) (fun _ _ _ h => h) (Or.inl ⟨by rfl, ?_⟩) (by assumption) ?_
      rotate_left
      · intro wS hSw; go_split_ands; go_simp; first | done | with_reducible rfl
      simp only [Act.put, List.setIfInBounds_toArray, List.set_cons_zero, List.set_cons_succ]
      refine wpAnyH_take (i := 9) (oi := { dst := some 201, op := Op.pick (Operand.tmp 198) (Operand.tmp 200) (Operand.const (Value.bool false)), type := 4, pos := "law.go:198", after := #[{ on := 6, ground := Ground.data }, { on := 8, ground := Ground.data }], guard := none }) (v := ?_) rfl (by kernel_rfl) (by kernel_rfl) (by kernel_rfl) (fun _ _ _ h => h) (Or.inl ⟨by rfl, ?_⟩) (by assumption) ?_
      rotate_left
      · intro wS hSw; go_split_ands; go_simp; first | done | with_reducible rfl
      simp only [Act.put, List.setIfInBounds_toArray, List.set_cons_zero, List.set_cons_succ]
      refine wpAnyH_take (i := 10) (oi := { dst := some 202, op := Op.move (Operand.tmp 201), type := 4, pos := "law.go:198", after := #[{ on := 9, ground := Ground.data }, { on := 6, ground := Ground.chain }], guard := none }) (v := ?_) rfl (by kernel_rfl) (by kernel_rfl) (by kernel_rfl) (fun _ _ _ h => h) (Or.inl ⟨by rfl, ?_⟩) (by assumption) ?_
      rotate_left
      · intro wS hSw; go_split_ands; go_simp; first | done | with_reducible rfl
      simp only [Act.put, List.setIfInBounds_toArray, List.set_cons_zero, List.set_cons_succ]
      refine wpAnyH_take (i := 11) (oi := { dst := some 203, op := Op.fieldAddr 55 (Operand.tmp 25) 0, type := 0, pos := "law.go:198", after := #[{ on := 10, ground := Ground.guard }], guard := some (10, true) }) (v := ?_) rfl (by kernel_rfl) (by kernel_rfl) (by kernel_rfl) (fun _ _ _ h => h) (Or.inl ⟨by rfl, ?_⟩) (by assumption) ?_
      rotate_left
      · intro wS hSw; go_split_ands; go_simp; first | done | with_reducible rfl
      simp only [Act.put, List.setIfInBounds_toArray, List.set_cons_zero, List.set_cons_succ]
      refine wpAnyH_take (i := 12) (oi := { dst := some 204, op := Op.load 22 (Operand.tmp 203), type := 22, pos := "law.go:198", after := #[{ on := 11, ground := Ground.data }, { on := 10, ground := Ground.guard }], guard := some (10, true) }) (v := ?_) rfl (by kernel_rfl) (by kernel_rfl) (by kernel_rfl) (fun _ _ _ h => h) (Or.inl ⟨by rfl, ?_⟩) (by assumption) ?_
      rotate_left
      · intro wS hSw; go_split_ands; go_simp; first | done | with_reducible rfl
      simp only [Act.put, List.setIfInBounds_toArray, List.set_cons_zero, List.set_cons_succ]
      refine wpAnyH_take (i := 13) (oi := { dst := some 205, op := Op.fieldAddr 55 (Operand.tmp 11) 0, type := 0, pos := "law.go:198", after := #[{ on := 10, ground := Ground.guard }], guard := some (10, true) }) (v := ?_) rfl (by kernel_rfl) (by kernel_rfl) (by kernel_rfl) (fun _ _ _ h => h) (Or.inl ⟨by rfl, ?_⟩) (by assumption) ?_
      rotate_left
      · intro wS hSw; go_split_ands; go_simp; first | done | with_reducible rfl
      simp only [Act.put, List.setIfInBounds_toArray, List.set_cons_zero, List.set_cons_succ]
      refine wpAnyH_take (i := 14) (oi := { dst := some 206, op := Op.load 22 (Operand.tmp 205), type := 22, pos := "law.go:198", after := #[{ on := 13, ground := Ground.data }, { on := 10, ground := Ground.guard }], guard := some (10, true) }) (v := ?_) rfl (by kernel_rfl) (by kernel_rfl) (by kernel_rfl) (fun _ _ _ h => h) (Or.inl ⟨by rfl, ?_⟩) (by assumption) ?_
      rotate_left
      · intro wS hSw; go_split_ands; go_simp; first | done | with_reducible rfl
      simp only [Act.put, List.setIfInBounds_toArray, List.set_cons_zero, List.set_cons_succ]
      refine wpAnyH_take (i := 15) (oi := { dst := some 207, op := Op.move (Operand.tmp 27), type := 3, pos := "law.go:198", after := #[{ on := 10, ground := Ground.guard }], guard := some (10, true) }) (v := ?_) rfl (by kernel_rfl) (by kernel_rfl) (by kernel_rfl) (fun _ _ _ h => h) (Or.inl ⟨by rfl, ?_⟩) (by assumption) ?_
      rotate_left
      · intro wS hSw; go_split_ands; go_simp; first | done | with_reducible rfl
      simp only [Act.put, List.setIfInBounds_toArray, List.set_cons_zero, List.set_cons_succ]
      refine wpAnyH_take (i := 16) (oi := { dst := some 208, op := Op.slice 22 (Operand.tmp 206) none (some (Operand.tmp 207)) none, type := 22, pos := "law.go:198", after := #[{ on := 14, ground := Ground.data }, { on := 15, ground := Ground.data }, { on := 10, ground := Ground.guard }], guard := some (10, true) }) (v := ?_) rfl (by kernel_rfl) (by kernel_rfl) (by kernel_rfl) (fun _ _ _ h => h) (Or.inl ⟨by rfl, ?_⟩) (by assumption) ?_
      rotate_left
      · intro wS hSw; go_split_ands; go_simp; first | done | with_reducible rfl
      simp only [Act.put, List.setIfInBounds_toArray, List.set_cons_zero, List.set_cons_succ]
      refine wpAnyH_ready (rs := [17]) (by kernel_rfl) (by simp) ?_
      refine AllReadyH.cons (o := { dst := some 209, op := Op.call { callee := Callee.value (Operand.func 55), args := #[Operand.tmp 204, Operand.tmp 208], argTypes := #[22, 22] }, type := 4, pos := "law.go:198", after := #[{ on := 12, ground := Ground.data }, { on := 16, ground := Ground.data }, { on := 10, ground := Ground.chain }, { on := 10, ground := Ground.guard }], guard := some (10, true) }) rfl (fun K hK => ?_) AllReadyH.nil
      go_simp
      go_at_call 55; refine (HSR.out _ hHeld.2.2.2.2.2.2).mono ?_; rintro e9 w9 ⟨rfl, hb9⟩
      refine hK.out _ _ ?_ (fun hHeld => ?_)
      · exact HSS.out _ (hHeld.2.2.2.2.2.2.trans (hb9.mono hHeld.2.2.2.2.2.2.size))
      clear hK K
      try simp only [Act.put, List.setIfInBounds_toArray, List.set_cons_zero, List.set_cons_succ]
      refine wpAnyH_take (i := 18) (oi := { dst := some 210, op := Op.pick (Operand.tmp 202) (Operand.tmp 209) (Operand.const (Value.bool false)), type := 4, pos := "law.go:198", after := #[{ on := 10, ground := Ground.data }, { on := 17, ground := Ground.data }], guard := none }) (v := ?_) rfl (by kernel_rfl) (by kernel_rfl) (by kernel_rfl) (fun _ _ _ h => h) (Or.inl ⟨by rfl, ?_⟩) (by assumption) ?_
      rotate_left
      · intro wS hSw; go_split_ands; go_simp; first | done | with_reducible rfl
      simp only [Act.put, List.setIfInBounds_toArray, List.set_cons_zero, List.set_cons_succ]
      refine wpAnyH_ready (rs := [19]) (by kernel_rfl) (by simp) ?_
      refine AllReadyH.cons (o := { dst := some 8, op := Op.assign (Operand.tmp 210), type := 4, pos := "law.go:198", after := #[{ on := 18, ground := Ground.data }, { on := 17, ground := Ground.chain }, { on := 0, ground := Ground.phase }, { on := 1, ground := Ground.phase }, { on := 2, ground := Ground.phase }, { on := 3, ground := Ground.phase }, { on := 4, ground := Ground.phase }, { on := 5, ground := Ground.phase }, { on := 6, ground := Ground.phase }, { on := 7, ground := Ground.phase }, { on := 8, ground := Ground.phase }, { on := 9, ground := Ground.phase }, { on := 10, ground := Ground.phase }, { on := 11, ground := Ground.phase }, { on := 12, ground := Ground.phase }, { on := 13, ground := Ground.phase }, { on := 14, ground := Ground.phase }, { on := 15, ground := Ground.phase }, { on := 16, ground := Ground.phase }, { on := 17, ground := Ground.phase }, { on := 18, ground := Ground.phase }], guard := none }) rfl (fun K hK => ?_) AllReadyH.nil
      go_simp
      refine hK.out _ _ ?_ (fun hHeld => ?_)
      · exact hHeld
      clear hK K
      try simp only [Act.put, List.setIfInBounds_toArray, List.set_cons_zero, List.set_cons_succ]
      refine wpAnyH_done (by kernel_rfl) ?_ _

      go_wp2
      go_ret
      exact ⟨rfl, hw.trans (hHeld.2.2.2.2.2.2.mono hw.size)⟩
end Go.Proofs.Ytckeopidedoohaa
