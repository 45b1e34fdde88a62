/-
  JournalSurvives walked: it answers true. Conditions: arguments of at most 1048576 values.
-/
import Derived.Test.YtckeopidedoohaaJsw
import Derived.Test.YtckeopidedoohaaJfw
import Derived.Test.YtckeopidedoohaaJsa
import Derived.Deep.CutBlock
import Derived.Deep.DeepCutAuto
namespace Go.Proofs.Ytckeopidedoohaa
open Go.RowKit
variable {n₀ : Nat}
attribute [local go_sem] Oper.semAt_some

/-- The law answers true, and leaves alone what lay. -/
def YesS (w : World) (e : Ending) (w' : World) : Prop := e = .returned (.bool true) ∧ Below w.heap.size w w'
/-- A step of the script. -/
structure Stp where
  recs : List Bs
  stop : Bool
  at_ : UInt8
def st0 : Stp := ⟨[], false, 0⟩
def StepsAt (n₀ : Nat) (w : World) (A : Option Addr) (l : List Stp) : Prop := 0 < l.length → ∃ b o, A = some ⟨b, o, none⟩ ∧ b < w.heap.size ∧ ∀ i, i < l.length → ∃ RA rc, w.cell? ⟨b, o + i * 3, none⟩ = some (.slice RA (l.getD i st0).recs.length rc) ∧ w.cell? ⟨b, o + i * 3 + 1, none⟩ = some (.bool (l.getD i st0).stop) ∧ w.cell? ⟨b, o + i * 3 + 2, none⟩ = some (.int .u8 ((l.getD i st0).at_.toNat : Int)) ∧ RowsAt n₀ w RA (l.getD i st0).recs
/-- What the law holds between two steps. -/
def SvI (n₀ ns : Nat) (w5 : World) (B i : Nat) (v : Value) (W : World) : Prop := ∃ d K kA kc S s P p, v = .slice kA (List.length K) kc ∧ K.length ≤ kc ∧ RowsAt n₀ W kA K ∧ GoodD d ns K (1 + i) ∧ Blk W B 25 #[.slice S ns s, .slice P 0 p, .int .i64 (-1), .bool false] ∧ ns ≤ s ∧ RowsAt n₀ W S d.secs ∧ Below w5.heap.size w5 W
/-- What the law holds between two records. -/
def SvR (n₀ ns : Nat) (K : List Bs) (wb : World) (B : Nat) (W : World) : Prop := ∃ rs A c, rs.take K.length = K ∧ K.length ≤ rs.length ∧ JVal ⟨rs, ns, K.length⟩ ∧ Blk W B 55 #[.slice A rs.length c, .int .i64 ns, .int .i64 K.length] ∧ rs.length ≤ c ∧ RowsAt n₀ W A rs ∧ Below wb.heap.size wb W
theorem put3 {W : World} {B : Nat} {a0 a1 a2 b0 b1 b2 : Value} (h : Blk W B 55 #[a0, a1, a2]) : Blk (((W.setCell ⟨B, 0, none⟩ b0).setCell ⟨B, 1, none⟩ b1).setCell ⟨B, 2, none⟩ b2) B 55 #[b0, b1, b2] := by simpa using ((h.set 0 b0).set 1 b1).set 2 b2

set_option maxRecDepth 20000 in
set_option maxHeartbeats 8000000 in
theorem journalSurvives_t (TA : Option Addr) (tc : Nat) (l : List Stp) (se : UInt8) (w : World) (hn : n₀ ≤ w.heap.size) (hll : l.length ≤ 1048576) (hrl : ∀ x ∈ l, x.recs.length ≤ 1048576 ∧ ∀ b ∈ x.recs, b.length ≤ 1048576) (t0 : StepsAt n₀ w TA l) :
    Calls Try.prog 16 #[.int .u8 (se.toNat : Int), .slice TA l.length tc] w (YesS w) := by
  have HRL := Lib.hid hrl
  have HT0 := Lib.hid t0
  clear hrl t0 hll
  go_enter Try.func16, Try.ntmps16
  go_wp2_with (fail)
  have K : Calls Try.prog 42 #[] w (fun e w' => e = .returned (.bool true) ∧ Below w.heap.size w w') := jsane_t w
  go_at_call 42
  refine K.mono ?_
  rintro e w1 ⟨rfl, hb⟩
  clear K
  have hw := hb
  clear hb
  by_cases k1 : 8 < l.length
  case pos =>
    have d1 : decide (8 < (l.length : Int)) = true := decide_eq_true (by omega)
    have d1n : decide (8 < l.length) = true := decide_eq_true k1
    go_wp2
    go_ret
    exact ⟨rfl, hw⟩
  have d1 : decide (8 < (l.length : Int)) = false := decide_eq_false (by omega)
  have d1n : decide (8 < l.length) = false := decide_eq_false k1
  have hl8 : l.length ≤ 8 := by omega
  clear k1
  obtain ⟨ns, hns⟩ : ∃ n, n = se.toNat % 30 + 1 := ⟨_, rfl⟩
  have hns1 : 1 ≤ ns := by omega
  have hns2 : ns ≤ 30 := by omega
  have ewr : (se.toNat : Int) % 30 + 1 = (ns : Int) := by rw [hns]; omega
  have HEW := Lib.hid ewr
  clear hns ewr
  go_wp2_with (fail)
  rw [HEW.out]
  clear d1 d1n
  have K : Calls Try.prog 25 #[.int .i64 ns] w1 (fun e w' => ∃ S s P p, e = .returned (.tuple #[.agg #[.slice S ns s, .slice P 0 p, .int .i64 (-1), .bool false], .int .i64 0]) ∧ ns ≤ s ∧ RowsAt n₀ w' S (List.replicate ns zs) ∧ Below w1.heap.size w1 w') := (by have h := new_t (n₀ := n₀) ns w1; rw [show gNew ns = (⟨List.replicate ns zs, [], -1, false⟩, 0) by unfold gNew; rw [if_neg (by omega)]; rfl] at h; exact h.mono fun e w9 hx => by obtain ⟨v, rfl, ⟨S, s, P, p, rfl, h1, h2, h3, h4⟩, h5⟩ := hx; simp only [List.length_replicate] at h1; exact ⟨S, s, P, p, by simp only [List.length_replicate, List.length_nil], h1, h3, h5⟩)
  go_at_call 25
  refine K.mono ?_
  rintro e w2 ⟨S5, s5, P5, p5, rfl, hs5, r5, hb⟩
  clear K
  replace hw := hw.trans (hb.mono hw.size)
  clear hb
  go_upto_region 6 with (fail)
  have hn1 : n₀ ≤ w2.heap.size := Nat.le_trans hn hw.size
  obtain ⟨B, hB⟩ : ∃ B, B = w2.heap.size := ⟨_, rfl⟩
  obtain ⟨W2, hW2⟩ : ∃ W, W = w2.alloc (.cells #[.slice S5 ns s5, .slice P5 0 p5, .int .i64 (-1), .bool false] 25) := ⟨_, rfl⟩
  rw [← hW2]
  have hb2 : Below w2.heap.size w2 W2 := by rw [hW2]; exact (Below.refl _ _).alloc (Nat.le_refl _) _
  have x5 : Blk W2 B 25 #[.slice S5 ns s5, .slice P5 0 p5, .int .i64 (-1), .bool false] := by rw [hW2, hB]; exact Blk.new w2 25 _
  rw [← hB]
  have hBn : n₀ ≤ B := by omega
  clear hW2
  have HBE := Lib.hid hB
  clear hB
  go_wp2_with (fail)
  go_loopw [7, 40] (fun v7 v40 wr => ∃ i : Nat, i ≤ l.length ∧ v40 = .int .i64 i ∧ SvI n₀ ns w2 B i v7 wr) (fun _ v40 _ => l.length - (intOf v40).toNat)
  case atStart => exact ⟨0, by omega, rfl, _, [], none, 0, S5, s5, P5, p5, rfl, Nat.le_refl _, RowsAt.nil _ _, good_new hns1 (by omega), x5, hs5, r5.below hb2, hb2⟩
  case round =>
    clear x5 hb2 r5
    obtain ⟨i, hi, rfl, d, K, kA, kc, S, s, P, p, rfl, hkc, rk, hg, x5, hs, r5, hbi⟩ := hrel
    have HG := Lib.hid hg
    have hKl := (jval_sm (good_val hg) (by omega)).2
    have hwi : Below w.heap.size w wr := hw.trans (hbi.mono hw.size)
    have hdl : d.secs.length = ns := hg.len
    have HDL := Lib.hid hdl
    have hst0 : d.stop = false := hg.runs.2
    have HDS := Lib.hid hst0
    have HDP := Lib.hid hg.pend
    have HDF := Lib.hid hg.left
    clear hg hdl hst0
    have hxlt : B < wr.heap.size := x5.lt
    by_cases hlt : i < l.length
    case neg =>
      have x5c0 := x5.cell 0
      have x5c1 := x5.cell 1
      have x5c2 := x5.cell 2
      have x5c3 := x5.cell 3
      simp only [List.getElem?_toArray, List.getElem?_cons_zero, List.getElem?_cons_succ] at x5c0 x5c1 x5c2 x5c3
      have x5l := x5.lt
      go_wp2_with (fail)
      have K : Calls Try.prog 44 #[.agg #[.slice S ns s, .slice P 0 p, .int .i64 (-1), .bool false]] wr (fun e w' => ∃ A c, e = .returned (.tuple #[.agg #[.slice A K.length c, .int .i64 ns, .int .i64 K.length], .int .i64 0]) ∧ K.length ≤ c ∧ RowsAt n₀ w' A K ∧ Below wr.heap.size wr w') := (by have h := open_t (n₀ := n₀) S P s p d wr (Nat.le_trans hn hwi.size) (by rw [HDL.out]; omega) (by rw [HDP.out]; decide) r5 (by rw [HDP.out]; exact wrs_nil); rw [good_open HG.out, HDL.out, HDP.out, HDF.out, HDS.out] at h; exact h.mono fun e w9 hx => jn_out (rs := K) (m := ns) (s := K.length) (e := 0) hx)
      go_at_call 44
      refine K.mono ?_
      rintro e w3 ⟨A21, c21, rfl, hc21, r21, hb⟩
      clear K
      replace rk := rk.below hb
      replace r5 := r5.below hb
      replace x5 := x5.below hb x5.lt
      replace hwi := hwi.trans (hb.mono hwi.size)
      replace hbi := hbi.trans (hb.mono hbi.size)
      clear x5c0 x5c1 x5c2 x5c3 x5l
      clear hb
      go_upto_region 45 with (fail)
      obtain ⟨W4, hW4⟩ : ∃ W, W = w3.alloc (.cells #[.slice A21 K.length c21, .int .i64 ns, .int .i64 K.length] 55) := ⟨_, rfl⟩
      rw [← hW4]
      have hb : Below w3.heap.size w3 W4 := by rw [hW4]; exact (Below.refl _ _).alloc (Nat.le_refl _) _
      have x21 : Blk W4 w3.heap.size 55 #[.slice A21 K.length c21, .int .i64 ns, .int .i64 K.length] := by rw [hW4]; exact Blk.new w3 55 _
      clear hW4
      replace rk := rk.below hb
      replace r5 := r5.below hb
      replace r21 := r21.below hb
      replace x5 := x5.below hb x5.lt
      replace hwi := hwi.trans (hb.mono hwi.size)
      replace hbi := hbi.trans (hb.mono hbi.size)
      clear hb
      have x21c0 := x21.cell 0
      have x21c1 := x21.cell 1
      have x21c2 := x21.cell 2
      have x21c3 := x21.cell 3
      simp only [List.getElem?_toArray, List.getElem?_cons_zero, List.getElem?_cons_succ] at x21c0 x21c1 x21c2 x21c3
      have x21l := x21.lt
      go_wp2_with (fail)
      have K : Calls Try.prog 55 #[.slice A21 K.length c21, .slice kA K.length kc] W4 (fun e w' => e = .returned (.bool true) ∧ Below W4.heap.size W4 w') := (by have h := sameR_t (n₀ := n₀) A21 kA c21 kc K K W4 (by omega) (by omega) r21 rk; simpa using h)
      go_at_call 55
      refine K.mono ?_
      rintro e w5 ⟨rfl, hb⟩
      clear K
      replace rk := rk.below hb
      replace r5 := r5.below hb
      replace r21 := r21.below hb
      replace x5 := x5.below hb x5.lt
      replace x21 := x21.below hb x21.lt
      replace hwi := hwi.trans (hb.mono hwi.size)
      replace hbi := hbi.trans (hb.mono hbi.size)
      clear x21c0 x21c1 x21c2 x21c3 x21l
      clear hb
      go_wp2
      go_ret
      exact ⟨rfl, hwi⟩
    obtain ⟨ta, tq, hTA, htl, hget⟩ := HT0.out (by omega)
    subst hTA
    obtain ⟨RA, rc, g0, g1, g2, rr⟩ := hget i hlt
    obtain ⟨⟨recs, stop, at_⟩, hstp⟩ : ∃ x, x = l.getD i st0 := ⟨_, rfl⟩
    have hbk := HRL.out (l.getD i st0) (by rw [List.getD_eq_getElem?_getD, List.getElem?_eq_getElem hlt]; exact List.getElem_mem hlt)
    rw [← hstp] at g0 g1 g2 rr hbk
    dsimp only at g0 g1 g2 rr hbk
    clear hget hstp
    have e0 := (hwi.cell (p := ⟨ta, tq + i * 3, none⟩) htl).trans g0
    have e1 := (hwi.cell (p := ⟨ta, tq + i * 3 + 1, none⟩) htl).trans g1
    have e2 := (hwi.cell (p := ⟨ta, tq + i * 3 + 2, none⟩) htl).trans g2
    replace rr := rr.below hwi
    clear g0 g1 g2
    obtain ⟨hbk1, hbk2⟩ := hbk
    have HBK := Lib.hid hbk2
    clear hbk2
    have k0 : (0 : Int) ≤ (i : Int) := by omega
    have k1 : (i : Int) < (l.length : Int) := by omega
    go_upto_region 12 with (fail)
    obtain ⟨W3, hW3⟩ : ∃ W, W = wr.alloc (.cells #[.slice RA recs.length rc, .bool stop, .int .u8 (at_.toNat : Int)] 73) := ⟨_, rfl⟩
    rw [← hW3]
    have hb : Below wr.heap.size wr W3 := by rw [hW3]; exact (Below.refl _ _).alloc (Nat.le_refl _) _
    have x9 : Blk W3 wr.heap.size 73 #[.slice RA recs.length rc, .bool stop, .int .u8 (at_.toNat : Int)] := by rw [hW3]; exact Blk.new wr 73 _
    clear hW3
    replace rk := rk.below hb
    replace r5 := r5.below hb
    replace rr := rr.below hb
    replace x5 := x5.below hb x5.lt
    replace hwi := hwi.trans (hb.mono hwi.size)
    replace hbi := hbi.trans (hb.mono hbi.size)
    clear hb
    obtain ⟨B9, hB9⟩ : ∃ b, b = wr.heap.size := ⟨_, rfl⟩
    rw [← hB9] at x9 ⊢
    have hBB9 : B < B9 := by rw [hB9]; exact hxlt
    have HB9 := Lib.hid hB9
    clear hB9 hxlt
    clear e0 e1 e2
    have x9c0 := x9.cell 0
    have x9c1 := x9.cell 1
    have x9c2 := x9.cell 2
    have x9c3 := x9.cell 3
    simp only [List.getElem?_toArray, List.getElem?_cons_zero, List.getElem?_cons_succ] at x9c0 x9c1 x9c2 x9c3
    have x9l := x9.lt
    have x5c0 := x5.cell 0
    have x5c1 := x5.cell 1
    have x5c2 := x5.cell 2
    have x5c3 := x5.cell 3
    simp only [List.getElem?_toArray, List.getElem?_cons_zero, List.getElem?_cons_succ] at x5c0 x5c1 x5c2 x5c3
    have x5l := x5.lt
    go_wp2_with (fail)
    obtain ⟨y, hy⟩ : ∃ y, y = fewB ns 0 recs := ⟨_, rfl⟩
    have HY := Lib.hid hy
    clear hy
    have K : Calls Try.prog 43 #[.agg #[.slice S ns s, .slice P 0 p, .int .i64 (-1), .bool false], .slice RA recs.length rc] W3 (fun e w' => e = .returned (.bool y) ∧ Below W3.heap.size W3 w') := by rw [HY.out]; exact few5_t S P RA s p rc ns 0 (-1) false recs W3 (by omega) (by decide) hbk1 HBK.out rr
    go_at_call 43
    refine K.mono ?_
    rintro e w4 ⟨rfl, hb⟩
    clear K
    replace rk := rk.below hb
    replace r5 := r5.below hb
    replace rr := rr.below hb
    replace x5 := x5.below hb x5.lt
    replace x9 := x9.below hb x9.lt
    replace hwi := hwi.trans (hb.mono hwi.size)
    replace hbi := hbi.trans (hb.mono hbi.size)
    clear x9c0 x9c1 x9c2 x9c3 x9l x5c0 x5c1 x5c2 x5c3 x5l
    clear hb
    cases y
    case false =>
      go_wp2
      go_ret
      exact ⟨rfl, hwi⟩
    have hs4 := (fewB_sm HY.out.symm).2.2.1
    have hb4 : ∀ x ∈ recs, x.length ≤ 4000 := fun x hx => Nat.le_trans (sumB_mem hx) hs4
    have hjl := sumB_len recs
    have hrl2 : recs.length ≤ 4000 := by omega
    have HB4 := Lib.hid hb4
    clear hs4 hb4 hjl
    have x5c0 := x5.cell 0
    have x5c1 := x5.cell 1
    have x5c2 := x5.cell 2
    have x5c3 := x5.cell 3
    simp only [List.getElem?_toArray, List.getElem?_cons_zero, List.getElem?_cons_succ] at x5c0 x5c1 x5c2 x5c3
    have x5l := x5.lt
    go_wp2_with (fail)
    have K : Calls Try.prog 44 #[.agg #[.slice S ns s, .slice P 0 p, .int .i64 (-1), .bool false]] w4 (fun e w' => ∃ A c, e = .returned (.tuple #[.agg #[.slice A K.length c, .int .i64 ns, .int .i64 K.length], .int .i64 0]) ∧ K.length ≤ c ∧ RowsAt n₀ w' A K ∧ Below w4.heap.size w4 w') := (by have h := open_t (n₀ := n₀) S P s p d w4 (Nat.le_trans hn hwi.size) (by rw [HDL.out]; omega) (by rw [HDP.out]; decide) r5 (by rw [HDP.out]; exact wrs_nil); rw [good_open HG.out, HDL.out, HDP.out, HDF.out, HDS.out] at h; exact h.mono fun e w9 hx => jn_out (rs := K) (m := ns) (s := K.length) (e := 0) hx)
    go_at_call 44
    refine K.mono ?_
    rintro e w5 ⟨A10, c10, rfl, hc10, r10, hb⟩
    clear K
    replace rk := rk.below hb
    replace r5 := r5.below hb
    replace rr := rr.below hb
    replace x5 := x5.below hb x5.lt
    replace x9 := x9.below hb x9.lt
    replace hwi := hwi.trans (hb.mono hwi.size)
    replace hbi := hbi.trans (hb.mono hbi.size)
    clear x5c0 x5c1 x5c2 x5c3 x5l
    clear hb
    have hB910 : B9 < w5.heap.size := x9.lt
    have hJw : w.heap.size ≤ w5.heap.size := hwi.size
    have hbJ : Below w5.heap.size w5 w5 := Below.refl _ _
    have rkJ := rk
    have r5J := r5
    have rrJ := rr
    have x9J := x9
    have x5J := x5
    have hwiJ := hwi
    have hbiJ := hbi
    go_upto_region 15 with (fail)
    obtain ⟨W6, hW6⟩ : ∃ W, W = w5.alloc (.cells #[.slice A10 K.length c10, .int .i64 ns, .int .i64 K.length] 55) := ⟨_, rfl⟩
    rw [← hW6]
    have hb : Below w5.heap.size w5 W6 := by rw [hW6]; exact (Below.refl _ _).alloc (Nat.le_refl _) _
    have x10 : Blk W6 w5.heap.size 55 #[.slice A10 K.length c10, .int .i64 ns, .int .i64 K.length] := by rw [hW6]; exact Blk.new w5 55 _
    clear hW6
    replace rk := rk.below hb
    replace r5 := r5.below hb
    replace rr := rr.below hb
    replace r10 := r10.below hb
    replace x5 := x5.below hb x5.lt
    replace x9 := x9.below hb x9.lt
    replace hwi := hwi.trans (hb.mono hwi.size)
    replace hbi := hbi.trans (hb.mono hbi.size)
    replace hbJ := hbJ.trans (hb.mono hbJ.size)
    clear hb
    obtain ⟨B10, hB10⟩ : ∃ b, b = w5.heap.size := ⟨_, rfl⟩
    rw [← hB10] at x10 hB910 ⊢
    have HB10 := Lib.hid hB10
    clear hB10
    have x10c0 := x10.cell 0
    have x10c1 := x10.cell 1
    have x10c2 := x10.cell 2
    have x10c3 := x10.cell 3
    simp only [List.getElem?_toArray, List.getElem?_cons_zero, List.getElem?_cons_succ] at x10c0 x10c1 x10c2 x10c3
    have x10l := x10.lt
    go_wp2_with (fail)
    have K : Calls Try.prog 55 #[.slice A10 K.length c10, .slice kA K.length kc] W6 (fun e w' => e = .returned (.bool true) ∧ Below W6.heap.size W6 w') := (by have h := sameR_t (n₀ := n₀) A10 kA c10 kc K K W6 (by omega) (by omega) r10 rk; simpa using h)
    go_at_call 55
    refine K.mono ?_
    rintro e w7 ⟨rfl, hb⟩
    clear K
    replace rk := rk.below hb
    replace r5 := r5.below hb
    replace rr := rr.below hb
    replace r10 := r10.below hb
    replace x5 := x5.below hb x5.lt
    replace x9 := x9.below hb x9.lt
    replace x10 := x10.below hb x10.lt
    replace hwi := hwi.trans (hb.mono hwi.size)
    replace hbi := hbi.trans (hb.mono hbi.size)
    replace hbJ := hbJ.trans (hb.mono hbJ.size)
    clear x10c0 x10c1 x10c2 x10c3 x10l
    clear hb
    have x9c0 := x9.cell 0
    have x9c1 := x9.cell 1
    have x9c2 := x9.cell 2
    have x9c3 := x9.cell 3
    simp only [List.getElem?_toArray, List.getElem?_cons_zero, List.getElem?_cons_succ] at x9c0 x9c1 x9c2 x9c3
    have x9l := x9.lt
    go_wp2_with (fail)
    clear x9c0 x9c1 x9c2 x9c3 x9l
    go_loopw [74] (fun v74 wr => ∃ k : Nat, k ≤ recs.length ∧ v74 = .int .i64 k ∧ SvR n₀ ns K w5 B10 wr) (fun v74 _ => recs.length - (intOf v74).toNat)
    case atStart => exact ⟨0, by omega, rfl, K, A10, c10, List.take_length, Nat.le_refl _, good_val HG.out, x10, hc10, r10, hbJ⟩
    case round =>
      clear x10 r10 hbJ rk r5 rr x9 x5 hwi hbi
      obtain ⟨k, hk, rfl, rs, A, c, ht, hlK, hv, x10, hc, rA, hbj⟩ := hrel
      have hjs := jval_sm hv (by omega)
      have HSR := Lib.hid hjs.1
      have hrn := hjs.2
      have HV := Lib.hid hv
      have HTK := Lib.hid ht
      clear hjs hv ht
      have x10c0 := x10.cell 0
      have x10c1 := x10.cell 1
      have x10c2 := x10.cell 2
      simp only [List.getElem?_toArray, List.getElem?_cons_zero, List.getElem?_cons_succ] at x10c0 x10c1 x10c2
      have x10l := x10.lt
      by_cases hlt2 : k < recs.length
      case pos =>
        obtain ⟨ga, oa, hRA, lga, hget⟩ := (rrJ.below hbj).get (by omega)
        subst hRA
        obtain ⟨Ab, cb, zb, hcb, hbb⟩ := hget k (by omega)
        clear hget
        obtain ⟨b, hbd⟩ : ∃ b, b = recs.getD k [] := ⟨_, rfl⟩
        have hbl : b.length ≤ 4000 := by rw [hbd]; exact HB4.out _ (by rw [List.getD_eq_getElem?_getD, List.getElem?_eq_getElem hlt2]; exact List.getElem_mem hlt2)
        rw [← hbd] at zb hcb hbb
        clear hbd
        go_wp2_with (fail)
        by_cases ha : (ns : Int) - usedN rs < secN b
        case pos =>
          have K1 : Calls Try.prog 47 #[.agg #[.slice A rs.length c, .int .i64 ns, .int .i64 K.length], .slice Ab b.length cb] wr (fun e w' => ∃ A c, e = .returned (.tuple #[.agg #[.slice A 0 c, .int .i64 0, .int .i64 0], .int .i64 2]) ∧ Below wr.heap.size wr w') := by
            have h := append_t (n₀ := n₀) A Ab c cb ⟨rs, ns, K.length⟩ b wr HSR.out (by omega) hc rA hbb
            rw [gApp_lim HV.out ha] at h
            exact h.mono fun e w9 hx => by obtain ⟨A, c, h1, -, -, h4⟩ := jn_out (rs := []) (m := 0) (s := 0) (e := 2) hx; exact ⟨A, c, h1, h4⟩
          go_at_call 47
          refine K1.mono ?_
          rintro e wi5 ⟨A5, c5, rfl, hb5⟩
          clear K1 x10c0 x10c1 x10c2 zb
          go_wp2_with (fail)
          have hb6 : Below wr.heap.size wr (wi5.alloc (.cells #[.slice A5 0 c5, .int .i64 0, .int .i64 0] 55)) := hb5.alloc hb5.size _
          go_roundw
          case rel => exact ⟨k + 1, by omega, by go_num, rs, A, c, HTK.out, hlK, HV.out, x10.below hb6 x10l, hc, rA.below hb6, hbj.trans (hb6.mono hbj.size)⟩
          case measure => simp [intOf]; omega
        have hv2 := jv_grow HV.out ha
        have HV2 := Lib.hid hv2
        have ht2 := take_grow (b := b) HTK.out hlK
        have HT2 := Lib.hid ht2
        obtain ⟨rs2, hrs2⟩ : ∃ r, r = rs ++ [b] := ⟨_, rfl⟩
        rw [← hrs2] at HV2 HT2
        have hl2 : rs2.length = rs.length + 1 := by rw [hrs2]; simp
        have HL2 := Lib.hid hl2
        have hlK2 : K.length ≤ rs2.length := by omega
        clear hv2 ht2 hl2
        have K1 : Calls Try.prog 47 #[.agg #[.slice A rs.length c, .int .i64 ns, .int .i64 K.length], .slice Ab b.length cb] wr (fun e w' => ∃ A c, e = .returned (.tuple #[.agg #[.slice A rs2.length c, .int .i64 ns, .int .i64 K.length], .int .i64 0]) ∧ rs2.length ≤ c ∧ RowsAt n₀ w' A rs2 ∧ Below wr.heap.size wr w') := by
          have h := append_t (n₀ := n₀) A Ab c cb ⟨rs, ns, K.length⟩ b wr HSR.out (by omega) hc rA hbb
          rw [gApp_ok HV.out ha] at h
          dsimp only at h
          rw [← hrs2] at h
          exact h.mono fun e w9 hx => jn_out (rs := rs2) (m := ns) (s := K.length) (e := 0) hx
        have HRS2 := Lib.hid hrs2
        clear hrs2
        go_at_call 47
        refine K1.mono ?_
        rintro e wi5 ⟨A5, c5, rfl, hc5, r6, hb5⟩
        clear K1 x10c0 x10c1 x10c2 zb rA
        go_upto_region 21 with (fail)
        obtain ⟨Wi6, hWi6⟩ : ∃ W, W = wi5.alloc (.cells #[.slice A5 rs2.length c5, .int .i64 ns, .int .i64 K.length] 55) := ⟨_, rfl⟩
        rw [← hWi6]
        have hb6 : Below wi5.heap.size wi5 Wi6 := by rw [hWi6]; exact (Below.refl _ _).alloc (Nat.le_refl _) _
        have x14 : Blk Wi6 wi5.heap.size 55 #[.slice A5 rs2.length c5, .int .i64 ns, .int .i64 K.length] := by rw [hWi6]; exact Blk.new wi5 55 _
        clear hWi6
        have hb7 := hb5.trans (hb6.mono hb5.size)
        replace r6 := r6.below hb6
        replace x10 := x10.below hb7 x10l
        replace hbj := hbj.trans (hb7.mono hbj.size)
        clear hb5 hb6 hb7 x10l
        have x14c0 := x14.cell 0
        have x14c1 := x14.cell 1
        have x14c2 := x14.cell 2
        have x10c0 := x10.cell 0
        have x10c1 := x10.cell 1
        have x10c2 := x10.cell 2
        have x10f0 := x10.frozen 0
        have x10f1 := x10.frozen 1
        have x10f2 := x10.frozen 2
        simp only [List.getElem?_toArray, List.getElem?_cons_zero, List.getElem?_cons_succ] at x14c0 x14c1 x14c2 x10c0 x10c1 x10c2
        go_upto_region 23 with (fail)
        obtain ⟨Wi7, hWi7⟩ : ∃ W, W = ((Wi6.setCell ⟨B10, 0, none⟩ (.slice A5 rs2.length c5)).setCell ⟨B10, 1, none⟩ (.int .i64 ns)).setCell ⟨B10, 2, none⟩ (.int .i64 K.length) := ⟨_, rfl⟩
        rw [← hWi7]
        have hk7 : Keep (fun r => r = B10) Wi6 Wi7 := by rw [hWi7]; repeat (first | with_reducible exact Keep.refl _ _ | refine Keep.setCell ?_ (fun _ => by simp) _)
        have hm7 := Boxes.one (n₀ := n₀) x10 rfl (by omega)
        replace r6 := r6.keep hk7 hm7
        have y10 : Blk Wi7 B10 55 #[.slice A5 rs2.length c5, .int .i64 ns, .int .i64 K.length] := by rw [hWi7]; exact put3 x10
        replace hbj := hbj.trans (hk7.below hbj.size (fun r hr h => by have := HB10.out; omega))
        clear hWi7 hk7 hm7 x10c0 x10c1 x10c2 x10f0 x10f1 x10f2 x14 x14c0 x14c1 x14c2 x10
        go_wp2_with (fail)
        go_roundw
        case rel => exact ⟨k + 1, by omega, by go_num, rs2, A5, c5, HT2.out, hlK2, HV2.out, y10, hc5, r6, hbj⟩
        case measure => simp [intOf]; omega
      have rk := rkJ.below hbj
      have r5 := r5J.below hbj
      have x9 := x9J.below hbj x9J.lt
      have x5 := x5J.below hbj x5J.lt
      have hwi := hwiJ.trans (hbj.mono hwiJ.size)
      have hbi := hbiJ.trans (hbj.mono hbiJ.size)
      clear rkJ r5J x9J x5J hwiJ hbiJ rrJ hbj
      have dlt : decide ((rs.length : Int) < (K.length : Int)) = false := decide_eq_false (by omega)
      have dltn : decide (rs.length < K.length) = false := decide_eq_false (by omega)
      clear x10c0 x10c1 x10c2 x10l
      have x9c0 := x9.cell 0
      have x9c1 := x9.cell 1
      have x9c2 := x9.cell 2
      have x9c3 := x9.cell 3
      simp only [List.getElem?_toArray, List.getElem?_cons_zero, List.getElem?_cons_succ] at x9c0 x9c1 x9c2 x9c3
      have x9l := x9.lt
      have x10c0 := x10.cell 0
      have x10c1 := x10.cell 1
      have x10c2 := x10.cell 2
      have x10c3 := x10.cell 3
      simp only [List.getElem?_toArray, List.getElem?_cons_zero, List.getElem?_cons_succ] at x10c0 x10c1 x10c2 x10c3
      have x10l := x10.lt
      go_upto_if 95 with (fail)
      have hB109 : B < B10 := by omega
      go_cut [] (fun wx => ∃ (lf : Int) (S2 : Option Addr) (s2 : Nat) (P2 : Option Addr) (p2 : Nat), -1 ≤ lf ∧ lf ≤ 39 ∧ (0 ≤ lf → stop = true) ∧ Blk wx B 25 #[.slice S2 ns s2, .slice P2 0 p2, .int .i64 lf, .bool false] ∧ ns ≤ s2 ∧ RowsAt n₀ wx S2 d.secs ∧ Blk wx B10 55 #[.slice A rs.length c, .int .i64 ns, .int .i64 K.length] ∧ RowsAt n₀ wx A rs ∧ Blk wx B9 73 #[.slice RA recs.length rc, .bool stop, .int .u8 (at_.toNat : Int)] ∧ RowsAt n₀ wx kA K ∧ Below w.heap.size w wx ∧ Below w2.heap.size w2 wx)
      case first =>
        have hwB : w.heap.size ≤ w2.heap.size := hw.size
        cases stop
        case false =>
          go_wp2_with (fail)
          go_meet
          exact ⟨-1, S, s, P, p, by omega, by omega, fun h => absurd h (by decide), x5, hs, r5, x10, rA, x9, rk, hwi, hbi⟩
        obtain ⟨q, hq⟩ : ∃ q, q = at_.toNat % 40 := ⟨_, rfl⟩
        have hq2 : q ≤ 39 := by omega
        have hqe : (at_.toNat : Int) % 40 = (q : Int) := by rw [hq]; rfl
        have HQE := Lib.hid hqe
        clear hq hqe
        have x5c0 := x5.cell 0
        have x5c1 := x5.cell 1
        have x5c2 := x5.cell 2
        have x5c3 := x5.cell 3
        simp only [List.getElem?_toArray, List.getElem?_cons_zero, List.getElem?_cons_succ] at x5c0 x5c1 x5c2 x5c3
        have x5l := x5.lt
        go_wp2_with (fail)
        rw [HQE.out]
        have K : Calls Try.prog 38 #[.agg #[.slice S ns s, .slice P 0 p, .int .i64 (-1), .bool false], .int .i64 q] wr (fun e w' => ∃ S s P p, e = .returned (.tuple #[.agg #[.slice S ns s, .slice P 0 p, .int .i64 q, .bool false], .int .i64 0]) ∧ ns ≤ s ∧ RowsAt n₀ w' S d.secs ∧ Below wr.heap.size wr w') := stop_good HG.out (by omega) hq2 hs r5
        go_at_call 38
        refine K.mono ?_
        rintro e w8 ⟨S3, s3, P3, p3, rfl, hs3, r3, hb⟩
        clear K
        replace rk := rk.below hb
        replace r5 := r5.below hb
        replace rA := rA.below hb
        replace x5 := x5.below hb x5.lt
        replace x9 := x9.below hb x9.lt
        replace x10 := x10.below hb x10.lt
        replace hwi := hwi.trans (hb.mono hwi.size)
        replace hbi := hbi.trans (hb.mono hbi.size)
        clear x9c0 x9c1 x9c2 x9c3 x9l x10c0 x10c1 x10c2 x10c3 x10l x5c0 x5c1 x5c2 x5c3 x5l
        clear hb
        have x5c0 := x5.cell 0
        have x5f0 := x5.frozen 0
        have x5c1 := x5.cell 1
        have x5f1 := x5.frozen 1
        have x5c2 := x5.cell 2
        have x5f2 := x5.frozen 2
        have x5c3 := x5.cell 3
        have x5f3 := x5.frozen 3
        simp only [List.getElem?_toArray, List.getElem?_cons_zero, List.getElem?_cons_succ] at x5c0 x5c1 x5c2 x5c3
        have x5l := x5.lt
        go_upto_region 28 with (fail)
        obtain ⟨W9, hW9⟩ : ∃ W, W = ((((w8.setCell ⟨B, 0, none⟩ (.slice S3 ns s3)).setCell ⟨B, 1, none⟩ (.slice P3 0 p3)).setCell ⟨B, 2, none⟩ (.int .i64 q)).setCell ⟨B, 3, none⟩ (.bool false)) := ⟨_, rfl⟩
        rw [← hW9]
        have hk9 : Keep (fun r => r = B) w8 W9 := by rw [hW9]; repeat (first | with_reducible exact Keep.refl _ _ | refine Keep.setCell ?_ (fun _ => by simp) _)
        have hm9 := Boxes.one (n₀ := n₀) x5 rfl hBn
        replace rk := rk.keep hk9 hm9
        replace r5 := r5.keep hk9 hm9
        replace rA := rA.keep hk9 hm9
        replace r3 := r3.keep hk9 hm9
        replace x9 := x9.keep hk9 (fun h => by omega)
        replace x10 := x10.keep hk9 (fun h => by omega)
        replace x5 : Blk W9 B 25 #[.slice S3 ns s3, .slice P3 0 p3, .int .i64 q, .bool false] := by rw [hW9]; exact ((((x5.set 0 (.slice S3 ns s3)).set 1 (.slice P3 0 p3)).set 2 (.int .i64 q)).set 3 (.bool false))
        replace hwi := hwi.trans (hk9.below hwi.size (fun r hr h => by have := HBE.out; omega))
        replace hbi := hbi.trans (hk9.below hbi.size (fun r hr h => by have := HBE.out; omega))
        clear x5f0 x5f1 x5f2 x5f3 x5c0 x5c1 x5c2 x5c3 x5l
        clear hW9 hk9 hm9
        go_wp2_with (fail)
        go_meet
        exact ⟨q, S3, s3, P3, p3, by omega, by omega, (by intro _; trivial), x5, hs3, r3, x10, rA, x9, rk, hwi, hbi⟩
      case rest =>
        clear x5 r5 x10 rA x9 rk hwi hbi
        clear x9c0 x9c1 x9c2 x9c3 x9l x10c0 x10c1 x10c2 x10c3 x10l
        clear dlt dltn
        obtain ⟨lf, S2, s2, P2, p2, hlf1, hlf2, hlf3, x5, hs2, r5, x10, rA, x9, rk, hwi, hbi⟩ := hcut
        have hwB : w.heap.size ≤ w2.heap.size := hw.size
        have hst := sv_step HG.out (by omega) hns1 (by omega) HTK.out hlK HV.out hlf1 (by omega)
        rcases hst with ⟨y, e1, hgy⟩ | ⟨hlf0, y, n, e1, hn2, hn3, hgy⟩
        case inl =>
          have HE1 := Lib.hid e1
          have HGY := Lib.hid hgy
          have hyl : y.secs.length = ns := hgy.len
          have HYL := Lib.hid hyl
          clear e1 hgy hyl
          have x10c0 := x10.cell 0
          have x10c1 := x10.cell 1
          have x10c2 := x10.cell 2
          have x10c3 := x10.cell 3
          simp only [List.getElem?_toArray, List.getElem?_cons_zero, List.getElem?_cons_succ] at x10c0 x10c1 x10c2 x10c3
          have x10l := x10.lt
          have x5c0 := x5.cell 0
          have x5c1 := x5.cell 1
          have x5c2 := x5.cell 2
          have x5c3 := x5.cell 3
          simp only [List.getElem?_toArray, List.getElem?_cons_zero, List.getElem?_cons_succ] at x5c0 x5c1 x5c2 x5c3
          have x5l := x5.lt
          go_wp2_with (fail)
          have K : Calls Try.prog 53 #[.agg #[.slice A rs.length c, .int .i64 ns, .int .i64 K.length], .agg #[.slice S2 ns s2, .slice P2 0 p2, .int .i64 lf, .bool false]] wc (fun e w' => ∃ A c S s P p, e = .returned (.tuple #[.agg #[.slice A rs.length c, .int .i64 ns, .int .i64 rs.length], .agg #[.slice S ns s, .slice P y.pend.length p, .int .i64 y.left, .bool y.stop], .int .i64 0]) ∧ RowsAt n₀ w' A rs ∧ ns ≤ s ∧ RowsAt n₀ w' S y.secs ∧ Below wc.heap.size wc w') := sync_whole HG.out (by omega) (Nat.le_trans hn hwi.size) HSR.out hc hs2 rA r5 HE1.out HYL.out
          go_at_call 53
          refine K.mono ?_
          rintro e w8 ⟨A16, c16, S17, s17, P17, p17, rfl, r16, hs17, r17, hb⟩
          clear K
          replace r5 := r5.below hb
          replace rA := rA.below hb
          replace rk := rk.below hb
          replace x5 := x5.below hb x5.lt
          replace x9 := x9.below hb x9.lt
          replace x10 := x10.below hb x10.lt
          replace hwi := hwi.trans (hb.mono hwi.size)
          replace hbi := hbi.trans (hb.mono hbi.size)
          clear x10c0 x10c1 x10c2 x10c3 x10l x5c0 x5c1 x5c2 x5c3 x5l
          clear hb
          go_upto_region 31 with (fail)
          obtain ⟨W9, hW9⟩ : ∃ W, W = (w8.alloc (.cells #[.slice A16 rs.length c16, .int .i64 ns, .int .i64 rs.length] 55)).alloc (.cells #[.slice S17 ns s17, .slice P17 y.pend.length p17, .int .i64 y.left, .bool y.stop] 25) := ⟨_, rfl⟩
          rw [← hW9]
          have hb : Below w8.heap.size w8 W9 := by rw [hW9]; exact ((Below.refl _ _).alloc (Nat.le_refl _) _).alloc (by simp) _
          have x16 : Blk W9 w8.heap.size 55 #[.slice A16 rs.length c16, .int .i64 ns, .int .i64 rs.length] := by rw [hW9]; exact (Blk.new w8 55 _).alloc _
          have x17 : Blk W9 (w8.heap.size + 1) 25 #[.slice S17 ns s17, .slice P17 y.pend.length p17, .int .i64 y.left, .bool y.stop] := by rw [hW9]; exact Blk.newAt (by simp) 25 _
          clear hW9
          replace r5 := r5.below hb
          replace rA := rA.below hb
          replace rk := rk.below hb
          replace r16 := r16.below hb
          replace r17 := r17.below hb
          replace x5 := x5.below hb x5.lt
          replace x9 := x9.below hb x9.lt
          replace x10 := x10.below hb x10.lt
          replace hwi := hwi.trans (hb.mono hwi.size)
          replace hbi := hbi.trans (hb.mono hbi.size)
          clear hb
          skip
          have x16c0 := x16.cell 0
          have x16c1 := x16.cell 1
          have x16c2 := x16.cell 2
          have x16c3 := x16.cell 3
          simp only [List.getElem?_toArray, List.getElem?_cons_zero, List.getElem?_cons_succ] at x16c0 x16c1 x16c2 x16c3
          have x16l := x16.lt
          have x10c0 := x10.cell 0
          have x10c1 := x10.cell 1
          have x10c2 := x10.cell 2
          have x10c3 := x10.cell 3
          simp only [List.getElem?_toArray, List.getElem?_cons_zero, List.getElem?_cons_succ] at x10c0 x10c1 x10c2 x10c3
          have x10l := x10.lt
          go_wp2_with (fail)
          have K : Calls Try.prog 55 #[.slice A16 rs.length c16, .slice A rs.length c] W9 (fun e w' => e = .returned (.bool true) ∧ Below W9.heap.size W9 w') := (by have h := sameR_t (n₀ := n₀) A16 A c16 c rs rs W9 (by omega) (by omega) r16 rA; simpa using h)
          go_at_call 55
          refine K.mono ?_
          rintro e w10 ⟨rfl, hb⟩
          clear K
          replace r5 := r5.below hb
          replace rA := rA.below hb
          replace rk := rk.below hb
          replace r16 := r16.below hb
          replace r17 := r17.below hb
          replace x5 := x5.below hb x5.lt
          replace x9 := x9.below hb x9.lt
          replace x10 := x10.below hb x10.lt
          replace x16 := x16.below hb x16.lt
          replace x17 := x17.below hb x17.lt
          replace hwi := hwi.trans (hb.mono hwi.size)
          replace hbi := hbi.trans (hb.mono hbi.size)
          clear x16c0 x16c1 x16c2 x16c3 x16l x10c0 x10c1 x10c2 x10c3 x10l
          clear hb
          have x10c0 := x10.cell 0
          have x10c1 := x10.cell 1
          have x10c2 := x10.cell 2
          have x10c3 := x10.cell 3
          simp only [List.getElem?_toArray, List.getElem?_cons_zero, List.getElem?_cons_succ] at x10c0 x10c1 x10c2 x10c3
          have x10l := x10.lt
          clear x16
          have x17c0 := x17.cell 0
          have x17c1 := x17.cell 1
          have x17c2 := x17.cell 2
          have x17c3 := x17.cell 3
          simp only [List.getElem?_toArray, List.getElem?_cons_zero, List.getElem?_cons_succ] at x17c0 x17c1 x17c2 x17c3
          have x17l := x17.lt
          go_wp2_with (fail)
          have K : Calls Try.prog 30 #[.agg #[.slice S17 ns s17, .slice P17 y.pend.length p17, .int .i64 y.left, .bool y.stop]] w10 (fun e w' => e = .returned (.agg #[.slice S17 ns s17, .slice none 0 0, .int .i64 (-1), .bool false]) ∧ Below w10.heap.size w10 w') := restart_good HYL.out w10
          go_at_call 30
          refine K.mono ?_
          rintro e w11 ⟨rfl, hb⟩
          clear K
          replace r5 := r5.below hb
          replace rA := rA.below hb
          replace rk := rk.below hb
          replace r16 := r16.below hb
          replace r17 := r17.below hb
          replace x5 := x5.below hb x5.lt
          replace x9 := x9.below hb x9.lt
          replace x10 := x10.below hb x10.lt
          replace x17 := x17.below hb x17.lt
          replace hwi := hwi.trans (hb.mono hwi.size)
          replace hbi := hbi.trans (hb.mono hbi.size)
          clear x10c0 x10c1 x10c2 x10c3 x10l x17c0 x17c1 x17c2 x17c3 x17l
          clear hb
          clear x17
          have x5c0 := x5.cell 0
          have x5f0 := x5.frozen 0
          have x5c1 := x5.cell 1
          have x5f1 := x5.frozen 1
          have x5c2 := x5.cell 2
          have x5f2 := x5.frozen 2
          have x5c3 := x5.cell 3
          have x5f3 := x5.frozen 3
          simp only [List.getElem?_toArray, List.getElem?_cons_zero, List.getElem?_cons_succ] at x5c0 x5c1 x5c2 x5c3
          have x5l := x5.lt
          go_upto_region 43 with (fail)
          obtain ⟨W12, hW12⟩ : ∃ W, W = ((((w11.setCell ⟨B, 0, none⟩ (.slice S17 ns s17)).setCell ⟨B, 1, none⟩ (.slice none 0 0)).setCell ⟨B, 2, none⟩ (.int .i64 (-1))).setCell ⟨B, 3, none⟩ (.bool false)) := ⟨_, rfl⟩
          rw [← hW12]
          have hk9 : Keep (fun r => r = B) w11 W12 := by rw [hW12]; repeat (first | with_reducible exact Keep.refl _ _ | refine Keep.setCell ?_ (fun _ => by simp) _)
          have hm9 := Boxes.one (n₀ := n₀) x5 rfl hBn
          replace r5 := r5.keep hk9 hm9
          replace rA := rA.keep hk9 hm9
          replace rk := rk.keep hk9 hm9
          replace r16 := r16.keep hk9 hm9
          replace r17 := r17.keep hk9 hm9
          replace x9 := x9.keep hk9 (fun h => by omega)
          replace x10 := x10.keep hk9 (fun h => by omega)
          replace x5 : Blk W12 B 25 #[.slice S17 ns s17, .slice none 0 0, .int .i64 (-1), .bool false] := by rw [hW12]; exact ((((x5.set 0 (.slice S17 ns s17)).set 1 (.slice none 0 0)).set 2 (.int .i64 (-1))).set 3 (.bool false))
          replace hwi := hwi.trans (hk9.below hwi.size (fun r hr h => by have := HBE.out; omega))
          replace hbi := hbi.trans (hk9.below hbi.size (fun r hr h => by have := HBE.out; omega))
          clear x5f0 x5f1 x5f2 x5f3 x5c0 x5c1 x5c2 x5c3 x5l
          clear hW12 hk9 hm9
          go_wp2_with (fail)
          go_roundw
          case rel => exact ⟨i + 1, by omega, by go_num, gRestart y, rs, A, c, S17, s17, none, 0, rfl, hc, rA, by have h := HGY.out; rw [show 1 + i + 1 = 1 + (i + 1) by omega] at h; exact h, x5, hs17, r17, hbi⟩
          case measure => simp [intOf]; omega
        case inr =>
          have HE1 := Lib.hid e1
          have HGY := Lib.hid hgy
          have hyl : y.secs.length = ns := hgy.len
          have HYL := Lib.hid hyl
          clear e1 hgy hyl
          have x10c0 := x10.cell 0
          have x10c1 := x10.cell 1
          have x10c2 := x10.cell 2
          have x10c3 := x10.cell 3
          simp only [List.getElem?_toArray, List.getElem?_cons_zero, List.getElem?_cons_succ] at x10c0 x10c1 x10c2 x10c3
          have x10l := x10.lt
          have x5c0 := x5.cell 0
          have x5c1 := x5.cell 1
          have x5c2 := x5.cell 2
          have x5c3 := x5.cell 3
          simp only [List.getElem?_toArray, List.getElem?_cons_zero, List.getElem?_cons_succ] at x5c0 x5c1 x5c2 x5c3
          have x5l := x5.lt
          go_wp2_with (fail)
          have K : Calls Try.prog 53 #[.agg #[.slice A rs.length c, .int .i64 ns, .int .i64 K.length], .agg #[.slice S2 ns s2, .slice P2 0 p2, .int .i64 lf, .bool false]] wc (fun e w' => ∃ A c S s P p, e = .returned (.tuple #[.agg #[.slice A 0 c, .int .i64 0, .int .i64 0], .agg #[.slice S ns s, .slice P y.pend.length p, .int .i64 y.left, .bool y.stop], .int .i64 40]) ∧ ns ≤ s ∧ RowsAt n₀ w' S y.secs ∧ Below wc.heap.size wc w') := sync_part HG.out (by omega) (Nat.le_trans hn hwi.size) HSR.out hc hs2 rA r5 HE1.out HYL.out
          go_at_call 53
          refine K.mono ?_
          rintro e w8 ⟨A16, c16, S17, s17, P17, p17, rfl, hs17, r17, hb⟩
          clear K
          replace r5 := r5.below hb
          replace rA := rA.below hb
          replace rk := rk.below hb
          replace x5 := x5.below hb x5.lt
          replace x9 := x9.below hb x9.lt
          replace x10 := x10.below hb x10.lt
          replace hwi := hwi.trans (hb.mono hwi.size)
          replace hbi := hbi.trans (hb.mono hbi.size)
          clear x10c0 x10c1 x10c2 x10c3 x10l x5c0 x5c1 x5c2 x5c3 x5l
          clear hb
          go_upto_region 31 with (fail)
          obtain ⟨W9, hW9⟩ : ∃ W, W = (w8.alloc (.cells #[.slice A16 0 c16, .int .i64 0, .int .i64 0] 55)).alloc (.cells #[.slice S17 ns s17, .slice P17 y.pend.length p17, .int .i64 y.left, .bool y.stop] 25) := ⟨_, rfl⟩
          rw [← hW9]
          have hb : Below w8.heap.size w8 W9 := by rw [hW9]; exact ((Below.refl _ _).alloc (Nat.le_refl _) _).alloc (by simp) _
          have x16 : Blk W9 w8.heap.size 55 #[.slice A16 0 c16, .int .i64 0, .int .i64 0] := by rw [hW9]; exact (Blk.new w8 55 _).alloc _
          have x17 : Blk W9 (w8.heap.size + 1) 25 #[.slice S17 ns s17, .slice P17 y.pend.length p17, .int .i64 y.left, .bool y.stop] := by rw [hW9]; exact Blk.newAt (by simp) 25 _
          clear hW9
          replace r5 := r5.below hb
          replace rA := rA.below hb
          replace rk := rk.below hb
          replace r17 := r17.below hb
          replace x5 := x5.below hb x5.lt
          replace x9 := x9.below hb x9.lt
          replace x10 := x10.below hb x10.lt
          replace hwi := hwi.trans (hb.mono hwi.size)
          replace hbi := hbi.trans (hb.mono hbi.size)
          clear hb
          clear x16
          have hRt : (rs.take n).length = n := by rw [List.length_take]; omega
          have HRT := Lib.hid hRt
          clear hRt
          have hst1 := hlf3 hlf0
          subst hst1
          have x17c0 := x17.cell 0
          have x17c1 := x17.cell 1
          have x17c2 := x17.cell 2
          have x17c3 := x17.cell 3
          simp only [List.getElem?_toArray, List.getElem?_cons_zero, List.getElem?_cons_succ] at x17c0 x17c1 x17c2 x17c3
          have x17l := x17.lt
          go_wp2_with (fail)
          have K : Calls Try.prog 30 #[.agg #[.slice S17 ns s17, .slice P17 y.pend.length p17, .int .i64 y.left, .bool y.stop]] W9 (fun e w' => e = .returned (.agg #[.slice S17 ns s17, .slice none 0 0, .int .i64 (-1), .bool false]) ∧ Below W9.heap.size W9 w') := restart_good HYL.out W9
          go_at_call 30
          refine K.mono ?_
          rintro e w10 ⟨rfl, hb⟩
          clear K
          replace r5 := r5.below hb
          replace rA := rA.below hb
          replace rk := rk.below hb
          replace r17 := r17.below hb
          replace x5 := x5.below hb x5.lt
          replace x9 := x9.below hb x9.lt
          replace x10 := x10.below hb x10.lt
          replace x17 := x17.below hb x17.lt
          replace hwi := hwi.trans (hb.mono hwi.size)
          replace hbi := hbi.trans (hb.mono hbi.size)
          clear x17c0 x17c1 x17c2 x17c3 x17l
          clear hb
          go_wp2_with (fail)
          have K : Calls Try.prog 44 #[.agg #[.slice S17 ns s17, .slice none 0 0, .int .i64 (-1), .bool false]] w10 (fun e w' => ∃ A c, e = .returned (.tuple #[.agg #[.slice A n c, .int .i64 ns, .int .i64 n], .int .i64 0]) ∧ n ≤ c ∧ RowsAt n₀ w' A (rs.take n) ∧ Below w10.heap.size w10 w') := (open_good HGY.out (by omega) (Nat.le_trans hn hwi.size) r17 HRT.out)
          go_at_call 44
          refine K.mono ?_
          rintro e w11 ⟨A19, c19, rfl, hc19, r19, hb⟩
          clear K
          replace r5 := r5.below hb
          replace rA := rA.below hb
          replace rk := rk.below hb
          replace r17 := r17.below hb
          replace x5 := x5.below hb x5.lt
          replace x9 := x9.below hb x9.lt
          replace x10 := x10.below hb x10.lt
          replace x17 := x17.below hb x17.lt
          replace hwi := hwi.trans (hb.mono hwi.size)
          replace hbi := hbi.trans (hb.mono hbi.size)
          clear hb
          go_upto_region 39 with (fail)
          obtain ⟨W12, hW12⟩ : ∃ W, W = w11.alloc (.cells #[.slice A19 n c19, .int .i64 ns, .int .i64 n] 55) := ⟨_, rfl⟩
          rw [← hW12]
          have hb : Below w11.heap.size w11 W12 := by rw [hW12]; exact (Below.refl _ _).alloc (Nat.le_refl _) _
          have x19 : Blk W12 w11.heap.size 55 #[.slice A19 n c19, .int .i64 ns, .int .i64 n] := by rw [hW12]; exact Blk.new w11 55 _
          clear hW12
          replace r5 := r5.below hb
          replace rA := rA.below hb
          replace rk := rk.below hb
          replace r17 := r17.below hb
          replace r19 := r19.below hb
          replace x5 := x5.below hb x5.lt
          replace x9 := x9.below hb x9.lt
          replace x10 := x10.below hb x10.lt
          replace x17 := x17.below hb x17.lt
          replace hwi := hwi.trans (hb.mono hwi.size)
          replace hbi := hbi.trans (hb.mono hbi.size)
          clear hb
          have x9c0 := x9.cell 0
          have x9c1 := x9.cell 1
          have x9c2 := x9.cell 2
          have x9c3 := x9.cell 3
          simp only [List.getElem?_toArray, List.getElem?_cons_zero, List.getElem?_cons_succ] at x9c0 x9c1 x9c2 x9c3
          have x9l := x9.lt
          have x10c0 := x10.cell 0
          have x10c1 := x10.cell 1
          have x10c2 := x10.cell 2
          have x10c3 := x10.cell 3
          simp only [List.getElem?_toArray, List.getElem?_cons_zero, List.getElem?_cons_succ] at x10c0 x10c1 x10c2 x10c3
          have x10l := x10.lt
          have x19c0 := x19.cell 0
          have x19c1 := x19.cell 1
          have x19c2 := x19.cell 2
          have x19c3 := x19.cell 3
          simp only [List.getElem?_toArray, List.getElem?_cons_zero, List.getElem?_cons_succ] at x19c0 x19c1 x19c2 x19c3
          have x19l := x19.lt
          have hsr : ∀ W, Below W12.heap.size W12 W → Calls Try.prog 55 #[.slice A19 n c19, .slice A n c] W (fun e w' => e = .returned (.bool true) ∧ Below W.heap.size W w') := fun W hW => by
            have hr := rows_take (rA.below hW) n
            have h := sameR_t (n₀ := n₀) A19 A c19 c (rs.take n) (rs.take n) W (by rw [HRT.out]; omega) (by rw [HRT.out]; omega) (r19.below hW) hr
            rw [HRT.out] at h
            simpa using h
          have HSR5 := Lib.hid hsr
          clear hsr
          have nc : (n : Int) ≤ (c : Int) := by omega
          have nc0 : (0 : Int) ≤ (n : Int) := by omega
          have d1 : decide ((n : Int) < (K.length : Int)) = false := decide_eq_false (by omega)
          have d1n : decide (n < K.length) = false := decide_eq_false (by omega)
          have d2 : decide ((rs.length : Int) < (n : Int)) = false := decide_eq_false (by omega)
          have d2n : decide (rs.length < n) = false := decide_eq_false (by omega)
          have hS : ∀ W, Below W12.heap.size W12 W → W.cell? ⟨B9, 0, none⟩ = some (.slice RA recs.length rc) ∧ W.cell? ⟨B9, 1, none⟩ = some (.bool true) ∧ W.cell? ⟨B9, 2, none⟩ = some (.int .u8 (at_.toNat : Int)) ∧ W.cell? ⟨B10, 0, none⟩ = some (.slice A rs.length c) ∧ W.cell? ⟨B10, 1, none⟩ = some (.int .i64 ns) ∧ W.cell? ⟨B10, 2, none⟩ = some (.int .i64 K.length) ∧ W.cell? ⟨w11.heap.size, 0, none⟩ = some (.slice A19 n c19) ∧ W.cell? ⟨w11.heap.size, 1, none⟩ = some (.int .i64 ns) ∧ W.cell? ⟨w11.heap.size, 2, none⟩ = some (.int .i64 n) := fun W hW => ⟨(hW.cell (p := ⟨B9, 0, none⟩) x9l).trans x9c0, (hW.cell (p := ⟨B9, 1, none⟩) x9l).trans x9c1, (hW.cell (p := ⟨B9, 2, none⟩) x9l).trans x9c2, (hW.cell (p := ⟨B10, 0, none⟩) x10l).trans x10c0, (hW.cell (p := ⟨B10, 1, none⟩) x10l).trans x10c1, (hW.cell (p := ⟨B10, 2, none⟩) x10l).trans x10c2, (hW.cell (p := ⟨w11.heap.size, 0, none⟩) x19l).trans x19c0, (hW.cell (p := ⟨w11.heap.size, 1, none⟩) x19l).trans x19c1, (hW.cell (p := ⟨w11.heap.size, 2, none⟩) x19l).trans x19c2⟩
          have HSS := Lib.hid hS
          clear hS
          go_cut [176] (fun s176 wx => s176 = .bool false ∧ Below W12.heap.size W12 wx)
          case first =>
            go_region_held3 (fun W => W.cell? ⟨B9, 0, none⟩ = some (.slice RA recs.length rc) ∧ W.cell? ⟨B9, 1, none⟩ = some (.bool true) ∧ W.cell? ⟨B9, 2, none⟩ = some (.int .u8 (at_.toNat : Int)) ∧ W.cell? ⟨B10, 0, none⟩ = some (.slice A rs.length c) ∧ W.cell? ⟨B10, 1, none⟩ = some (.int .i64 ns) ∧ W.cell? ⟨B10, 2, none⟩ = some (.int .i64 K.length) ∧ W.cell? ⟨w11.heap.size, 0, none⟩ = some (.slice A19 n c19) ∧ W.cell? ⟨w11.heap.size, 1, none⟩ = some (.int .i64 ns) ∧ W.cell? ⟨w11.heap.size, 2, none⟩ = some (.int .i64 n)) ((refine HSS.out _ ?_; repeat (first | with_reducible exact h19 | with_reducible exact Below.refl _ _ | refine Below.drew ?_)))
              ((first | (go_at_call 55; refine (HSR5.out _ (by repeat (first | with_reducible exact Below.refl _ _ | refine Below.drew ?_))).mono ?_; rintro e9 w19 ⟨rfl, hb9⟩; have h19 : Below W12.heap.size W12 w19 := Below.trans (by repeat (first | with_reducible exact Below.refl _ _ | refine Below.drew ?_)) (Below.mono hb9 (Nat.le_refl _)))))
            all_goals
             go_wp2_with (fail)
             go_meet
             exact ⟨rfl, h19⟩
          case rest =>
            obtain ⟨rfl, hbx⟩ := hcut
            clear d1 d1n d2 d2n nc nc0 HSR5
            replace r5 := r5.below hbx
            replace rA := rA.below hbx
            replace rk := rk.below hbx
            replace r17 := r17.below hbx
            replace r19 := r19.below hbx
            replace x5 := x5.below hbx x5.lt
            replace x9 := x9.below hbx x9.lt
            replace x10 := x10.below hbx x10.lt
            replace x17 := x17.below hbx x17.lt
            replace x19 := x19.below hbx x19.lt
            replace hwi := hwi.trans (hbx.mono hwi.size)
            replace hbi := hbi.trans (hbx.mono hbi.size)
            clear x9c0 x9c1 x9c2 x9c3 x9l x10c0 x10c1 x10c2 x10c3 x10l x19c0 x19c1 x19c2 x19c3 x19l
            clear hbx
            have x19c0 := x19.cell 0
            have x19c1 := x19.cell 1
            have x19c2 := x19.cell 2
            have x19c3 := x19.cell 3
            simp only [List.getElem?_toArray, List.getElem?_cons_zero, List.getElem?_cons_succ] at x19c0 x19c1 x19c2 x19c3
            have x19l := x19.lt
            have x17c0 := x17.cell 0
            have x17c1 := x17.cell 1
            have x17c2 := x17.cell 2
            have x17c3 := x17.cell 3
            simp only [List.getElem?_toArray, List.getElem?_cons_zero, List.getElem?_cons_succ] at x17c0 x17c1 x17c2 x17c3
            have x17l := x17.lt
            go_wp2_with (fail)
            have K : Calls Try.prog 30 #[.agg #[.slice S17 ns s17, .slice P17 y.pend.length p17, .int .i64 y.left, .bool y.stop]] wc (fun e w' => e = .returned (.agg #[.slice S17 ns s17, .slice none 0 0, .int .i64 (-1), .bool false]) ∧ Below wc.heap.size wc w') := restart_good HYL.out wc
            go_at_call 30
            refine K.mono ?_
            rintro e w13 ⟨rfl, hb⟩
            clear K
            replace r5 := r5.below hb
            replace rA := rA.below hb
            replace rk := rk.below hb
            replace r17 := r17.below hb
            replace r19 := r19.below hb
            replace x5 := x5.below hb x5.lt
            replace x9 := x9.below hb x9.lt
            replace x10 := x10.below hb x10.lt
            replace x17 := x17.below hb x17.lt
            replace x19 := x19.below hb x19.lt
            replace hwi := hwi.trans (hb.mono hwi.size)
            replace hbi := hbi.trans (hb.mono hbi.size)
            clear x19c0 x19c1 x19c2 x19c3 x19l x17c0 x17c1 x17c2 x17c3 x17l
            clear hb
            clear x17
            clear x19
            have x5c0 := x5.cell 0
            have x5f0 := x5.frozen 0
            have x5c1 := x5.cell 1
            have x5f1 := x5.frozen 1
            have x5c2 := x5.cell 2
            have x5f2 := x5.frozen 2
            have x5c3 := x5.cell 3
            have x5f3 := x5.frozen 3
            simp only [List.getElem?_toArray, List.getElem?_cons_zero, List.getElem?_cons_succ] at x5c0 x5c1 x5c2 x5c3
            have x5l := x5.lt
            go_upto_region 43 with (fail)
            obtain ⟨W14, hW14⟩ : ∃ W, W = ((((w13.setCell ⟨B, 0, none⟩ (.slice S17 ns s17)).setCell ⟨B, 1, none⟩ (.slice none 0 0)).setCell ⟨B, 2, none⟩ (.int .i64 (-1))).setCell ⟨B, 3, none⟩ (.bool false)) := ⟨_, rfl⟩
            rw [← hW14]
            have hk9 : Keep (fun r => r = B) w13 W14 := by rw [hW14]; repeat (first | with_reducible exact Keep.refl _ _ | refine Keep.setCell ?_ (fun _ => by simp) _)
            have hm9 := Boxes.one (n₀ := n₀) x5 rfl hBn
            replace r5 := r5.keep hk9 hm9
            replace rA := rA.keep hk9 hm9
            replace rk := rk.keep hk9 hm9
            replace r17 := r17.keep hk9 hm9
            replace r19 := r19.keep hk9 hm9
            replace x9 := x9.keep hk9 (fun h => by omega)
            replace x10 := x10.keep hk9 (fun h => by omega)
            replace x5 : Blk W14 B 25 #[.slice S17 ns s17, .slice none 0 0, .int .i64 (-1), .bool false] := by rw [hW14]; exact ((((x5.set 0 (.slice S17 ns s17)).set 1 (.slice none 0 0)).set 2 (.int .i64 (-1))).set 3 (.bool false))
            replace hwi := hwi.trans (hk9.below hwi.size (fun r hr h => by have := HBE.out; omega))
            replace hbi := hbi.trans (hk9.below hbi.size (fun r hr h => by have := HBE.out; omega))
            clear x5f0 x5f1 x5f2 x5f3 x5c0 x5c1 x5c2 x5c3 x5l
            clear hW14 hk9 hm9
            go_wp2_with (fail)
            go_roundw
            case rel => exact ⟨i + 1, by omega, by go_num, gRestart y, rs.take n, A19, c19, S17, s17, none, 0, by rw [HRT.out], by rw [HRT.out]; exact hc19, r19, by have h := HGY.out; rw [show 1 + i + 1 = 1 + (i + 1) by omega] at h; exact h, x5, hs17, r17, hbi⟩
            case measure => simp [intOf]; omega
end Go.Proofs.Ytckeopidedoohaa
