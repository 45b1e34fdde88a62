/-
  RecorderSurvives walked: it answers true. Conditions: arguments of at most 1048576 values.
-/
import Derived.Test.YtckeopidedoohaaRsv
import Derived.Deep.CutBlock
import Derived.Deep.DeepCutAuto
import Derived.Deep.RegionLaw
namespace Go.Proofs.Ytckeopidedoohaa
open Go.RowKit
variable {n₀ : Nat}
attribute [local go_sem] Oper.semAt_some

/-- The law answers true, and leaves alone what lay. -/
def YesW (w : World) (e : Ending) (w' : World) : Prop := e = .returned (.bool true) ∧ Below w.heap.size w w'
/-- What the law holds between two steps. -/
def SqI (n₀ ns : Nat) (w5 : World) (B i : Nat) (v : Value) (W : World) : Prop := ∃ d K xs kA kc S s P p, v = .slice kA (List.length xs) kc ∧ K.all rRight = true ∧ xs = K.flatMap smpL ∧ NumsAt n₀ W kA xs ∧ GoodD d ns K (1 + i) ∧ Blk W B 25 #[.slice S ns s, .slice P 0 p, .int .i64 (-1), .bool false] ∧ ns ≤ s ∧ RowsAt n₀ W S d.secs ∧ Below w5.heap.size w5 W
/-- What the law holds between two blocks. -/
def SqR (n₀ ns : Nat) (K : List Bs) (wb : World) (B : Nat) (v13 v14 : Value) (W : World) : Prop := ∃ rs A c E ce V cv na xs, rs.take K.length = K ∧ K.length ≤ rs.length ∧ JVal ⟨rs, ns, K.length⟩ ∧ rs.all rRight = true ∧ xs = rs.flatMap smpL ∧ na = xs.length ∧ Blk W B 55 #[.slice A rs.length c, .int .i64 ns, .int .i64 K.length] ∧ rs.length ≤ c ∧ RowsAt n₀ W A rs ∧
  v13 = .slice E (rs.length - K.length + 1) ce ∧ W.ownsRow wb.heap.size 3 1 (.slice E (rs.length - K.length + 1) ce) (rs.length - K.length + 1) (icells (endsL K.length rs)) ∧ v14 = .slice V na cv ∧ na ≤ cv ∧ W.ownsRow wb.heap.size 3 1 (.slice V na cv) na (icells xs) ∧ (∀ k, (Value.slice E (rs.length - K.length + 1) ce).ownBlock = some k → (Value.slice V na cv).ownBlock ≠ some k) ∧ Below wb.heap.size wb W
theorem put3Q {W : World} {B : Nat} {a0 a1 a2 b0 b1 b2 : Value} (h : Blk W B 55 #[a0, a1, a2]) : Blk (((W.setCell ⟨B, 0, none⟩ b0).setCell ⟨B, 1, none⟩ b1).setCell ⟨B, 2, none⟩ b2) B 55 #[b0, b1, b2] := by simpa using ((h.set 0 b0).set 1 b1).set 2 b2

def SqX (n₀ base B10 ns nK m ne : Nat) (A5 : Option Addr) (c5 : Nat) (E : Option Addr) (ce : Nat) (rs2 : List Bs) (xE xA : List Value) (Wi6 : World) (s14 : Value) (wx : World) : Prop := ∃ V7 c7, s14 = .slice V7 m c7 ∧ m ≤ c7 ∧ wx.ownsRow base 3 1 (.slice V7 m c7) m xA ∧ wx.ownsRow base 3 1 (.slice E ne ce) ne xE ∧ (∀ k, (Value.slice E ne ce).ownBlock = some k → (Value.slice V7 m c7).ownBlock ≠ some k) ∧ Blk wx B10 55 #[.slice A5 rs2.length c5, .int .i64 ns, .int .i64 nK] ∧ RowsAt n₀ wx A5 rs2 ∧ Below base Wi6 wx
theorem sqx_ok {Wi6 w7 : World} {base B10 ns nK na m ne : Nat} {A5 E V V7 : Option Addr} {c5 ce cv c7 : Nat} {rs2 : List Bs} {xE xA xN : List Value} {b0 b1 b2 : Value} (hn : n₀ ≤ base) (hb : base ≤ Wi6.heap.size) (hB : base ≤ B10)
    (oE : Wi6.ownsRow base 3 1 (.slice E ne ce) ne xE) (oA : Wi6.ownsRow base 3 1 (.slice V na cv) na xA) (hne : ∀ k, (Value.slice E ne ce).ownBlock = some k → (Value.slice V na cv).ownBlock ≠ some k) (r6 : RowsAt n₀ Wi6 A5 rs2)
    (hown7 : w7.ownsRow base 3 1 (.slice V7 m c7) m xN) (hc7 : m ≤ c7) (hg : Wi6.drew.grownBy w7 (Value.slice V na cv).ownBlock) (hat : (Value.slice V7 m c7).ownBlock = (Value.slice V na cv).ownBlock ∨ (Value.slice V7 m c7).ownBlock = some Wi6.drew.heap.size) (t9 : Blk w7 B10 55 #[b0, b1, b2]) :
    SqX n₀ base B10 ns nK m ne A5 c5 E ce rs2 xE xN Wi6 (.slice V7 m c7) (((w7.setCell ⟨B10, 0, none⟩ (.slice A5 rs2.length c5)).setCell ⟨B10, 1, none⟩ (.int .i64 ns)).setCell ⟨B10, 2, none⟩ (.int .i64 nK)) := by
  obtain ⟨W, hW⟩ : ∃ W, W = ((w7.setCell ⟨B10, 0, none⟩ (.slice A5 rs2.length c5)).setCell ⟨B10, 1, none⟩ (.int .i64 ns)).setCell ⟨B10, 2, none⟩ (.int .i64 nK) := ⟨_, rfl⟩
  rw [← hW]
  have hk : Keep (fun r => r = B10) w7 W := by rw [hW]; repeat (first | with_reducible exact Keep.refl _ _ | refine Keep.setCell ?_ (fun _ => by simp) _)
  have hm := Boxes.one (n₀ := n₀) t9 rfl (Nat.le_trans hn hB)
  have oE0 : Wi6.drew.ownsRow base 3 1 (.slice E ne ce) ne xE := row_keep oE (Below.drew (Below.refl _ _))
  obtain ⟨oE7, hne7⟩ := own2 oE0 hne hg hat
  have hkA : Keep (fun r => (Value.slice V na cv).ownBlock = some r) Wi6 w7 := Keep.grown ((Keep.refl _ Wi6).drew) hg (fun k hk _ => hk)
  have hmA := own_boxesI (n₀ := n₀) oA hn
  have n1 : (Value.slice E ne ce).ownBlock ≠ some B10 := own_ne oE7 (show w7.heap[B10]? = _ from t9) (show (55 : Nat) ≠ 3 by decide)
  have n2 : (Value.slice V7 m c7).ownBlock ≠ some B10 := own_ne hown7 (show w7.heap[B10]? = _ from t9) (show (55 : Nat) ≠ 3 by decide)
  have hb7 : Below base Wi6 w7 := hkA.below hb (fun r hr h => by have := (oA.lt r h).1; omega)
  exact ⟨V7, c7, rfl, hc7, own_keepB hown7 hk (fun k h1 h2 => by subst h2; exact n2 h1), own_keepB oE7 hk (fun k h1 h2 => by subst h2; exact n1 h1), hne7, by rw [hW]; exact put3Q t9, (r6.keep hkA hmA).keep hk hm, hb7.trans (hk.below (Nat.le_trans hb hb7.size) (fun r hr h => by omega))⟩

set_option maxRecDepth 20000 in
set_option maxHeartbeats 8000000 in
theorem recorderSurvives_t (TA : Option Addr) (tc : Nat) (l : List Stq) (se : UInt8) (w : World) (hn : n₀ ≤ w.heap.size) (hll : l.length ≤ 1048576) (hrl : ∀ x ∈ l, x.blks.length ≤ 1048576 ∧ ∀ b ∈ x.blks, b.length ≤ 1048576) (t0 : StepsQ n₀ w TA l) :
    Calls Try.prog 18 #[.int .u8 (se.toNat : Int), .slice TA l.length tc] w (YesW w) := by
  have HRL := Lib.hid hrl
  have HT0 := Lib.hid t0
  clear hrl t0 hll
  obtain ⟨i0, hi0, hz0, hz1, hz2⟩ := info_parts info3r
  go_enter Try.func18, Try.ntmps18
  go_wp2_with (fail)
  have K : Calls Try.prog 57 #[] w (fun e w' => e = .returned (.bool true) ∧ Below w.heap.size w w') := rsane_t w
  go_at_call 57
  refine K.mono ?_
  rintro e w1 ⟨rfl, hb⟩
  clear K
  have hw := hb
  clear hb
  by_cases k1 : 8 < l.length
  case pos =>
    have d1 : decide (8 < (l.length : Int)) = true := decide_eq_true (by omega)
    have d1n : decide (8 < l.length) = true := decide_eq_true k1
    go_wp2
    go_ret
    exact ⟨rfl, hw⟩
  have d1 : decide (8 < (l.length : Int)) = false := decide_eq_false (by omega)
  have d1n : decide (8 < l.length) = false := decide_eq_false k1
  have hl8 : l.length ≤ 8 := by omega
  clear k1
  obtain ⟨ns, hns⟩ : ∃ n, n = se.toNat % 30 + 1 := ⟨_, rfl⟩
  have hns1 : 1 ≤ ns := by omega
  have hns2 : ns ≤ 30 := by omega
  have ewr : (se.toNat : Int) % 30 + 1 = (ns : Int) := by rw [hns]; omega
  have HEW := Lib.hid ewr
  clear hns ewr
  go_wp2_with (fail)
  rw [HEW.out]
  clear d1 d1n
  have K : Calls Try.prog 25 #[.int .i64 ns] w1 (fun e w' => ∃ S s P p, e = .returned (.tuple #[.agg #[.slice S ns s, .slice P 0 p, .int .i64 (-1), .bool false], .int .i64 0]) ∧ ns ≤ s ∧ RowsAt n₀ w' S (List.replicate ns zs) ∧ Below w1.heap.size w1 w') := (by have h := new_t (n₀ := n₀) ns w1; rw [show gNew ns = (⟨List.replicate ns zs, [], -1, false⟩, 0) by unfold gNew; rw [if_neg (by omega)]; rfl] at h; exact h.mono fun e w9 hx => by obtain ⟨v, rfl, ⟨S, s, P, p, rfl, h1, h2, h3, h4⟩, h5⟩ := hx; simp only [List.length_replicate] at h1; exact ⟨S, s, P, p, by simp only [List.length_replicate, List.length_nil], h1, h3, h5⟩)
  go_at_call 25
  refine K.mono ?_
  rintro e w2 ⟨S5, s5, P5, p5, rfl, hs5, r5, hb⟩
  clear K
  replace hw := hw.trans (hb.mono hw.size)
  clear hb
  go_upto_region 6 with (fail)
  have hn1 : n₀ ≤ w2.heap.size := Nat.le_trans hn hw.size
  obtain ⟨B, hB⟩ : ∃ B, B = w2.heap.size := ⟨_, rfl⟩
  obtain ⟨W2, hW2⟩ : ∃ W, W = w2.alloc (.cells #[.slice S5 ns s5, .slice P5 0 p5, .int .i64 (-1), .bool false] 25) := ⟨_, rfl⟩
  rw [← hW2]
  have hb2 : Below w2.heap.size w2 W2 := by rw [hW2]; exact (Below.refl _ _).alloc (Nat.le_refl _) _
  have x5 : Blk W2 B 25 #[.slice S5 ns s5, .slice P5 0 p5, .int .i64 (-1), .bool false] := by rw [hW2, hB]; exact Blk.new w2 25 _
  rw [← hB]
  have hBn : n₀ ≤ B := by omega
  clear hW2
  have HBE := Lib.hid hB
  clear hB
  go_wp2_with (fail)
  go_loopw [7, 50] (fun v7 v50 wr => ∃ i : Nat, i ≤ l.length ∧ v50 = .int .i64 i ∧ SqI n₀ ns w2 B i v7 wr) (fun _ v50 _ => l.length - (intOf v50).toNat)
  case atStart => exact ⟨0, by omega, rfl, _, [], [], none, 0, S5, s5, P5, p5, rfl, rfl, rfl, NumsAt.nil _ _, good_new hns1 (by omega), x5, hs5, r5.below hb2, hb2⟩
  case round =>
    clear x5 hb2 r5
    obtain ⟨i, hi, rfl, d, K, xs, kA, kc, S, s, P, p, rfl, hall, hxs, nk, hg, x5, hs, r5, hbi⟩ := hrel
    have HG := Lib.hid hg
    have hKl := (jval_sm (good_val hg) (by omega)).2
    have hxl : xs.length ≤ 480 := by have := smp_few hall; rw [hxs]; omega
    have HALL := Lib.hid hall
    have HXS := Lib.hid hxs
    have hwi : Below w.heap.size w wr := hw.trans (hbi.mono hw.size)
    have hdl : d.secs.length = ns := hg.len
    have HDL := Lib.hid hdl
    have hst0 : d.stop = false := hg.runs.2
    have HDS := Lib.hid hst0
    have HDP := Lib.hid hg.pend
    have HDF := Lib.hid hg.left
    clear hg hdl hst0 hall hxs
    obtain ⟨nx, hnx⟩ : ∃ n, n = xs.length := ⟨_, rfl⟩
    have HNX := Lib.hid hnx
    rw [← hnx] at hxl ⊢
    clear hnx
    have hxlt : B < wr.heap.size := x5.lt
    by_cases hlt : i < l.length
    case neg =>
      have x5c0 := x5.cell 0
      have x5c1 := x5.cell 1
      have x5c2 := x5.cell 2
      have x5c3 := x5.cell 3
      simp only [List.getElem?_toArray, List.getElem?_cons_zero, List.getElem?_cons_succ] at x5c0 x5c1 x5c2 x5c3
      have x5l := x5.lt
      go_wp2_with (fail)
      have K : Calls Try.prog 58 #[.agg #[.slice S ns s, .slice P 0 p, .int .i64 (-1), .bool false]] wr (fun e w' => ∃ A c V cv, e = .returned (.tuple #[.agg #[.slice A K.length c, .int .i64 ns, .int .i64 K.length], .slice V nx cv, .int .i64 0]) ∧ K.length ≤ c ∧ RowsAt n₀ w' A K ∧ nx ≤ cv ∧ NumsAt n₀ w' V xs ∧ Below wr.heap.size wr w') := (ropen_good HG.out (by omega) (Nat.le_trans hn hwi.size) HALL.out r5 rfl HXS.out.symm HNX.out.symm)
      go_at_call 58
      refine K.mono ?_
      rintro e w3 ⟨A30, c30, V30, v30, rfl, hc30, r30, hv30, n30, hb⟩
      clear K
      replace nk := nk.below hb
      replace r5 := r5.below hb
      replace x5 := x5.below hb x5.lt
      replace hwi := hwi.trans (hb.mono hwi.size)
      replace hbi := hbi.trans (hb.mono hbi.size)
      clear x5c0 x5c1 x5c2 x5c3 x5l
      clear hb
      go_upto_region 55 with (fail)
      obtain ⟨W4, hW4⟩ : ∃ W, W = w3.alloc (.cells #[.slice A30 K.length c30, .int .i64 ns, .int .i64 K.length] 55) := ⟨_, rfl⟩
      rw [← hW4]
      have hb : Below w3.heap.size w3 W4 := by rw [hW4]; exact (Below.refl _ _).alloc (Nat.le_refl _) _
      have x30 : Blk W4 w3.heap.size 55 #[.slice A30 K.length c30, .int .i64 ns, .int .i64 K.length] := by rw [hW4]; exact Blk.new w3 55 _
      clear hW4
      replace nk := nk.below hb
      replace r5 := r5.below hb
      replace r30 := r30.below hb
      replace n30 := n30.below hb
      replace x5 := x5.below hb x5.lt
      replace hwi := hwi.trans (hb.mono hwi.size)
      replace hbi := hbi.trans (hb.mono hbi.size)
      clear hb
      clear x30
      go_wp2_with (fail)
      have K : Calls Try.prog 61 #[.slice V30 nx v30, .slice kA nx kc] W4 (fun e w' => e = .returned (.bool true) ∧ Below W4.heap.size W4 w') := (by have h := sameI_t (n₀ := n₀) V30 kA v30 kc xs xs W4 (by rw [← HNX.out]; omega) (by rw [← HNX.out]; omega) n30 nk; rw [← HNX.out] at h; simpa using h)
      go_at_call 61
      refine K.mono ?_
      rintro e w5 ⟨rfl, hb⟩
      clear K
      replace nk := nk.below hb
      replace r5 := r5.below hb
      replace r30 := r30.below hb
      replace n30 := n30.below hb
      replace x5 := x5.below hb x5.lt
      replace hwi := hwi.trans (hb.mono hwi.size)
      replace hbi := hbi.trans (hb.mono hbi.size)
      clear hb
      go_wp2
      go_ret
      exact ⟨rfl, hwi⟩
    obtain ⟨ta, tq, hTA, htl, hget⟩ := HT0.out (by omega)
    subst hTA
    obtain ⟨RA, rc, g0, g1, g2, rr⟩ := hget i hlt
    obtain ⟨⟨blks, stop, at_⟩, hstp⟩ : ∃ x, x = l.getD i sq0 := ⟨_, rfl⟩
    have hbk := HRL.out (l.getD i sq0) (by rw [List.getD_eq_getElem?_getD, List.getElem?_eq_getElem hlt]; exact List.getElem_mem hlt)
    rw [← hstp] at g0 g1 g2 rr hbk
    dsimp only at g0 g1 g2 rr hbk
    clear hget hstp
    have e0 := (hwi.cell (p := ⟨ta, tq + i * 3, none⟩) htl).trans g0
    have e1 := (hwi.cell (p := ⟨ta, tq + i * 3 + 1, none⟩) htl).trans g1
    have e2 := (hwi.cell (p := ⟨ta, tq + i * 3 + 2, none⟩) htl).trans g2
    replace rr := rr.below hwi
    clear g0 g1 g2
    obtain ⟨hbk1, hbk2⟩ := hbk
    have HBK := Lib.hid hbk2
    clear hbk2
    obtain ⟨nb, hnb⟩ : ∃ n, n = blks.length := ⟨_, rfl⟩
    have HNB := Lib.hid hnb
    rw [← hnb] at e0 hbk1
    clear hnb
    have k0 : (0 : Int) ≤ (i : Int) := by omega
    have k1 : (i : Int) < (l.length : Int) := by omega
    go_upto_region 12 with (fail)
    obtain ⟨W3, hW3⟩ : ∃ W, W = wr.alloc (.cells #[.slice RA nb rc, .bool stop, .int .u8 (at_.toNat : Int)] 84) := ⟨_, rfl⟩
    rw [← hW3]
    have hb : Below wr.heap.size wr W3 := by rw [hW3]; exact (Below.refl _ _).alloc (Nat.le_refl _) _
    have x9 : Blk W3 wr.heap.size 84 #[.slice RA nb rc, .bool stop, .int .u8 (at_.toNat : Int)] := by rw [hW3]; exact Blk.new wr 84 _
    clear hW3
    replace nk := nk.below hb
    replace r5 := r5.below hb
    replace rr := rr.below hb
    replace x5 := x5.below hb x5.lt
    replace hwi := hwi.trans (hb.mono hwi.size)
    replace hbi := hbi.trans (hb.mono hbi.size)
    clear hb
    obtain ⟨B9, hB9⟩ : ∃ b, b = wr.heap.size := ⟨_, rfl⟩
    rw [← hB9] at x9 ⊢
    have hBB9 : B < B9 := by rw [hB9]; exact hxlt
    have HB9 := Lib.hid hB9
    clear hB9 hxlt
    clear e0 e1 e2
    have x9c0 := x9.cell 0
    have x9c1 := x9.cell 1
    have x9c2 := x9.cell 2
    simp only [List.getElem?_toArray, List.getElem?_cons_zero, List.getElem?_cons_succ] at x9c0 x9c1 x9c2
    have x9l := x9.lt
    by_cases k20 : 20 < nb
    case pos =>
      have d20 : decide (20 < (nb : Int)) = true := decide_eq_true (by omega)
      have d20n : decide (20 < nb) = true := decide_eq_true k20
      go_wp2
      go_ret
      exact ⟨rfl, hwi⟩
    have d20 : decide (20 < (nb : Int)) = false := decide_eq_false (by omega)
    have d20n : decide (20 < nb) = false := decide_eq_false k20
    have x5c0 := x5.cell 0
    have x5c1 := x5.cell 1
    have x5c2 := x5.cell 2
    have x5c3 := x5.cell 3
    simp only [List.getElem?_toArray, List.getElem?_cons_zero, List.getElem?_cons_succ] at x5c0 x5c1 x5c2 x5c3
    have x5l := x5.lt
    go_wp2_with (fail)
    clear d20 d20n
    have K : Calls Try.prog 58 #[.agg #[.slice S ns s, .slice P 0 p, .int .i64 (-1), .bool false]] W3 (fun e w' => ∃ A c V cv, e = .returned (.tuple #[.agg #[.slice A K.length c, .int .i64 ns, .int .i64 K.length], .slice V nx cv, .int .i64 0]) ∧ K.length ≤ c ∧ RowsAt n₀ w' A K ∧ nx ≤ cv ∧ NumsAt n₀ w' V xs ∧ Below W3.heap.size W3 w') := (ropen_good HG.out (by omega) (Nat.le_trans hn hwi.size) HALL.out r5 rfl HXS.out.symm HNX.out.symm)
    go_at_call 58
    refine K.mono ?_
    rintro e w4 ⟨A10, c10, V10, v10, rfl, hc10, r10, hv10, n10, hb⟩
    clear K
    replace nk := nk.below hb
    replace r5 := r5.below hb
    replace rr := rr.below hb
    replace x5 := x5.below hb x5.lt
    replace x9 := x9.below hb x9.lt
    replace hwi := hwi.trans (hb.mono hwi.size)
    replace hbi := hbi.trans (hb.mono hbi.size)
    clear x9c0 x9c1 x9c2 x9l x5c0 x5c1 x5c2 x5c3 x5l
    clear hb
    have hB910 : B9 < w4.heap.size := x9.lt
    have hJw : w.heap.size ≤ w4.heap.size := hwi.size
    have hbJ : Below w4.heap.size w4 w4 := Below.refl _ _
    have nkJ := nk
    have r5J := r5
    have rrJ := rr
    have x9J := x9
    have x5J := x5
    have hwiJ := hwi
    have hbiJ := hbi
    go_upto_region 15 with (fail)
    obtain ⟨W5, hW5⟩ : ∃ W, W = w4.alloc (.cells #[.slice A10 K.length c10, .int .i64 ns, .int .i64 K.length] 55) := ⟨_, rfl⟩
    rw [← hW5]
    have hb : Below w4.heap.size w4 W5 := by rw [hW5]; exact (Below.refl _ _).alloc (Nat.le_refl _) _
    have x10 : Blk W5 w4.heap.size 55 #[.slice A10 K.length c10, .int .i64 ns, .int .i64 K.length] := by rw [hW5]; exact Blk.new w4 55 _
    clear hW5
    replace nk := nk.below hb
    replace r5 := r5.below hb
    replace rr := rr.below hb
    replace r10 := r10.below hb
    replace n10 := n10.below hb
    replace x5 := x5.below hb x5.lt
    replace x9 := x9.below hb x9.lt
    replace hwi := hwi.trans (hb.mono hwi.size)
    replace hbi := hbi.trans (hb.mono hbi.size)
    replace hbJ := hbJ.trans (hb.mono hbJ.size)
    clear hb
    obtain ⟨B10, hB10⟩ : ∃ b, b = w4.heap.size := ⟨_, rfl⟩
    rw [← hB10] at x10 hB910 ⊢
    have HB10 := Lib.hid hB10
    clear hB10
    go_wp2_with (fail)
    have K : Calls Try.prog 61 #[.slice V10 nx v10, .slice kA nx kc] W5 (fun e w' => e = .returned (.bool true) ∧ Below W5.heap.size W5 w') := (by have h := sameI_t (n₀ := n₀) V10 kA v10 kc xs xs W5 (by rw [← HNX.out]; omega) (by rw [← HNX.out]; omega) n10 nk; rw [← HNX.out] at h; simpa using h)
    go_at_call 61
    refine K.mono ?_
    rintro e w6 ⟨rfl, hb⟩
    clear K
    replace nk := nk.below hb
    replace r5 := r5.below hb
    replace rr := rr.below hb
    replace r10 := r10.below hb
    replace n10 := n10.below hb
    replace x5 := x5.below hb x5.lt
    replace x9 := x9.below hb x9.lt
    replace x10 := x10.below hb x10.lt
    replace hwi := hwi.trans (hb.mono hwi.size)
    replace hbi := hbi.trans (hb.mono hbi.size)
    replace hbJ := hbJ.trans (hb.mono hbJ.size)
    clear hb
    go_upto_region 18 with (fail)
    obtain ⟨W7, hW7⟩ : ∃ W, W = w6.alloc (.cells #[.int .i64 nx] 3) := ⟨_, rfl⟩
    rw [← hW7]
    have hb : Below w6.heap.size w6 W7 := by rw [hW7]; exact (Below.refl _ _).alloc (Nat.le_refl _) _
    have hJc : w4.heap.size ≤ w6.heap.size := hbJ.size
    have oE : W7.ownsRow w4.heap.size 3 1 (.slice (some ⟨w6.heap.size, 0, none⟩) 1 1) 1 (icells (endsL K.length K)) := by
      rw [endsL_first, ← HXS.out, ← HNX.out, hW7]
      exact World.ownsRow_lit (base := w4.heap.size) (e := 3) (size := 1) w6 #[.int .i64 nx] 1 hJc (by simp [maxLen]) rfl
    clear hW7
    replace nk := nk.below hb
    replace r5 := r5.below hb
    replace rr := rr.below hb
    replace r10 := r10.below hb
    replace n10 := n10.below hb
    replace x5 := x5.below hb x5.lt
    replace x9 := x9.below hb x9.lt
    replace x10 := x10.below hb x10.lt
    replace hwi := hwi.trans (hb.mono hwi.size)
    replace hbi := hbi.trans (hb.mono hbi.size)
    replace hbJ := hbJ.trans (hb.mono hbJ.size)
    clear hb
    have ow := World.ownsRow_lit (base := w4.heap.size) (e := 3) (size := 1) W7 #[] 0 (Nat.le_trans hJc (by have := hbJ.size; have h9 := (oE.lt w6.heap.size rfl).2; omega)) (by simp [maxLen]) rfl
    have HOW := Lib.hid ow
    have HOE := Lib.hid oE
    have HNK := Lib.hid nk
    have HBJ := Lib.hid hbJ
    have hJW : w4.heap.size ≤ W7.heap.size := hbJ.size
    have hlE : w6.heap.size < W7.heap.size := (oE.lt w6.heap.size rfl).2
    clear ow
    go_upto_region 19 with (at_builtin; refine wpList_append_any_at (by rfl) (.tmp 75) (.tmp 76) 67 rfl w4.heap.size 3 i0 (.int .i64 0) 1 8 Try.underlying67 hi0 hz0 hz1 hz2 rfl (by decide) _ 0 [] rfl HOW.out kA nx kc (icells xs) rfl (by rw [icells_len, ← HNX.out, Nat.mul_one]) (fun h => nums_src HNK.out ((Below.refl _ _).alloc (Nat.le_refl _) _) (by rw [← HNX.out]; exact h)) (icells_one xs) (by simp [maxLen]; omega) (by omega) (by simp; omega) ?_; intro v14 w14 hown14 hgrow14 hat14)
    simp only [Nat.zero_add, List.nil_append] at hown14
    obtain ⟨V14, cv14, rfl, hc14⟩ := own_slice hown14
    have hb : Below W7.heap.size W7 w14 := ((Below.refl _ _).alloc (Nat.le_refl _) _).grown hgrow14 (by simp) (fun k hk => by have h9 : some W7.heap.size = some k := hk; cases h9; exact Nat.le_refl _)
    have hne : ∀ k, (Value.slice (some ⟨w6.heap.size, 0, none⟩) 1 1).ownBlock = some k → (Value.slice V14 nx cv14).ownBlock ≠ some k := fun k hk h => by
      have h9 : some w6.heap.size = some k := hk
      cases h9
      have hlt9 : w6.heap.size < W7.heap.size := hlE
      rcases hat14 with h1 | h1
      · have h2 : some W7.heap.size = some w6.heap.size := h1.symm.trans h
        simp only [Option.some.injEq] at h2
        omega
      · have h2 := h1.symm.trans h
        simp only [World.size_alloc, Option.some.injEq] at h2
        omega
    replace nk := nk.below hb
    replace r5 := r5.below hb
    replace rr := rr.below hb
    replace r10 := r10.below hb
    replace n10 := n10.below hb
    replace x5 := x5.below hb x5.lt
    replace x9 := x9.below hb x9.lt
    replace x10 := x10.below hb x10.lt
    replace oE := row_keep oE hb
    replace hwi := hwi.trans (hb.mono hwi.size)
    replace hbi := hbi.trans (hb.mono hbi.size)
    replace hbJ := hbJ.trans (hb.mono hbJ.size)
    clear hb
    clear hJc HOW HOE HNK HBJ hJW hlE
    have x9c0 := x9.cell 0
    have x9c1 := x9.cell 1
    have x9c2 := x9.cell 2
    simp only [List.getElem?_toArray, List.getElem?_cons_zero, List.getElem?_cons_succ] at x9c0 x9c1 x9c2
    have x9l := x9.lt
    go_wp2_with (fail)
    clear x9c0 x9c1 x9c2 x9l
    go_loopw [13, 14, 81] (fun v13 v14 v81 wr => ∃ k : Nat, k ≤ nb ∧ v81 = .int .i64 k ∧ SqR n₀ ns K w4 B10 v13 v14 wr) (fun _ _ v81 _ => nb - (intOf v81).toNat)
    case atStart =>
      have e1 : K.length - K.length + 1 = 1 := by omega
      exact ⟨0, by omega, rfl, K, A10, c10, _, _, V14, cv14, nx, xs, List.take_length, Nat.le_refl _, good_val HG.out, HALL.out, HXS.out, HNX.out, x10, hc10, r10, by rw [e1], by rw [e1]; exact oE, rfl, hc14, hown14, by rw [e1]; exact hne, hbJ⟩
    case round =>
      clear x10 r10 n10 hbJ nk r5 rr x9 x5 hwi hbi oE hown14 hne hc14
      obtain ⟨k, hk, rfl, rs, A, c, E, ce, V, cv, na, ys, ht, hlK, hv, hry, hys, hna, x10, hc, rA, rfl, oE, rfl, hcv, oA, hne, hbj⟩ := hrel
      have hjs := jval_sm hv (by omega)
      have HSR := Lib.hid hjs.1
      have hrn := hjs.2
      have HV := Lib.hid hv
      have HTK := Lib.hid ht
      have hyl : ys.length ≤ 480 := by have := smp_few hry; rw [hys]; omega
      have HRY := Lib.hid hry
      have HYS := Lib.hid hys
      have HNA := Lib.hid hna
      rw [← hna] at hyl
      obtain ⟨ne, hne1⟩ : ∃ n, n = rs.length - K.length + 1 := ⟨_, rfl⟩
      have HNE := Lib.hid hne1
      rw [← hne1] at oE hne
      rw [← hne1]
      have hnel : ne ≤ 31 := by omega
      clear hjs hv ht hry hys hna hne1
      have x10c0 := x10.cell 0
      have x10c1 := x10.cell 1
      have x10c2 := x10.cell 2
      simp only [List.getElem?_toArray, List.getElem?_cons_zero, List.getElem?_cons_succ] at x10c0 x10c1 x10c2
      have x10l := x10.lt
      by_cases hlt2 : k < nb
      case pos =>
        obtain ⟨ga, oa, hRA, lga, hget⟩ := (rrJ.below hbj) (by rw [← HNB.out]; omega)
        subst hRA
        obtain ⟨Ab, cb, zb, nbb⟩ := hget k (by rw [← HNB.out]; exact hlt2)
        clear hget
        obtain ⟨b, hbd⟩ : ∃ b, b = blks.getD k [] := ⟨_, rfl⟩
        rw [← hbd] at zb nbb
        clear hbd
        have kk0 : (0 : Int) ≤ (k : Int) := by omega
        have kk1 : (k : Int) < (nb : Int) := by omega
        obtain ⟨bl, hbl⟩ : ∃ n, n = b.length := ⟨_, rfl⟩
        have HBL := Lib.hid hbl
        rw [← hbl] at zb
        clear hbl
        by_cases k40 : 40 < bl
        case pos =>
          have d40 : decide (40 < (bl : Int)) = true := decide_eq_true (by omega)
          have d40n : decide (40 < bl) = true := decide_eq_true k40
          have hwr := hwiJ.trans (hbj.mono hwiJ.size)
          clear oE oA hne
          go_wp2
          go_ret
          exact ⟨rfl, hwr⟩
        have d40 : decide (40 < (bl : Int)) = false := decide_eq_false (by omega)
        have d40n : decide (40 < bl) = false := decide_eq_false k40
        go_wp2_with (fail)
        clear d40 d40n
        have hws : n₀ ≤ wr.heap.size := Nat.le_trans hn (Nat.le_trans hwiJ.size hbj.size)
        have HOE := Lib.hid oE
        have HOA := Lib.hid oA
        have HNEQ := Lib.hid hne
        clear oE oA hne
        by_cases hf : (rWrite ⟨rs, ns, K.length⟩ b).2 = 0
        case neg =>
          obtain ⟨hz, -⟩ := back_no hf
          obtain ⟨f, hf2⟩ : ∃ f, f = (rWrite ⟨rs, ns, K.length⟩ b).2 := ⟨_, rfl⟩
          rw [← hf2] at hf
          have HWR : Hid (rWrite ⟨rs, ns, K.length⟩ b = (jn0, f)) := Lib.hid (by rw [hf2, ← hz])
          have df : (f == 0) = false := beq_eq_false_iff_ne.2 hf
          clear hz hf2 hf
          have K1 : Calls Try.prog 59 #[.agg #[.slice A rs.length c, .int .i64 ns, .int .i64 K.length], .slice Ab bl cb] wr (fun e w' => ∃ A c, e = .returned (.tuple #[.agg #[.slice A 0 c, .int .i64 0, .int .i64 0], .int .i64 f]) ∧ Below wr.heap.size wr w') := by
            have h := rwriteR_t (n₀ := n₀) A Ab c cb ⟨rs, ns, K.length⟩ b wr hws HSR.out hc (by rw [← HBL.out]; omega) rA nbb
            rw [HWR.out, ← HBL.out] at h
            exact h.mono fun e w9 hx => by obtain ⟨A, c, h1, -, -, h4⟩ := jn_out (rs := []) (m := 0) (s := 0) (e := f) hx; exact ⟨A, c, h1, h4⟩
          go_at_call 59
          refine K1.mono ?_
          rintro e wi5 ⟨A5, c5, rfl, hb5⟩
          clear K1 x10c0 x10c1 x10c2 zb
          go_wp2_with (fail)
          have hb6 : Below wr.heap.size wr (wi5.alloc (.cells #[.slice A5 0 c5, .int .i64 0, .int .i64 0] 55)) := hb5.alloc hb5.size _
          go_roundw
          case rel => exact ⟨k + 1, by omega, by go_num, rs, A, c, E, ce, V, cv, na, ys, HTK.out, hlK, HV.out, HRY.out, HYS.out, HNA.out, x10.below hb6 x10l, hc, rA.below hb6, by rw [HNE.out], by rw [← HNE.out]; exact row_keep HOE.out hb6, rfl, hcv, row_keep HOA.out hb6, by rw [← HNE.out]; exact HNEQ.out, hbj.trans (hb6.mono hbj.size)⟩
          case measure => simp [intOf]; omega
        obtain ⟨-, hok, hv2, hwr2, -⟩ := write_ok hf
        obtain ⟨hall2, hsm2⟩ := all_snoc HRY.out hok
        have ht2 := take_grow (b := encB b) HTK.out hlK
        have hes := endsL_snoc hlK (encB b)
        rw [hsm2, ← HYS.out, List.length_append, ← HNA.out, ← HBL.out] at hes
        rw [← HYS.out] at hsm2
        dsimp only at hv2 hwr2
        obtain ⟨rs2, hrs2⟩ : ∃ r, r = rs ++ [encB b] := ⟨_, rfl⟩
        rw [← hrs2] at hv2 hwr2 hall2 hsm2 ht2 hes
        have hl2 : rs2.length = rs.length + 1 := by rw [hrs2]; simp
        have hlK2 : K.length ≤ rs2.length := by omega
        have hb1l : 1 ≤ bl := by rw [HBL.out]; exact hok.1
        have HL2 := Lib.hid hl2
        have HV2 := Lib.hid hv2
        have HWR := Lib.hid hwr2
        have HALL2 := Lib.hid hall2
        have HSM2 := Lib.hid hsm2
        have HT2 := Lib.hid ht2
        have HES := Lib.hid hes
        clear hok hv2 hwr2 hall2 hsm2 ht2 hes hl2 hrs2 hf
        have K1 : Calls Try.prog 59 #[.agg #[.slice A rs.length c, .int .i64 ns, .int .i64 K.length], .slice Ab bl cb] wr (fun e w' => ∃ A c, e = .returned (.tuple #[.agg #[.slice A rs2.length c, .int .i64 ns, .int .i64 K.length], .int .i64 0]) ∧ rs2.length ≤ c ∧ RowsAt n₀ w' A rs2 ∧ Below wr.heap.size wr w') := by
          have h := rwriteR_t (n₀ := n₀) A Ab c cb ⟨rs, ns, K.length⟩ b wr hws HSR.out hc (by rw [← HBL.out]; omega) rA nbb
          rw [HWR.out, ← HBL.out] at h
          exact h.mono fun e w9 hx => jn_out (rs := rs2) (m := ns) (s := K.length) (e := 0) hx
        go_at_call 59
        refine K1.mono ?_
        rintro e wi5 ⟨A5, c5, rfl, hc5, r6, hb5⟩
        clear K1 x10c0 x10c1 x10c2 zb rA
        go_upto_region 25 with (fail)
        obtain ⟨Wi6, hWi6⟩ : ∃ W, W = wi5.alloc (.cells #[.slice A5 rs2.length c5, .int .i64 ns, .int .i64 K.length] 55) := ⟨_, rfl⟩
        rw [← hWi6]
        have hb6 : Below wi5.heap.size wi5 Wi6 := by rw [hWi6]; exact (Below.refl _ _).alloc (Nat.le_refl _) _
        have x17 : Blk Wi6 wi5.heap.size 55 #[.slice A5 rs2.length c5, .int .i64 ns, .int .i64 K.length] := by rw [hWi6]; exact Blk.new wi5 55 _
        clear hWi6
        have hb7 := hb5.trans (hb6.mono hb5.size)
        replace r6 := r6.below hb6
        replace x10 := x10.below hb7 x10l
        replace hbj := hbj.trans (hb7.mono hbj.size)
        have oE := row_keep HOE.out hb7
        have oA := row_keep HOA.out hb7
        have nb6 := nbb.below hb7
        have h17 : B10 < wi5.heap.size := Nat.lt_of_lt_of_le x10l hb5.size
        clear hb5 hb6 hb7 x10l nbb
        have x17c0 := x17.cell 0
        have x17c1 := x17.cell 1
        have x17c2 := x17.cell 2
        simp only [List.getElem?_toArray, List.getElem?_cons_zero, List.getElem?_cons_succ] at x17c0 x17c1 x17c2
        have x17l := x17.lt
        have x10l := x10.lt
        go_upto_region 26 with (fail)
        have hsz6 := hbj.size
        obtain ⟨bb, bo, hAb, hlb, hcb⟩ := nb6 (by rw [← HBL.out]; omega)
        cases hAb
        have hsrc : ∀ W, Below Wi6.heap.size Wi6 W → ∀ j u, (icells b)[j]? = some u → W.cell? ((⟨bb, bo, none⟩ : Addr).add j) = some u := fun W hW j u hu => by
          obtain ⟨ad, had, hc9⟩ := nums_src nb6 hW (by rw [← HBL.out]; omega)
          cases had
          exact hc9 j u hu
        have HSRC := Lib.hid hsrc
        have HX10 := Lib.hid x10
        have HOA6 := Lib.hid oA
        have hbcl : (icells b).length = bl * 1 := by rw [icells_len, ← HBL.out, Nat.mul_one]
        have HBC := Lib.hid hbcl
        have H6 := Lib.hid r6
        have HOE6 := Lib.hid oE
        clear hsrc oA hbcl hlb hcb x10 r6 oE
        go_cut [14] (fun s14 wx => SqX n₀ w4.heap.size B10 ns K.length (na + bl) ne A5 c5 E ce rs2 (icells (endsL K.length rs)) (icells (ys ++ b)) Wi6 s14 wx)
        case first =>
          go_region_law (refine step_append_own_at rfl (.tmp 97) (.tmp 98) 67 rfl w4.heap.size 3 i0 (.int .i64 0) 1 8 Try.underlying67 hi0 hz0 hz1 hz2 rfl (by decide) (.slice V na cv) na (icells ys) rfl (row_keep HOA6.out (by repeat (first | with_reducible exact Below.refl _ _ | refine Below.drew ?_))) ⟨bb, bo, none⟩ bl cb (icells b) rfl HBC.out (HSRC.out _ (by repeat (first | with_reducible exact Below.refl _ _ | refine Below.drew ?_))) (icells_one b) (by simp [maxLen]; omega) (by omega) hsz6 ?_; intro v7 w7 hown7 hgrow7 hat7; obtain ⟨V7, c7, rfl, hc7⟩ := own_slice hown7; have hne7 : (Value.slice V na cv).ownBlock ≠ some B10 := own_ne (w := Wi6) HOA6.out (show Wi6.heap[B10]? = _ from HX10.out) (show (55 : Nat) ≠ 3 by decide); have hne8 : (Value.slice V na cv).ownBlock ≠ some wi5.heap.size := own_ne (w := Wi6) HOA6.out (show Wi6.heap[wi5.heap.size]? = _ from x17) (show (55 : Nat) ≠ 3 by decide); have t9 : Blk w7 B10 55 #[.slice A rs.length c, .int .i64 ns, .int .i64 K.length] := jgrow_blk (w := Wi6.drew) HX10.out hgrow7 (fun h => hne7 h.symm); have t17 : Blk w7 wi5.heap.size 55 #[.slice A5 rs2.length c5, .int .i64 ns, .int .i64 K.length] := jgrow_blk (w := Wi6.drew) x17 hgrow7 (fun h => hne8 h.symm); have t0 := t9.cell 0; have f0 := t9.frozen 0; have u0 := t17.cell 0; have t1 := t9.cell 1; have f1 := t9.frozen 1; have u1 := t17.cell 1; have t2 := t9.cell 2; have f2 := t9.frozen 2; have u2 := t17.cell 2; simp only [List.getElem?_toArray, List.getElem?_cons_zero, List.getElem?_cons_succ] at t0 t1 t2 u0 u1 u2; have tl := t9.lt)
          all_goals
            (try go_wp2_with (fail))
            go_meet
            rw [← icells_append] at hown7
            exact sqx_ok (Nat.le_trans hn hJw) hsz6 (by have := HB10.out; omega) HOE6.out HOA6.out HNEQ.out H6.out hown7 hc7 hgrow7 hat7 t9
        case rest =>
          obtain ⟨V7, c7, rfl, hc7, oA7, oE7, hne7, y10, r7, hbx⟩ := hcut
          clear HOE HOA HOA6 HOE6 HX10 HSRC H6 HBC x17c0 x17c1 x17c2 x17l x17
          have hbjx := hbj.trans hbx
          have hszx := hbjx.size
          have HOE7 := Lib.hid oE7
          have HOA7 := Lib.hid oA7
          have HNE7 := Lib.hid hne7
          have i5 : IntKind.i64.wrap ((na : Int) + (bl : Int)) = (na : Int) + bl := IntWalk.i64_in _ (by omega)
          clear oE7 oA7 hne7
          go_wp2_with (at_builtin; refine wpList_append_own_at _ rfl (.tmp 100) (.tmp 103) 67 rfl w4.heap.size 3 i0 (.int .i64 0) 1 8 Try.underlying67 hi0 hz0 hz1 hz2 rfl (by decide) (.slice E ne ce) ne (icells (endsL K.length rs)) rfl (HOE7.out.alloc _) ⟨wc.heap.size, 0, none⟩ 1 1 [.int .i64 ((na : Int) + (bl : Int))] rfl rfl (cell_new1 wc _ _) (by simp [Value.oneCell']) (by simp [maxLen]; omega) (by omega) (by simp <;> omega) ?_; intro v8 w8 hown8 hgrow8 _ hat8; obtain ⟨E8, c8, rfl, hc8⟩ := own_slice hown8)
          have hba : Below wc.heap.size wc (wc.alloc (.cells #[.int .i64 ((na : Int) + (bl : Int))] 3)) := (Below.refl _ _).alloc (Nat.le_refl _) _
          have oA9 := HOA7.out.alloc (.cells #[.int .i64 ((na : Int) + (bl : Int))] 3)
          have oE9 := HOE7.out.alloc (.cells #[.int .i64 ((na : Int) + (bl : Int))] 3)
          obtain ⟨oA8, hne8⟩ := own2 oA9 (fun k h1 h2 => HNE7.out k h2 h1) hgrow8 hat8
          have hkE : Keep (fun r => (Value.slice E ne ce).ownBlock = some r) wc w8 := Keep.grown ((Keep.refl _ wc).alloc _) hgrow8 (fun k hk _ => hk)
          have hmE := own_boxesI (n₀ := n₀) HOE7.out (Nat.le_trans hn hJw)
          have nE : (Value.slice E ne ce).ownBlock ≠ some B10 := own_ne (w := wc) HOE7.out (show wc.heap[B10]? = _ from y10) (show (55 : Nat) ≠ 3 by decide)
          have z10 := y10.keep hkE nE
          have r8 := r7.keep hkE hmE
          have hb8 : Below w4.heap.size wc w8 := hkE.below hszx (fun r hr h => by have := (HOE7.out.lt r h).1; omega)
          have ee : icells (endsL K.length rs) ++ [.int .i64 ((na : Int) + (bl : Int))] = icells (endsL K.length rs2) := by rw [HES.out, icells_append]; congr 2
          rw [ee] at hown8
          have en : ne + 1 = rs2.length - K.length + 1 := by have := HNE.out; have := HL2.out; omega
          have eN : na + bl = (ys ++ b).length := by rw [List.length_append, ← HNA.out, ← HBL.out]
          go_roundw
          case rel => exact ⟨k + 1, by omega, by go_num, rs2, A5, c5, E8, c8, V7, c7, na + bl, ys ++ b, HT2.out, hlK2, HV2.out, HALL2.out, HSM2.out.symm, eN, z10, hc5, r8, by rw [← en], by rw [← en]; exact hown8, rfl, hc7, oA8, by rw [← en]; exact fun k h1 h2 => hne8 k h2 h1, hbjx.trans hb8⟩
          case measure => simp [intOf]; omega
      have nk := nkJ.below hbj
      have r5 := r5J.below hbj
      have x9 := x9J.below hbj x9J.lt
      have x5 := x5J.below hbj x5J.lt
      have hwi := hwiJ.trans (hbj.mono hwiJ.size)
      have hbi := hbiJ.trans (hbj.mono hbiJ.size)
      have nA := own_nums (n₀ := n₀) oA HNA.out
      clear nkJ r5J x9J x5J hwiJ hbiJ rrJ
      clear x10c0 x10c1 x10c2 x10l
      have kn : k = nb := by omega
      have dkn : decide ((k : Int) < (nb : Int)) = false := decide_eq_false (by omega)
      have dknn : decide (k < nb) = false := decide_eq_false hlt2
      have nE := own_nums (n₀ := n₀) oE (by rw [endsL_len]; exact HNE.out)
      clear oE oA hne hbj
      have x10c0 := x10.cell 0
      have x10c1 := x10.cell 1
      have x10c2 := x10.cell 2
      simp only [List.getElem?_toArray, List.getElem?_cons_zero, List.getElem?_cons_succ] at x10c0 x10c1 x10c2
      have x10l := x10.lt
      go_wp2_with (fail)
      clear dkn dknn
      have K : Calls Try.prog 62 #[.agg #[.slice A rs.length c, .int .i64 ns, .int .i64 K.length]] wr (fun e w' => ∃ A c, e = .returned (.tuple #[.slice A na c, .int .i64 0]) ∧ NumsAt n₀ w' A ys ∧ Below wr.heap.size wr w') := (by have h := data_t A c ⟨rs, ns, K.length⟩ wr (Nat.le_trans hn hwi.size) HSR.out rA; rw [rdata_all HV.out HRY.out, ← HYS.out] at h; unfold NsIs at h; dsimp only at h; rw [← HNA.out] at h; exact h.mono fun e w9 hx => by obtain ⟨A, c, h1, -, h3, h4⟩ := hx; exact ⟨A, c, h1, h3, h4⟩)
      go_at_call 62
      refine K.mono ?_
      rintro e w8 ⟨A19, c19, rfl, n19, hb⟩
      clear K
      replace nk := nk.below hb
      replace r5 := r5.below hb
      replace rA := rA.below hb
      replace nA := nA.below hb
      replace nE := nE.below hb
      replace x5 := x5.below hb x5.lt
      replace x9 := x9.below hb x9.lt
      replace x10 := x10.below hb x10.lt
      replace hwi := hwi.trans (hb.mono hwi.size)
      replace hbi := hbi.trans (hb.mono hbi.size)
      clear x10c0 x10c1 x10c2 x10l
      clear hb
      go_wp2_with (fail)
      have K : Calls Try.prog 61 #[.slice A19 na c19, .slice V na cv] w8 (fun e w' => e = .returned (.bool true) ∧ Below w8.heap.size w8 w') := (by have h := sameI_t (n₀ := n₀) A19 V c19 cv ys ys w8 (by rw [← HNA.out]; omega) (by rw [← HNA.out]; omega) n19 nA; rw [← HNA.out] at h; simpa using h)
      go_at_call 61
      refine K.mono ?_
      rintro e w9 ⟨rfl, hb⟩
      clear K
      replace nk := nk.below hb
      replace r5 := r5.below hb
      replace rA := rA.below hb
      replace nA := nA.below hb
      replace nE := nE.below hb
      replace n19 := n19.below hb
      replace x5 := x5.below hb x5.lt
      replace x9 := x9.below hb x9.lt
      replace x10 := x10.below hb x10.lt
      replace hwi := hwi.trans (hb.mono hwi.size)
      replace hbi := hbi.trans (hb.mono hbi.size)
      clear hb
      clear n19
      have hB109 : B < B10 := by omega
      have x9c0 := x9.cell 0
      have x9c1 := x9.cell 1
      have x9c2 := x9.cell 2
      simp only [List.getElem?_toArray, List.getElem?_cons_zero, List.getElem?_cons_succ] at x9c0 x9c1 x9c2
      have x9l := x9.lt
      go_upto_if 120 with (fail)
      go_cut [] (fun wx => ∃ (lf : Int) (S2 : Option Addr) (s2 : Nat) (P2 : Option Addr) (p2 : Nat), -1 ≤ lf ∧ lf ≤ 39 ∧ (0 ≤ lf → stop = true) ∧ Blk wx B 25 #[.slice S2 ns s2, .slice P2 0 p2, .int .i64 lf, .bool false] ∧ ns ≤ s2 ∧ RowsAt n₀ wx S2 d.secs ∧ Blk wx B10 55 #[.slice A rs.length c, .int .i64 ns, .int .i64 K.length] ∧ RowsAt n₀ wx A rs ∧ Blk wx B9 84 #[.slice RA nb rc, .bool stop, .int .u8 (at_.toNat : Int)] ∧ NumsAt n₀ wx kA xs ∧ NumsAt n₀ wx V ys ∧ NumsAt n₀ wx E (endsL K.length rs) ∧ Below w.heap.size w wx ∧ Below w2.heap.size w2 wx)
      case first =>
        have hwB : w.heap.size ≤ w2.heap.size := hw.size
        cases stop
        case false =>
          go_wp2_with (fail)
          go_meet
          exact ⟨-1, S, s, P, p, by omega, by omega, fun h => absurd h (by decide), x5, hs, r5, x10, rA, x9, nk, nA, nE, hwi, hbi⟩
        obtain ⟨q, hq⟩ : ∃ q, q = at_.toNat % 40 := ⟨_, rfl⟩
        have hq2 : q ≤ 39 := by omega
        have hqe : (at_.toNat : Int) % 40 = (q : Int) := by rw [hq]; rfl
        have HQE := Lib.hid hqe
        clear hq hqe
        have x5c0 := x5.cell 0
        have x5c1 := x5.cell 1
        have x5c2 := x5.cell 2
        have x5c3 := x5.cell 3
        simp only [List.getElem?_toArray, List.getElem?_cons_zero, List.getElem?_cons_succ] at x5c0 x5c1 x5c2 x5c3
        have x5l := x5.lt
        go_wp2_with (fail)
        rw [HQE.out]
        have K : Calls Try.prog 38 #[.agg #[.slice S ns s, .slice P 0 p, .int .i64 (-1), .bool false], .int .i64 q] w9 (fun e w' => ∃ S s P p, e = .returned (.tuple #[.agg #[.slice S ns s, .slice P 0 p, .int .i64 q, .bool false], .int .i64 0]) ∧ ns ≤ s ∧ RowsAt n₀ w' S d.secs ∧ Below w9.heap.size w9 w') := stop_good HG.out (by omega) hq2 hs r5
        go_at_call 38
        refine K.mono ?_
        rintro e w10 ⟨S3, s3, P3, p3, rfl, hs3, r3, hb⟩
        clear K
        replace nk := nk.below hb
        replace r5 := r5.below hb
        replace rA := rA.below hb
        replace nA := nA.below hb
        replace nE := nE.below hb
        replace x5 := x5.below hb x5.lt
        replace x9 := x9.below hb x9.lt
        replace x10 := x10.below hb x10.lt
        replace hwi := hwi.trans (hb.mono hwi.size)
        replace hbi := hbi.trans (hb.mono hbi.size)
        clear x9c0 x9c1 x9c2 x9l x5c0 x5c1 x5c2 x5c3 x5l
        clear hb
        have x5c0 := x5.cell 0
        have x5f0 := x5.frozen 0
        have x5c1 := x5.cell 1
        have x5f1 := x5.frozen 1
        have x5c2 := x5.cell 2
        have x5f2 := x5.frozen 2
        have x5c3 := x5.cell 3
        have x5f3 := x5.frozen 3
        simp only [List.getElem?_toArray, List.getElem?_cons_zero, List.getElem?_cons_succ] at x5c0 x5c1 x5c2 x5c3
        have x5l := x5.lt
        go_upto_region 34 with (fail)
        obtain ⟨W11, hW11⟩ : ∃ W, W = ((((w10.setCell ⟨B, 0, none⟩ (.slice S3 ns s3)).setCell ⟨B, 1, none⟩ (.slice P3 0 p3)).setCell ⟨B, 2, none⟩ (.int .i64 q)).setCell ⟨B, 3, none⟩ (.bool false)) := ⟨_, rfl⟩
        rw [← hW11]
        have hk9 : Keep (fun r => r = B) w10 W11 := by rw [hW11]; repeat (first | with_reducible exact Keep.refl _ _ | refine Keep.setCell ?_ (fun _ => by simp) _)
        have hm9 := Boxes.one (n₀ := n₀) x5 rfl hBn
        replace nk := nk.box hk9 x5 (by decide) hBn
        replace r5 := r5.keep hk9 hm9
        replace rA := rA.keep hk9 hm9
        replace nA := nA.box hk9 x5 (by decide) hBn
        replace nE := nE.box hk9 x5 (by decide) hBn
        replace r3 := r3.keep hk9 hm9
        replace x9 := x9.keep hk9 (fun h => by omega)
        replace x10 := x10.keep hk9 (fun h => by omega)
        replace x5 : Blk W11 B 25 #[.slice S3 ns s3, .slice P3 0 p3, .int .i64 q, .bool false] := by rw [hW11]; exact ((((x5.set 0 (.slice S3 ns s3)).set 1 (.slice P3 0 p3)).set 2 (.int .i64 q)).set 3 (.bool false))
        replace hwi := hwi.trans (hk9.below hwi.size (fun r hr h => by have := HBE.out; omega))
        replace hbi := hbi.trans (hk9.below hbi.size (fun r hr h => by have := HBE.out; omega))
        clear x5f0 x5f1 x5f2 x5f3 x5c0 x5c1 x5c2 x5c3 x5l
        clear hW11 hk9 hm9
        go_wp2_with (fail)
        go_meet
        exact ⟨q, S3, s3, P3, p3, by omega, by omega, (by intro _; trivial), x5, hs3, r3, x10, rA, x9, nk, nA, nE, hwi, hbi⟩
      case rest =>
        clear x9c0 x9c1 x9c2 x9l
        clear x5 r5 x10 rA x9 nk nA nE hwi hbi
        obtain ⟨lf, S2, s2, P2, p2, hlf1, hlf2, hlf3, x5, hs2, r5, x10, rA, x9, nk, nA, nE, hwi, hbi⟩ := hcut
        have hwB : w.heap.size ≤ w2.heap.size := hw.size
        have hst := sv_step HG.out (by omega) hns1 (by omega) HTK.out hlK HV.out hlf1 (by omega)
        rcases hst with ⟨y, e1, hgy⟩ | ⟨hlf0, y, n, e1, hn2, hn3, hgy⟩
        case inl =>
          have HE1 := Lib.hid e1
          have HGY := Lib.hid hgy
          have hyl2 : y.secs.length = ns := hgy.len
          have HYL := Lib.hid hyl2
          clear e1 hgy hyl2
          have x10c0 := x10.cell 0
          have x10c1 := x10.cell 1
          have x10c2 := x10.cell 2
          simp only [List.getElem?_toArray, List.getElem?_cons_zero, List.getElem?_cons_succ] at x10c0 x10c1 x10c2
          have x10l := x10.lt
          have x5c0 := x5.cell 0
          have x5c1 := x5.cell 1
          have x5c2 := x5.cell 2
          have x5c3 := x5.cell 3
          simp only [List.getElem?_toArray, List.getElem?_cons_zero, List.getElem?_cons_succ] at x5c0 x5c1 x5c2 x5c3
          have x5l := x5.lt
          go_wp2_with (fail)
          have K : Calls Try.prog 60 #[.agg #[.slice A rs.length c, .int .i64 ns, .int .i64 K.length], .agg #[.slice S2 ns s2, .slice P2 0 p2, .int .i64 lf, .bool false]] wc (fun e w' => ∃ A c S s P p, e = .returned (.tuple #[.agg #[.slice A rs.length c, .int .i64 ns, .int .i64 rs.length], .agg #[.slice S ns s, .slice P y.pend.length p, .int .i64 y.left, .bool y.stop], .int .i64 0]) ∧ RowsAt n₀ w' A rs ∧ ns ≤ s ∧ RowsAt n₀ w' S y.secs ∧ Below wc.heap.size wc w') := rsync_whole HG.out (by omega) (Nat.le_trans hn hwi.size) HV.out HRY.out HSR.out hc hs2 rA r5 HE1.out HYL.out
          go_at_call 60
          refine K.mono ?_
          rintro e w10 ⟨A16, c16, S17, s17, P17, p17, rfl, r16, hs17, r17, hb⟩
          clear K
          replace r5 := r5.below hb
          replace rA := rA.below hb
          replace nk := nk.below hb
          replace nA := nA.below hb
          replace nE := nE.below hb
          replace x5 := x5.below hb x5.lt
          replace x9 := x9.below hb x9.lt
          replace x10 := x10.below hb x10.lt
          replace hwi := hwi.trans (hb.mono hwi.size)
          replace hbi := hbi.trans (hb.mono hbi.size)
          clear x10c0 x10c1 x10c2 x10l x5c0 x5c1 x5c2 x5c3 x5l
          clear hb
          clear r16
          go_upto_region 37 with (fail)
          obtain ⟨W11, hW11⟩ : ∃ W, W = (w10.alloc (.cells #[.slice A16 rs.length c16, .int .i64 ns, .int .i64 rs.length] 55)).alloc (.cells #[.slice S17 ns s17, .slice P17 y.pend.length p17, .int .i64 y.left, .bool y.stop] 25) := ⟨_, rfl⟩
          rw [← hW11]
          have hb : Below w10.heap.size w10 W11 := by rw [hW11]; exact ((Below.refl _ _).alloc (Nat.le_refl _) _).alloc (by simp) _
          have x16 : Blk W11 w10.heap.size 55 #[.slice A16 rs.length c16, .int .i64 ns, .int .i64 rs.length] := by rw [hW11]; exact (Blk.new w10 55 _).alloc _
          have x17 : Blk W11 (w10.heap.size + 1) 25 #[.slice S17 ns s17, .slice P17 y.pend.length p17, .int .i64 y.left, .bool y.stop] := by rw [hW11]; exact Blk.newAt (by simp) 25 _
          clear hW11
          replace r5 := r5.below hb
          replace rA := rA.below hb
          replace nk := nk.below hb
          replace nA := nA.below hb
          replace nE := nE.below hb
          replace r17 := r17.below hb
          replace x5 := x5.below hb x5.lt
          replace x9 := x9.below hb x9.lt
          replace x10 := x10.below hb x10.lt
          replace hwi := hwi.trans (hb.mono hwi.size)
          replace hbi := hbi.trans (hb.mono hbi.size)
          clear hb
          clear x16
          have hBx : B < B10 := by omega
          have x17c0 := x17.cell 0
          have x17c1 := x17.cell 1
          have x17c2 := x17.cell 2
          have x17c3 := x17.cell 3
          simp only [List.getElem?_toArray, List.getElem?_cons_zero, List.getElem?_cons_succ] at x17c0 x17c1 x17c2 x17c3
          have x17l := x17.lt
          go_wp2_with (fail)
          have K : Calls Try.prog 30 #[.agg #[.slice S17 ns s17, .slice P17 y.pend.length p17, .int .i64 y.left, .bool y.stop]] W11 (fun e w' => e = .returned (.agg #[.slice S17 ns s17, .slice none 0 0, .int .i64 (-1), .bool false]) ∧ Below W11.heap.size W11 w') := restart_good HYL.out W11
          go_at_call 30
          refine K.mono ?_
          rintro e w12 ⟨rfl, hb⟩
          clear K
          replace r5 := r5.below hb
          replace rA := rA.below hb
          replace nk := nk.below hb
          replace nA := nA.below hb
          replace nE := nE.below hb
          replace r17 := r17.below hb
          replace x5 := x5.below hb x5.lt
          replace x9 := x9.below hb x9.lt
          replace x10 := x10.below hb x10.lt
          replace x17 := x17.below hb x17.lt
          replace hwi := hwi.trans (hb.mono hwi.size)
          replace hbi := hbi.trans (hb.mono hbi.size)
          clear x17c0 x17c1 x17c2 x17c3 x17l
          clear hb
          clear x17
          have x5c0 := x5.cell 0
          have x5f0 := x5.frozen 0
          have x5c1 := x5.cell 1
          have x5f1 := x5.frozen 1
          have x5c2 := x5.cell 2
          have x5f2 := x5.frozen 2
          have x5c3 := x5.cell 3
          have x5f3 := x5.frozen 3
          simp only [List.getElem?_toArray, List.getElem?_cons_zero, List.getElem?_cons_succ] at x5c0 x5c1 x5c2 x5c3
          have x5l := x5.lt
          go_upto_region 53 with (fail)
          obtain ⟨W13, hW13⟩ : ∃ W, W = ((((w12.setCell ⟨B, 0, none⟩ (.slice S17 ns s17)).setCell ⟨B, 1, none⟩ (.slice none 0 0)).setCell ⟨B, 2, none⟩ (.int .i64 (-1))).setCell ⟨B, 3, none⟩ (.bool false)) := ⟨_, rfl⟩
          rw [← hW13]
          have hk9 : Keep (fun r => r = B) w12 W13 := by rw [hW13]; repeat (first | with_reducible exact Keep.refl _ _ | refine Keep.setCell ?_ (fun _ => by simp) _)
          have hm9 := Boxes.one (n₀ := n₀) x5 rfl hBn
          replace r5 := r5.keep hk9 hm9
          replace rA := rA.keep hk9 hm9
          replace nk := nk.box hk9 x5 (by decide) hBn
          replace nA := nA.box hk9 x5 (by decide) hBn
          replace nE := nE.box hk9 x5 (by decide) hBn
          replace r17 := r17.keep hk9 hm9
          replace x9 := x9.keep hk9 (fun h => by omega)
          replace x10 := x10.keep hk9 (fun h => by omega)
          replace x5 : Blk W13 B 25 #[.slice S17 ns s17, .slice none 0 0, .int .i64 (-1), .bool false] := by rw [hW13]; exact ((((x5.set 0 (.slice S17 ns s17)).set 1 (.slice none 0 0)).set 2 (.int .i64 (-1))).set 3 (.bool false))
          replace hwi := hwi.trans (hk9.below hwi.size (fun r hr h => by have := HBE.out; omega))
          replace hbi := hbi.trans (hk9.below hbi.size (fun r hr h => by have := HBE.out; omega))
          clear x5f0 x5f1 x5f2 x5f3 x5c0 x5c1 x5c2 x5c3 x5l
          clear hW13 hk9 hm9
          go_wp2_with (fail)
          go_roundw
          case rel => exact ⟨i + 1, by omega, by go_num, gRestart y, rs, _, V, cv, S17, s17, none, 0, by rw [HNA.out], HRY.out, HYS.out, nA, by have h := HGY.out; rw [show 1 + i + 1 = 1 + (i + 1) by omega] at h; exact h, x5, hs17, r17, hbi⟩
          case measure => simp [intOf]; omega
        case inr =>
          have HE1 := Lib.hid e1
          have HGY := Lib.hid hgy
          have hyl2 : y.secs.length = ns := hgy.len
          have HYL := Lib.hid hyl2
          clear e1 hgy hyl2
          have x10c0 := x10.cell 0
          have x10c1 := x10.cell 1
          have x10c2 := x10.cell 2
          simp only [List.getElem?_toArray, List.getElem?_cons_zero, List.getElem?_cons_succ] at x10c0 x10c1 x10c2
          have x10l := x10.lt
          have x5c0 := x5.cell 0
          have x5c1 := x5.cell 1
          have x5c2 := x5.cell 2
          have x5c3 := x5.cell 3
          simp only [List.getElem?_toArray, List.getElem?_cons_zero, List.getElem?_cons_succ] at x5c0 x5c1 x5c2 x5c3
          have x5l := x5.lt
          go_wp2_with (fail)
          have K : Calls Try.prog 60 #[.agg #[.slice A rs.length c, .int .i64 ns, .int .i64 K.length], .agg #[.slice S2 ns s2, .slice P2 0 p2, .int .i64 lf, .bool false]] wc (fun e w' => ∃ A c S s P p, e = .returned (.tuple #[.agg #[.slice A 0 c, .int .i64 0, .int .i64 0], .agg #[.slice S ns s, .slice P y.pend.length p, .int .i64 y.left, .bool y.stop], .int .i64 40]) ∧ ns ≤ s ∧ RowsAt n₀ w' S y.secs ∧ Below wc.heap.size wc w') := rsync_part HG.out (by omega) (Nat.le_trans hn hwi.size) HV.out HRY.out HSR.out hc hs2 rA r5 HE1.out HYL.out
          go_at_call 60
          refine K.mono ?_
          rintro e w10 ⟨A16, c16, S17, s17, P17, p17, rfl, hs17, r17, hb⟩
          clear K
          replace r5 := r5.below hb
          replace rA := rA.below hb
          replace nk := nk.below hb
          replace nA := nA.below hb
          replace nE := nE.below hb
          replace x5 := x5.below hb x5.lt
          replace x9 := x9.below hb x9.lt
          replace x10 := x10.below hb x10.lt
          replace hwi := hwi.trans (hb.mono hwi.size)
          replace hbi := hbi.trans (hb.mono hbi.size)
          clear x10c0 x10c1 x10c2 x10l x5c0 x5c1 x5c2 x5c3 x5l
          clear hb
          go_upto_region 37 with (fail)
          obtain ⟨W11, hW11⟩ : ∃ W, W = (w10.alloc (.cells #[.slice A16 0 c16, .int .i64 0, .int .i64 0] 55)).alloc (.cells #[.slice S17 ns s17, .slice P17 y.pend.length p17, .int .i64 y.left, .bool y.stop] 25) := ⟨_, rfl⟩
          rw [← hW11]
          have hb : Below w10.heap.size w10 W11 := by rw [hW11]; exact ((Below.refl _ _).alloc (Nat.le_refl _) _).alloc (by simp) _
          have x16 : Blk W11 w10.heap.size 55 #[.slice A16 0 c16, .int .i64 0, .int .i64 0] := by rw [hW11]; exact (Blk.new w10 55 _).alloc _
          have x17 : Blk W11 (w10.heap.size + 1) 25 #[.slice S17 ns s17, .slice P17 y.pend.length p17, .int .i64 y.left, .bool y.stop] := by rw [hW11]; exact Blk.newAt (by simp) 25 _
          clear hW11
          replace r5 := r5.below hb
          replace rA := rA.below hb
          replace nk := nk.below hb
          replace nA := nA.below hb
          replace nE := nE.below hb
          replace r17 := r17.below hb
          replace x5 := x5.below hb x5.lt
          replace x9 := x9.below hb x9.lt
          replace x10 := x10.below hb x10.lt
          replace hwi := hwi.trans (hb.mono hwi.size)
          replace hbi := hbi.trans (hb.mono hbi.size)
          clear hb
          clear x16
          have hRt : (rs.take n).length = n := by rw [List.length_take]; omega
          have HRT := Lib.hid hRt
          clear hRt
          have hst1 := hlf3 hlf0
          subst hst1
          have hap := all_pre HRY.out n
          have HAP := Lib.hid hap
          obtain ⟨zs2, hzs⟩ : ∃ z, z = (rs.take n).flatMap smpL := ⟨_, rfl⟩
          obtain ⟨nz, hnz⟩ : ∃ z, z = zs2.length := ⟨_, rfl⟩
          have hzt := smp_take rs n
          have hzl := smp_pre_len rs n
          rw [← hzs, ← HYS.out] at hzt hzl
          rw [← hnz] at hzt hzl
          rw [← HNA.out] at hzl
          have HZS := Lib.hid hzs
          have HNZ := Lib.hid hnz
          have HZT := Lib.hid hzt
          clear hap hzs hnz hzt
          have x17c0 := x17.cell 0
          have x17c1 := x17.cell 1
          have x17c2 := x17.cell 2
          have x17c3 := x17.cell 3
          simp only [List.getElem?_toArray, List.getElem?_cons_zero, List.getElem?_cons_succ] at x17c0 x17c1 x17c2 x17c3
          have x17l := x17.lt
          go_wp2_with (fail)
          have K : Calls Try.prog 30 #[.agg #[.slice S17 ns s17, .slice P17 y.pend.length p17, .int .i64 y.left, .bool y.stop]] W11 (fun e w' => e = .returned (.agg #[.slice S17 ns s17, .slice none 0 0, .int .i64 (-1), .bool false]) ∧ Below W11.heap.size W11 w') := restart_good HYL.out W11
          go_at_call 30
          refine K.mono ?_
          rintro e w12 ⟨rfl, hb⟩
          clear K
          replace r5 := r5.below hb
          replace rA := rA.below hb
          replace nk := nk.below hb
          replace nA := nA.below hb
          replace nE := nE.below hb
          replace r17 := r17.below hb
          replace x5 := x5.below hb x5.lt
          replace x9 := x9.below hb x9.lt
          replace x10 := x10.below hb x10.lt
          replace x17 := x17.below hb x17.lt
          replace hwi := hwi.trans (hb.mono hwi.size)
          replace hbi := hbi.trans (hb.mono hbi.size)
          clear x17c0 x17c1 x17c2 x17c3 x17l
          clear hb
          go_wp2_with (fail)
          have K : Calls Try.prog 58 #[.agg #[.slice S17 ns s17, .slice none 0 0, .int .i64 (-1), .bool false]] w12 (fun e w' => ∃ A c V cv, e = .returned (.tuple #[.agg #[.slice A n c, .int .i64 ns, .int .i64 n], .slice V nz cv, .int .i64 0]) ∧ NumsAt n₀ w' V zs2 ∧ Below w12.heap.size w12 w') := ((ropen_good HGY.out (by omega) (Nat.le_trans hn hwi.size) HAP.out r17 HRT.out HZS.out.symm HNZ.out.symm).mono fun e w9 hx => by obtain ⟨A, c, V, cv, h1, -, -, -, h5, h6⟩ := hx; exact ⟨A, c, V, cv, h1, h5, h6⟩)
          go_at_call 58
          refine K.mono ?_
          rintro e w13 ⟨A24, c24, V25, v25, rfl, n25, hb⟩
          clear K
          replace r5 := r5.below hb
          replace rA := rA.below hb
          replace nk := nk.below hb
          replace nA := nA.below hb
          replace nE := nE.below hb
          replace r17 := r17.below hb
          replace x5 := x5.below hb x5.lt
          replace x9 := x9.below hb x9.lt
          replace x10 := x10.below hb x10.lt
          replace x17 := x17.below hb x17.lt
          replace hwi := hwi.trans (hb.mono hwi.size)
          replace hbi := hbi.trans (hb.mono hbi.size)
          clear hb
          go_upto_region 43 with (fail)
          obtain ⟨W14, hW14⟩ : ∃ W, W = w13.alloc (.cells #[.slice A24 n c24, .int .i64 ns, .int .i64 n] 55) := ⟨_, rfl⟩
          rw [← hW14]
          have hb : Below w13.heap.size w13 W14 := by rw [hW14]; exact (Below.refl _ _).alloc (Nat.le_refl _) _
          have x24 : Blk W14 w13.heap.size 55 #[.slice A24 n c24, .int .i64 ns, .int .i64 n] := by rw [hW14]; exact Blk.new w13 55 _
          clear hW14
          replace r5 := r5.below hb
          replace rA := rA.below hb
          replace nk := nk.below hb
          replace nA := nA.below hb
          replace nE := nE.below hb
          replace r17 := r17.below hb
          replace n25 := n25.below hb
          replace x5 := x5.below hb x5.lt
          replace x9 := x9.below hb x9.lt
          replace x10 := x10.below hb x10.lt
          replace x17 := x17.below hb x17.lt
          replace hwi := hwi.trans (hb.mono hwi.size)
          replace hbi := hbi.trans (hb.mono hbi.size)
          clear hb
          clear x24
          go_wp2_with (fail)
          have hyA := nE
          have HNE2 := Lib.hid nE
          go_loopw [27, 154] (fun v27 v154 wx => ∃ (q : Nat) (fl : Bool), q ≤ ne ∧ v154 = .int .i64 q ∧ v27 = .bool fl ∧ Hid (n - K.length < q → fl = true) ∧ wx = W14) (fun _ v154 _ => ne - (intOf v154).toNat)
          case atStart => exact ⟨0, false, by omega, rfl, rfl, Lib.hid (fun h => absurd h (by omega)), rfl⟩
          case round =>
            obtain ⟨q, fl, hq, rfl, rfl, HFL, hwx⟩ := hrel
            have hwx := hwx.symm
            subst hwx
            by_cases hq2 : q < ne
            case pos =>
              obtain ⟨eb, eo, rfl, leb, hce⟩ := hyA (by rw [endsL_len, ← HNE.out]; omega)
              have ze := hce q (by rw [endsL_len, ← HNE.out]; exact hq2)
              rw [endsL_get (by have := HNE.out; omega)] at ze
              obtain ⟨zq, hzq⟩ : ∃ z, z = ((rs.take (K.length + q)).flatMap smpL).length := ⟨_, rfl⟩
              rw [← hzq] at ze
              have hfl2 : n - K.length < q + 1 → (if fl = true then true else decide ((zq : Int) = (nz : Int))) = true := fun h => by
                by_cases h9 : fl = true
                · rw [if_pos h9]
                · rw [if_neg h9]
                  have h8 : q = n - K.length := by
                    rcases Nat.lt_or_ge (n - K.length) q with h7 | h7
                    · exact absurd (HFL.out h7) h9
                    · omega
                  have h6 : zq = nz := by rw [hzq, HNZ.out, HZS.out, h8, show K.length + (n - K.length) = n by omega]
                  rw [h6]
                  exact decide_eq_true rfl
              have HFL2 := Lib.hid hfl2
              have q0 : (0 : Int) ≤ (q : Int) := by omega
              have q1 : (q : Int) < (ne : Int) := by omega
              clear hce hzq hfl2
              cases fl
              case false =>
                obtain ⟨yq, hyq⟩ : ∃ y, y = ((zq : Int) == (nz : Int)) := ⟨_, rfl⟩
                have hyq2 := hyq.symm
                have HYQ := Lib.hid hyq
                clear hyq
                go_wp2_with (fail)
                go_roundw
                case rel => exact ⟨q + 1, yq, by omega, by go_num, rfl, Lib.hid (fun h => by have h1 := HFL2.out h; rw [if_neg (by simp)] at h1; rw [HYQ.out]; exact beq_iff_eq.2 (of_decide_eq_true h1)), by first | trivial | rfl⟩
                case measure => simp [intOf]; omega
              case true =>
                go_wp2_with (fail)
                go_roundw
                case rel => exact ⟨q + 1, true, by omega, by go_num, rfl, Lib.hid (fun _ => rfl), by first | trivial | rfl⟩
                case measure => simp [intOf]; omega
            have hfl : fl = true := HFL.out (by have := HNE.out; omega)
            subst hfl
            have dq : decide ((q : Int) < (ne : Int)) = false := decide_eq_false (by omega)
            have dqn : decide (q < ne) = false := decide_eq_false hq2
            have x9c0 := x9.cell 0
            have x9c1 := x9.cell 1
            have x9c2 := x9.cell 2
            simp only [List.getElem?_toArray, List.getElem?_cons_zero, List.getElem?_cons_succ] at x9c0 x9c1 x9c2
            have x9l := x9.lt
            have nzc : (nz : Int) ≤ (cv : Int) := by omega
            have nzc0 : (0 : Int) ≤ (nz : Int) := by omega
            go_wp2_with (fail)
            have K : Calls Try.prog 61 #[.slice V25 nz v25, .slice V nz cv] W14 (fun e w' => e = .returned (.bool true) ∧ Below W14.heap.size W14 w') := (by have hz := nums_take nA nz; rw [HZT.out] at hz; have h := sameI_t (n₀ := n₀) V25 V v25 cv zs2 zs2 W14 (by rw [← HNZ.out]; omega) (by rw [← HNZ.out]; omega) n25 hz; rw [← HNZ.out] at h; simpa using h)
            go_at_call 61
            refine K.mono ?_
            rintro e w15 ⟨rfl, hb⟩
            clear K
            replace r5 := r5.below hb
            replace rA := rA.below hb
            replace nk := nk.below hb
            replace nA := nA.below hb
            replace nE := nE.below hb
            replace r17 := r17.below hb
            replace n25 := n25.below hb
            replace x5 := x5.below hb x5.lt
            replace x9 := x9.below hb x9.lt
            replace x10 := x10.below hb x10.lt
            replace x17 := x17.below hb x17.lt
            replace hwi := hwi.trans (hb.mono hwi.size)
            replace hbi := hbi.trans (hb.mono hbi.size)
            clear x9c0 x9c1 x9c2 x9l
            clear hb
            clear dq dqn nzc nzc0
            have x17c0 := x17.cell 0
            have x17c1 := x17.cell 1
            have x17c2 := x17.cell 2
            have x17c3 := x17.cell 3
            simp only [List.getElem?_toArray, List.getElem?_cons_zero, List.getElem?_cons_succ] at x17c0 x17c1 x17c2 x17c3
            have x17l := x17.lt
            go_wp2_with (fail)
            have K : Calls Try.prog 30 #[.agg #[.slice S17 ns s17, .slice P17 y.pend.length p17, .int .i64 y.left, .bool y.stop]] w15 (fun e w' => e = .returned (.agg #[.slice S17 ns s17, .slice none 0 0, .int .i64 (-1), .bool false]) ∧ Below w15.heap.size w15 w') := restart_good HYL.out w15
            go_at_call 30
            refine K.mono ?_
            rintro e w16 ⟨rfl, hb⟩
            clear K
            replace r5 := r5.below hb
            replace rA := rA.below hb
            replace nk := nk.below hb
            replace nA := nA.below hb
            replace nE := nE.below hb
            replace r17 := r17.below hb
            replace n25 := n25.below hb
            replace x5 := x5.below hb x5.lt
            replace x9 := x9.below hb x9.lt
            replace x10 := x10.below hb x10.lt
            replace x17 := x17.below hb x17.lt
            replace hwi := hwi.trans (hb.mono hwi.size)
            replace hbi := hbi.trans (hb.mono hbi.size)
            clear x17c0 x17c1 x17c2 x17c3 x17l
            clear hb
            clear x17
            have x5c0 := x5.cell 0
            have x5f0 := x5.frozen 0
            have x5c1 := x5.cell 1
            have x5f1 := x5.frozen 1
            have x5c2 := x5.cell 2
            have x5f2 := x5.frozen 2
            have x5c3 := x5.cell 3
            have x5f3 := x5.frozen 3
            simp only [List.getElem?_toArray, List.getElem?_cons_zero, List.getElem?_cons_succ] at x5c0 x5c1 x5c2 x5c3
            have x5l := x5.lt
            go_upto_region 53 with (fail)
            obtain ⟨W17, hW17⟩ : ∃ W, W = ((((w16.setCell ⟨B, 0, none⟩ (.slice S17 ns s17)).setCell ⟨B, 1, none⟩ (.slice none 0 0)).setCell ⟨B, 2, none⟩ (.int .i64 (-1))).setCell ⟨B, 3, none⟩ (.bool false)) := ⟨_, rfl⟩
            rw [← hW17]
            have hk9 : Keep (fun r => r = B) w16 W17 := by rw [hW17]; repeat (first | with_reducible exact Keep.refl _ _ | refine Keep.setCell ?_ (fun _ => by simp) _)
            have hm9 := Boxes.one (n₀ := n₀) x5 rfl hBn
            replace r5 := r5.keep hk9 hm9
            replace rA := rA.keep hk9 hm9
            replace nk := nk.box hk9 x5 (by decide) hBn
            replace nA := nA.box hk9 x5 (by decide) hBn
            replace nE := nE.box hk9 x5 (by decide) hBn
            replace r17 := r17.keep hk9 hm9
            replace n25 := n25.box hk9 x5 (by decide) hBn
            replace x9 := x9.keep hk9 (fun h => by omega)
            replace x10 := x10.keep hk9 (fun h => by omega)
            replace x5 : Blk W17 B 25 #[.slice S17 ns s17, .slice none 0 0, .int .i64 (-1), .bool false] := by rw [hW17]; exact ((((x5.set 0 (.slice S17 ns s17)).set 1 (.slice none 0 0)).set 2 (.int .i64 (-1))).set 3 (.bool false))
            replace hwi := hwi.trans (hk9.below hwi.size (fun r hr h => by have := HBE.out; omega))
            replace hbi := hbi.trans (hk9.below hbi.size (fun r hr h => by have := HBE.out; omega))
            clear x5f0 x5f1 x5f2 x5f3 x5c0 x5c1 x5c2 x5c3 x5l
            clear hW17 hk9 hm9
            go_wp2_with (fail)
            go_roundw
            case rel => exact ⟨i + 1, by omega, by go_num, gRestart y, rs.take n, _, V25, v25, S17, s17, none, 0, by rw [HNZ.out], HAP.out, HZS.out, n25, by have h := HGY.out; rw [show 1 + i + 1 = 1 + (i + 1) by omega] at h; exact h, x5, hs17, r17, hbi⟩
            case measure => simp [intOf]; omega
end Go.Proofs.Ytckeopidedoohaa
