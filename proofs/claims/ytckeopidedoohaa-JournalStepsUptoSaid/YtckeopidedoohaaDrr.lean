/-
  The reference's Read of a disk. Conditions: the disk lies as plain data.
-/
import Derived.Test.YtckeopidedoohaaDrd
namespace Go.Proofs.Ytckeopidedoohaa
open Go.RowKit
variable {n₀ : Nat}
attribute [local go_sem] Oper.semAt_some

theorem results_tmp2 {fn : Func} {t u : Tmp} (h : fn.results = #[.tmp t, .tmp u]) (tmps : Array Value) (P : Program) (w : World) :
    (results fn tmps).run P w = .ok (.tuple #[tmps.getD t undef, tmps.getD u undef]) w := by simp [results, h]
theorem take_snocW (l : List Wr) (k : Nat) (h : k < l.length) : l.take (k + 1) = l.take k ++ [l.getD k wr0] := by
  rw [List.take_succ_eq_append_getElem h]
  simp [List.getD, h]
def RrI (n₀ : Nat) (w0 : World) (l : List Wr) (at_ : Int) (b : Bs) (v i : Value) : Prop := ∃ (k : Nat) (A : Option Addr) (n c : Nat), k ≤ l.length ∧ i = .int .i64 k ∧ v = .slice A n c ∧ Hid (n = (rdW (l.take k) at_ b).length ∧ n ≤ c ∧ BsAt n₀ w0 A (rdW (l.take k) at_ b))

set_option maxHeartbeats 4000000 in
theorem rread_t (SA PA : Option Addr) (sc pc : Nat) (d : Dk) (at_ : Int) (w : World) (hl1 : d.secs.length ≤ 140737488355328) (hl2 : d.pend.length ≤ 140737488355328) (h1 : RowsAt n₀ w SA d.secs) (h2 : WrsAt n₀ w PA d.pend) :
    Calls Try.prog 35 #[.agg #[.slice SA d.secs.length sc, .slice PA d.pend.length pc, .int .i64 d.left, .bool d.stop], .int .i64 at_] w (RdIs n₀ w (gRead d at_)) := by
  obtain ⟨secs, pend, lf, st⟩ := d
  dsimp only at hl1 hl2 h1 h2 ⊢
  cases st
  case true =>
    have HB : Below w.heap.size w (w.alloc (.cells #[.slice SA secs.length sc, .slice PA pend.length pc, .int .i64 lf, .bool true] 25)) := (Below.refl _ w).alloc (Nat.le_refl _) _
    have b0 : Blk (w.alloc (.cells #[.slice SA secs.length sc, .slice PA pend.length pc, .int .i64 lf, .bool true] 25)) w.heap.size 25 #[.slice SA secs.length sc, .slice PA pend.length pc, .int .i64 lf, .bool true] := Blk.new w 25 _
    have K := rcheck_t SA PA sc pc (⟨secs, pend, lf, true⟩ : Dk) _ hl1 hl2 (h1.below HB) (h2.below HB)
    have E := Lib.hid (gRead_no (d := (⟨secs, pend, lf, true⟩ : Dk)) (at_ := at_) (fun h => runs_no2 rfl h.1))
    obtain ⟨g, hg⟩ : ∃ g, g = gChk (⟨secs, pend, lf, true⟩ : Dk) := ⟨_, rfl⟩
    rw [← hg] at K
    clear hg
    by_cases c1 : g = 0
    · subst c1
      go_enter Try.func35, Try.ntmps35
      go_wp2_with (fail)
      go_at_call 29
      refine K.mono ?_
      rintro e w2 ⟨rfl, hw2⟩
      have hb2 := HB.trans (hw2.mono (by simp <;> omega))
      have x0 := b0.below hw2 b0.lt
      have y0 := x0.cell 0
      have y1 := x0.cell 1
      have y3 := x0.cell 3
      simp only [List.getElem?_toArray, List.getElem?_cons_zero, List.getElem?_cons_succ] at y0 y1 y3
      clear b0 HB hw2 K
      go_wp2
      refine bodyPost_ret (results_tmp2 rfl _ _ _) rfl ?_
      rw [E.out]
      exact rd_no hb2
    · have dg : (g != 0) = true := bne_iff_ne.2 c1
      clear c1
      go_enter Try.func35, Try.ntmps35
      go_wp2_with (fail)
      go_at_call 29
      refine K.mono ?_
      rintro e w2 ⟨rfl, hw2⟩
      have hb2 := HB.trans (hw2.mono (by simp <;> omega))
      have x0 := b0.below hw2 b0.lt
      have y0 := x0.cell 0
      have y1 := x0.cell 1
      have y3 := x0.cell 3
      simp only [List.getElem?_toArray, List.getElem?_cons_zero, List.getElem?_cons_succ] at y0 y1 y3
      clear b0 HB hw2 K
      go_wp2
      refine bodyPost_ret (results_tmp2 rfl _ _ _) rfl ?_
      rw [E.out]
      exact rd_no hb2
  case false =>
    have HB : Below w.heap.size w (w.alloc (.cells #[.slice SA secs.length sc, .slice PA pend.length pc, .int .i64 lf, .bool false] 25)) := (Below.refl _ w).alloc (Nat.le_refl _) _
    have b0 : Blk (w.alloc (.cells #[.slice SA secs.length sc, .slice PA pend.length pc, .int .i64 lf, .bool false] 25)) w.heap.size 25 #[.slice SA secs.length sc, .slice PA pend.length pc, .int .i64 lf, .bool false] := Blk.new w 25 _
    have K := rcheck_t SA PA sc pc (⟨secs, pend, lf, false⟩ : Dk) _ hl1 hl2 (h1.below HB) (h2.below HB)
    by_cases c1 : gChk (⟨secs, pend, lf, false⟩ : Dk) = 0
    case neg =>
      have E := Lib.hid (gRead_no (d := (⟨secs, pend, lf, false⟩ : Dk)) (at_ := at_) (fun h => runs_no1 c1 h.1))
      have dg : (gChk (⟨secs, pend, lf, false⟩ : Dk) != 0) = true := bne_iff_ne.2 c1
      obtain ⟨g, hg⟩ : ∃ g, g = gChk (⟨secs, pend, lf, false⟩ : Dk) := ⟨_, rfl⟩
      rw [← hg] at K dg
      clear hg c1
      go_enter Try.func35, Try.ntmps35
      go_wp2_with (fail)
      go_at_call 29
      refine K.mono ?_
      rintro e w2 ⟨rfl, hw2⟩
      have hb2 := HB.trans (hw2.mono (by simp <;> omega))
      have x0 := b0.below hw2 b0.lt
      have y0 := x0.cell 0
      have y1 := x0.cell 1
      have y3 := x0.cell 3
      simp only [List.getElem?_toArray, List.getElem?_cons_zero, List.getElem?_cons_succ] at y0 y1 y3
      clear b0 HB hw2 K
      go_wp2
      refine bodyPost_ret (results_tmp2 rfl _ _ _) rfl ?_
      rw [E.out]
      exact rd_no hb2
    have hr := runs_yes c1 rfl
    rw [c1] at K
    clear c1
    by_cases q1 : at_ < 0
    · have E := Lib.hid (gRead_no (d := (⟨secs, pend, lf, false⟩ : Dk)) (at_ := at_) (fun h => by have := h.2.1; omega))
      have d1 : decide (at_ < 0) = true := decide_eq_true q1
      clear q1 hr
      go_enter Try.func35, Try.ntmps35
      go_wp2_with (fail)
      go_at_call 29
      refine K.mono ?_
      rintro e w2 ⟨rfl, hw2⟩
      have hb2 := HB.trans (hw2.mono (by simp <;> omega))
      have x0 := b0.below hw2 b0.lt
      have y0 := x0.cell 0
      have y1 := x0.cell 1
      have y3 := x0.cell 3
      simp only [List.getElem?_toArray, List.getElem?_cons_zero, List.getElem?_cons_succ] at y0 y1 y3
      clear b0 HB hw2 K
      go_wp2
      refine bodyPost_ret (results_tmp2 rfl _ _ _) rfl ?_
      rw [E.out]
      exact rd_no hb2
    have d1 : decide (at_ < 0) = false := decide_eq_false q1
    by_cases q2 : (secs.length : Int) ≤ at_
    · have E := Lib.hid (gRead_no (d := (⟨secs, pend, lf, false⟩ : Dk)) (at_ := at_) (fun h => by have := h.2.2; dsimp only at this; omega))
      have d2 : decide ((secs.length : Int) ≤ at_) = true := decide_eq_true q2
      clear q1 q2 hr
      go_enter Try.func35, Try.ntmps35
      go_wp2_with (fail)
      go_at_call 29
      refine K.mono ?_
      rintro e w2 ⟨rfl, hw2⟩
      have hb2 := HB.trans (hw2.mono (by simp <;> omega))
      have x0 := b0.below hw2 b0.lt
      have y0 := x0.cell 0
      have y1 := x0.cell 1
      have y3 := x0.cell 3
      simp only [List.getElem?_toArray, List.getElem?_cons_zero, List.getElem?_cons_succ] at y0 y1 y3
      clear b0 HB hw2 K
      go_wp2
      refine bodyPost_ret (results_tmp2 rfl _ _ _) rfl ?_
      rw [E.out]
      exact rd_no hb2
    have E := Lib.hid (gRead_ok (d := (⟨secs, pend, lf, false⟩ : Dk)) (at_ := at_) ⟨hr, by omega, show at_ < (secs.length : Int) by omega⟩)
    obtain ⟨k, rfl⟩ : ∃ k : Nat, at_ = k := ⟨at_.toNat, by omega⟩
    have hks : k < secs.length := by omega
    have hpl : pend.length ≤ 4096 := hr.1.2.2.1
    have d2 : decide ((secs.length : Int) ≤ (k : Int)) = false := decide_eq_false q2
    clear q1 q2 hr
    go_enter Try.func35, Try.ntmps35
    go_wp2_with (fail)
    go_at_call 29
    refine K.mono ?_
    rintro e w2 ⟨rfl, hw2⟩
    have hb2 := HB.trans (hw2.mono (by simp <;> omega))
    have x0 := b0.below hw2 b0.lt
    have y0 := x0.cell 0
    have y1 := x0.cell 1
    have y3 := x0.cell 3
    simp only [List.getElem?_toArray, List.getElem?_cons_zero, List.getElem?_cons_succ] at y0 y1 y3
    clear b0 HB hw2 K
    obtain ⟨b, o, rfl, hb, hc⟩ := (h1.below hb2).get (by omega)
    obtain ⟨A', c', g, hcl, hbs⟩ := hc k hks
    have HST := Lib.hid (show (secs.getD k []).length = (rdW (pend.take 0) k (secs.getD k [])).length ∧ (secs.getD k []).length ≤ c' ∧ BsAt n₀ w2 A' (rdW (pend.take 0) k (secs.getD k [])) from ⟨rfl, hcl, hbs⟩)
    obtain ⟨sn, hsn⟩ : ∃ n, n = (secs.getD k []).length := ⟨_, rfl⟩
    rw [← hsn] at g HST
    have h2b := h2.below hb2
    clear hc hsn hcl hbs h1 h2
    go_wp2_with (fail)
    go_loop [6, 7] (fun v i => RrI n₀ w2 pend k (secs.getD k []) v i) (fun _ i => pend.length - (intOf i).toNat)
    case atStart => exact ⟨0, A', sn, c', by omega, rfl, rfl, HST⟩
    case round =>
      obtain ⟨j, VA, vn, vc, hj, rfl, rfl, hV⟩ := hrel
      by_cases hlt : j < pend.length
      · obtain ⟨b, o, rfl, hb, hc⟩ := h2b.get (by omega)
        obtain ⟨g0, UA, uc, g1, hcu, hbu⟩ := hc j hlt
        obtain ⟨⟨xa, xd⟩, hx⟩ : ∃ x, x = pend.getD j wr0 := ⟨_, rfl⟩
        rw [← hx] at g0 g1 hcu hbu
        dsimp only at g0 g1 hcu hbu
        have hst := rdW_snoc (pend.take j) ⟨xa, xd⟩ k (secs.getD k [])
        rw [hx, ← take_snocW pend j hlt, ← hx] at hst
        dsimp only at hst
        by_cases hq : xa = k
        · have HV2 := Lib.hid (show xd.length = (rdW (pend.take (j + 1)) k (secs.getD k [])).length ∧ xd.length ≤ uc ∧ BsAt n₀ w2 UA (rdW (pend.take (j + 1)) k (secs.getD k [])) by rw [hst, if_pos hq]; exact ⟨rfl, hcu, hbu⟩)
          subst hq
          obtain ⟨xn, hxn⟩ : ∃ n, n = xd.length := ⟨_, rfl⟩
          rw [← hxn] at g1 HV2
          clear hc hx hst hcu hbu hxn
          go_wp2
          go_round
          case rel => exact ⟨j + 1, UA, xn, uc, by omega, by go_num, rfl, HV2⟩
          case measure => simp [intOf]; omega
        · have HV2 := Lib.hid (show vn = (rdW (pend.take (j + 1)) k (secs.getD k [])).length ∧ vn ≤ vc ∧ BsAt n₀ w2 VA (rdW (pend.take (j + 1)) k (secs.getD k [])) by rw [hst, if_neg hq]; exact hV.out)
          have dq : (xa == (k : Int)) = false := beq_eq_false_iff_ne.2 hq
          clear hc hx hst hcu hbu hq
          go_wp2
          go_round
          case rel => exact ⟨j + 1, VA, vn, vc, by omega, by go_num, rfl, HV2⟩
          case measure => simp [intOf]; omega
      · obtain rfl : j = pend.length := by omega
        obtain ⟨v1, v2, v3⟩ := hV.out
        rw [List.take_length] at v1 v3
        have H1 := Lib.hid v1
        have H3 := Lib.hid v3
        clear hlt hV v1 v3
        go_wp2
        refine bodyPost_ret (results_tmp2 rfl _ _ _) rfl ?_
        rw [E.out]
        dsimp only
        rw [Int.toNat_natCast]
        have hv1 := H1.out
        subst hv1
        exact rd_end v2 H3.out hb2
end Go.Proofs.Ytckeopidedoohaa
