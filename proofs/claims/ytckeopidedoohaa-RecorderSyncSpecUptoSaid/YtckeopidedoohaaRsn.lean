/-
  The recorder's bound on a disk and records (few). Conditions: lengths of at most 1048576. | The recorder's law's own trial (sane). Conditions: none.
-/
import Derived.Test.YtckeopidedoohaaJfw
import Derived.Test.YtckeopidedoohaaRsy
import Derived.Test.YtckeopidedoohaaJsr
import Derived.Test.YtckeopidedoohaaJsn
import Derived.Deep.DeepCutAuto
import Derived.Deep.RegionWith
namespace Go.Proofs.Ytckeopidedoohaa
open Go.RowKit
variable {n₀ : Nat}
attribute [local go_sem] Oper.semAt_some

set_option maxRecDepth 20000 in
set_option maxHeartbeats 4000000 in
theorem few63_t (SA PA RA : Option Addr) (sc pc rc ns np : Nat) (lf : Int) (st : Bool) (rs : List Bs) (w : World) (h1 : ns ≤ 1048576) (h2 : np ≤ 1048576) (h3 : rs.length ≤ 1048576) (h4 : ∀ b ∈ rs, b.length ≤ 1048576) (h : RowsAt n₀ w RA rs) :
    Calls Try.prog 63 #[.agg #[.slice SA ns sc, .slice PA np pc, .int .i64 lf, .bool st], .slice RA rs.length rc] w fun e w' => e = .returned (.bool (fewB ns np rs)) ∧ Below w.heap.size w w' := by
  have HL := Lib.hid h4
  have H0 := Lib.hid h
  have hsb : sumB rs ≤ 1048576 * 1048577 := Nat.le_trans (sumB_le h4) (Nat.mul_le_mul_right _ h3)
  clear h4 h
  go_enter Try.func63, Try.ntmps63
  go_wp2_with (fail)
  obtain ⟨W1, hW1⟩ : ∃ W, W = w.alloc (.cells #[.slice SA ns sc, .slice PA np pc, .int .i64 lf, .bool st] 25) := ⟨_, rfl⟩
  rw [← hW1]
  have hw : Below w.heap.size w W1 := by rw [hW1]; exact (Below.refl _ _).alloc (Nat.le_refl _) _
  have x2 : Blk W1 w.heap.size 25 #[.slice SA ns sc, .slice PA np pc, .int .i64 lf, .bool st] := by rw [hW1]; exact Blk.new w 25 _
  have HX2 := Lib.hid x2
  clear hW1 x2
  go_loopw [5, 10] (fun v5 v10 wr => ∃ i : Nat, i ≤ rs.length ∧ v10 = .int .i64 i ∧ v5 = .int .i64 (sumB (rs.take i) : Nat) ∧ wr = W1) (fun _ v10 _ => rs.length - (intOf v10).toNat)
  case atStart => exact ⟨0, by omega, rfl, rfl, rfl⟩
  case round =>
    obtain ⟨i, hi, rfl, rfl, hwr⟩ := hrel
    have hwr := hwr.symm
    subst hwr
    by_cases hlt : i < rs.length
    case pos =>
      obtain ⟨b, o, rfl, hb, hc⟩ := (H0.out.below hw).get (by omega)
      obtain ⟨A', c', z0, -, -⟩ := hc i hlt
      have hst := take_snocR rs i hlt
      have hbl := HL.out _ (mem_getD hlt)
      have hu : sumB (rs.take i) ≤ 1048576 * 1048577 := by
        refine Nat.le_trans (sumB_le (fun b hb => HL.out b (List.mem_of_mem_take hb))) ?_
        rw [List.length_take]
        exact Nat.mul_le_mul_right _ (by omega)
      obtain ⟨x, hx⟩ : ∃ x, x = rs.getD i [] := ⟨_, rfl⟩
      rw [← hx] at z0 hst hbl
      have hst2 : sumB (rs.take (i + 1)) = sumB (rs.take i) + (1 + x.length) := by rw [hst, sumB_snoc]
      obtain ⟨u, hu2⟩ : ∃ u, u = sumB (rs.take i) := ⟨_, rfl⟩
      rw [← hu2] at hst2 hu
      rw [← hu2]
      obtain ⟨xn, hxn⟩ : ∃ n, n = x.length := ⟨_, rfl⟩
      rw [← hxn] at z0 hbl hst2
      have HST := Lib.hid hst2
      clear hc hst hx hu2 hxn hst2
      go_wp2_with (fail)
      go_roundw
      case rel => exact ⟨i + 1, by omega, by go_num, by rw [HST.out]; go_num, by trivial⟩
      case measure => simp [intOf]; omega
    case neg =>
      obtain rfl : i = rs.length := by omega
      rw [List.take_length]
      obtain ⟨u, hu⟩ : ∃ u, u = sumB rs := ⟨_, rfl⟩
      rw [← hu] at hsb ⊢
      have c0 := HX2.out.cell 0
      have c1 := HX2.out.cell 1
      simp only [List.getElem?_toArray, List.getElem?_cons_zero, List.getElem?_cons_succ] at c0 c1
      by_cases k1 : ns ≤ 40
      case neg =>
        have E := Lib.hid (show fewB ns np rs = false by unfold fewB; rw [decide_eq_false k1]; rfl)
        have d1 : decide ((ns : Int) ≤ 40) = false := decide_eq_false (by omega)
        clear k1
        go_wp2
        go_ret
        exact ⟨by rw [E.out]; rfl, hw⟩
      have d1 : decide ((ns : Int) ≤ 40) = true := decide_eq_true (by omega)
      by_cases k2 : np ≤ 40
      case neg =>
        have E := Lib.hid (show fewB ns np rs = false by unfold fewB; rw [decide_eq_true k1, decide_eq_false k2]; rfl)
        have d2 : decide ((np : Int) ≤ 40) = false := decide_eq_false (by omega)
        clear k1 k2
        go_wp2
        go_ret
        exact ⟨by rw [E.out]; rfl, hw⟩
      have d2 : decide ((np : Int) ≤ 40) = true := decide_eq_true (by omega)
      by_cases k3 : u ≤ 4000
      case neg =>
        have E := Lib.hid (show fewB ns np rs = false by unfold fewB; rw [decide_eq_true k1, decide_eq_true k2, ← hu, decide_eq_false k3]; rfl)
        have d3 : decide ((u : Int) ≤ 4000) = false := decide_eq_false (by omega)
        clear k1 k2 k3 hu
        go_wp2
        go_ret
        exact ⟨by rw [E.out]; rfl, hw⟩
      have E := Lib.hid (show fewB ns np rs = true by unfold fewB; rw [decide_eq_true k1, decide_eq_true k2, ← hu, decide_eq_true k3]; rfl)
      have d3 : decide ((u : Int) ≤ 4000) = true := decide_eq_true (by omega)
      clear k1 k2 k3 hu
      go_wp2
      go_ret
      exact ⟨by rw [E.out]; rfl, hw⟩
end Go.Proofs.Ytckeopidedoohaa

namespace Go.Proofs.Ytckeopidedoohaa
open Go.RowKit
variable {n₀ : Nat}
attribute [local go_sem] Oper.semAt_some

theorem ro_out {w w' : World} {x : Ending} {rs : List Bs} {xs : List Int} {m s e : Int} (h : RoIs n₀ w ((⟨rs, m, s⟩, xs), e) x w') : ∃ A c V cv, x = .returned (.tuple #[.agg #[.slice A rs.length c, .int .i64 m, .int .i64 s], .slice V xs.length cv, .int .i64 e]) ∧ rs.length ≤ c ∧ RowsAt n₀ w' A rs ∧ xs.length ≤ cv ∧ NumsAt n₀ w' V xs ∧ Below w.heap.size w w' := by
  obtain ⟨v, V, cv, h1, ⟨A, c, h2, h3, h4⟩, h5, h6, h7⟩ := h
  exact ⟨A, c, V, cv, by rw [h1, h2], h3, h4, h5, h6, h7⟩
theorem blk_nums {W : World} {B : Nat} {xs : List Int} (h : Blk W B 3 (icells xs).toArray) : NumsAt n₀ W (some ⟨B, 0, none⟩) xs := fun _ => by
  refine ⟨B, 0, rfl, ⟨h.lt, .inr ⟨_, _, h⟩⟩, fun i hi => ?_⟩
  rw [Nat.zero_add, h.cell, List.getElem?_toArray, icells_get xs i hi]
def zi17 : List Int := List.replicate 17 0
theorem make17 (w : World) : (Instr.makeSlice 67 (.int .i64 17) (.int .i64 17)).run Try.prog w = .ok (.slice (some ⟨w.heap.size, 0, none⟩) 17 17) (w.alloc (.cells (icells zi17).toArray 3)) := by
  obtain ⟨i0, hi0, hz0, hz1, hz2⟩ := info_parts info3r
  have hr := run_make (P := Try.prog) w 67 3 i0 (.int .i64 0) Try.underlying67 hi0 hz0 .i64 .i64 17 17 (by omega) (Int.le_refl _) (by rw [hz2]; omega) (by omega)
  have e : madeCells (Value.int .i64 0).cells (17 * i0.size) = (icells zi17).toArray := by
    rw [hz1]
    apply Array.ext'
    show (madeCells #[.int .i64 0] (17 * 1)).toList = _
    rw [toList_madeCells_one]
    rfl
  simpa [e] using hr
def r8 : Bs := [0, 0, 0, 1, 255, 255, 255, 255]
def dM : Dk := ⟨List.replicate 2 zs, [], -1, false⟩
def kA : Jn := ⟨[], 2, 0⟩
def kB : Jn := ⟨[r8], 2, 0⟩
def kC : Jn := ⟨[r8], 2, 1⟩
def kT : Jn := ⟨[[1, 2, 3]], 1, 0⟩
theorem sr_good : GoodD dM 2 [] 1 := good_new (by decide) (by decide)
theorem sr_new : gNew 2 = (dM, 0) := by unfold gNew; rw [if_neg (by decide)]; rfl
theorem rOpn_good {d : Dk} {ns g : Nat} {K : List Bs} {xs : List Int} (h : GoodD d ns K g) (hr : rdR K = (xs, 0)) : rOpn d = ((⟨K, ns, K.length⟩, xs), 0) := by
  have h1 := good_open h
  rw [rOpn_ok (by rw [h1]) (by rw [h1, hr]), h1, hr]
theorem sr_open : rOpn dM = ((kA, []), 0) := rOpn_good sr_good rfl
theorem kA_val : JVal kA := by simp [JVal, kA, usedN_nil]
theorem kB_val : JVal kB := by simp only [JVal, kB]; decide
theorem kT_val : JVal kT := by simp only [JVal, kT]; decide
theorem sr_data : (rData kA).2 = 0 := by rw [rData_ok kA_val]; rfl
theorem sr_w0 : rWrite kA [] = (jn0, 1) := rWrite_bad sr_data (fun h => absurd h.1 (by decide))
theorem sr_w17 : rWrite kA zi17 = (jn0, 1) := rWrite_bad sr_data (fun h => absurd h.2.1 (by simp [zi17]))
theorem sr_enc : encB [1, -1] = r8 := by rfl
theorem sr_w : rWrite kA [1, -1] = (kB, 0) := by
  rw [rWrite_ok sr_data ⟨by decide, by decide, fun v hv => by
    rcases List.mem_cons.1 hv with rfl | hv
    · exact ⟨by decide, by decide⟩
    · rw [List.mem_singleton.1 hv]; exact ⟨by decide, by decide⟩⟩, sr_enc, gApp_ok kA_val (by simp only [kA, usedN_nil, secN]; decide)]
  rfl
theorem sr_take : rData kT = ([], 430) := by
  rw [rData_ok kT_val]
  rfl
theorem sr_rd : rdR [r8] = ([1, -1], 0) := by
  rw [rdR_ok (by decide)]
  simp [r8, smpL, smp]
theorem sr_sync : ∃ c, rSyn kB dM = ((kC, c), 0) ∧ GoodD c 2 [r8] 2 := by
  obtain ⟨y, h1, h2⟩ := sv_run (rs := [r8]) sr_good (by decide) rfl (Nat.zero_le _) kB_val
  exact ⟨y, by rw [rSyn_ok (by rw [rData_ok kB_val]; rfl)]; exact h1, h2⟩
theorem sr_stop : rOpn ⟨List.replicate 2 zs, [], -1, true⟩ = ((jn0, []), 40) := by
  have h : gOpen ⟨List.replicate 2 zs, [], -1, true⟩ = (jn0, 40) := gOpen_stop sr_good.runs.1 rfl
  rw [rOpn_no (by rw [h]; simp), h]
theorem len2 : (List.replicate 2 zs).length = 2 := rfl

set_option maxRecDepth 20000 in
set_option maxHeartbeats 4000000 in
theorem rsane_t (w : World) : Calls Try.prog 57 #[] w fun e w' => e = .returned (.bool true) ∧ Below w.heap.size w w' := by
  obtain ⟨c, hsy, hcg⟩ := sr_sync
  have HSY := Lib.hid hsy
  have HCG := Lib.hid hcg
  have HCO := Lib.hid (rOpn_good hcg sr_rd)
  obtain ⟨n₀, hn0⟩ : ∃ n, n = w.heap.size := ⟨_, rfl⟩
  have hn : n₀ ≤ w.heap.size := by omega
  clear hsy hcg hn0
  go_enter Try.func57, Try.ntmps57
  go_wp2_with (fail)
  have K : Calls Try.prog 25 #[.int .i64 2] w (fun e w' => ∃ S s P p, e = .returned (.tuple #[.agg #[.slice S 2 s, .slice P 0 p, .int .i64 (-1), .bool false], .int .i64 0]) ∧ 2 ≤ s ∧ RowsAt n₀ w' S dM.secs ∧ Below w.heap.size w w') := (by have h := new_t (n₀ := n₀) 2 w; rw [sr_new] at h; exact h.mono fun e w9 hx => by obtain ⟨v, rfl, ⟨S, s, P, p, rfl, h1, h2, h3, h4⟩, h5⟩ := hx; exact ⟨S, s, P, p, rfl, h1, h3, h5⟩)
  go_at_call 25
  refine K.mono ?_
  rintro e w1 ⟨S1, s1, P1, p1, rfl, hs1, rd1, hb⟩
  clear K
  have hw := hb
  clear hb
  go_upto_region 2 with (fail)
  obtain ⟨W2, hW2⟩ : ∃ W, W = w1.alloc (.cells #[.slice S1 2 s1, .slice P1 0 p1, .int .i64 (-1), .bool false] 25) := ⟨_, rfl⟩
  rw [← hW2]
  have hb : Below w1.heap.size w1 W2 := by rw [hW2]; exact (Below.refl _ _).alloc (Nat.le_refl _) _
  have x1 : Blk W2 w1.heap.size 25 #[.slice S1 2 s1, .slice P1 0 p1, .int .i64 (-1), .bool false] := by rw [hW2]; exact Blk.new w1 25 _
  clear hW2
  replace rd1 := rd1.below hb
  replace hw := hw.trans (hb.mono hw.size)
  clear hb
  have x1c0 := x1.cell 0
  have x1c1 := x1.cell 1
  have x1c2 := x1.cell 2
  have x1c3 := x1.cell 3
  simp only [List.getElem?_toArray, List.getElem?_cons_zero, List.getElem?_cons_succ] at x1c0 x1c1 x1c2 x1c3
  have x1l := x1.lt
  go_wp2_with (fail)
  have K : Calls Try.prog 58 #[.agg #[.slice S1 2 s1, .slice P1 0 p1, .int .i64 (-1), .bool false]] W2 (fun e w' => ∃ A c V cv, e = .returned (.tuple #[.agg #[.slice A 0 c, .int .i64 2, .int .i64 0], .slice V 0 cv, .int .i64 0]) ∧ 0 ≤ c ∧ RowsAt n₀ w' A [] ∧ 0 ≤ cv ∧ NumsAt n₀ w' V [] ∧ Below W2.heap.size W2 w') := (by have h := ropen_t (n₀ := n₀) S1 P1 s1 p1 dM W2 (Nat.le_trans hn hw.size) (by decide) (by decide) rd1 (WrsAt.nil _ _); rw [sr_open] at h; exact (show Calls Try.prog 58 #[.agg #[.slice S1 2 s1, .slice P1 0 p1, .int .i64 (-1), .bool false]] W2 (RoIs n₀ W2 ((kA, []), 0)) from h).mono fun e w9 hx => ro_out hx)
  go_at_call 58
  refine K.mono ?_
  rintro e w3 ⟨A3, c3, V3, v3, rfl, hc3, r3, hv3, n3, hb⟩
  clear K
  replace rd1 := rd1.below hb
  replace x1 := x1.below hb x1.lt
  replace hw := hw.trans (hb.mono hw.size)
  clear x1c0 x1c1 x1c2 x1c3 x1l
  clear hb
  go_upto_region 3 with (fail)
  obtain ⟨W4, hW4⟩ : ∃ W, W = w3.alloc (.cells #[.slice A3 0 c3, .int .i64 2, .int .i64 0] 55) := ⟨_, rfl⟩
  rw [← hW4]
  have hb : Below w3.heap.size w3 W4 := by rw [hW4]; exact (Below.refl _ _).alloc (Nat.le_refl _) _
  have x3 : Blk W4 w3.heap.size 55 #[.slice A3 0 c3, .int .i64 2, .int .i64 0] := by rw [hW4]; exact Blk.new w3 55 _
  clear hW4
  replace rd1 := rd1.below hb
  replace r3 := r3.below hb
  replace n3 := n3.below hb
  replace x1 := x1.below hb x1.lt
  replace hw := hw.trans (hb.mono hw.size)
  clear hb
  have x3c0 := x3.cell 0
  have x3c1 := x3.cell 1
  have x3c2 := x3.cell 2
  simp only [List.getElem?_toArray, List.getElem?_cons_zero, List.getElem?_cons_succ] at x3c0 x3c1 x3c2
  have x3l := x3.lt
  go_wp2_with (fail)
  have K : Calls Try.prog 59 #[.agg #[.slice A3 0 c3, .int .i64 2, .int .i64 0], .slice none 0 0] W4 (fun e w' => ∃ A c, e = .returned (.tuple #[.agg #[.slice A 0 c, .int .i64 0, .int .i64 0], .int .i64 1]) ∧ 0 ≤ c ∧ RowsAt n₀ w' A [] ∧ Below W4.heap.size W4 w') := by have h := (by have h1 := rwriteR_t (n₀ := n₀) A3 none c3 0 kA [] W4 (Nat.le_trans hn hw.size) ⟨by decide, fun b hb => by cases hb⟩ hc3 (by decide) r3 (NumsAt.nil _ _); rw [sr_w0] at h1; exact h1 : Calls Try.prog 59 #[.agg #[.slice A3 0 c3, .int .i64 2, .int .i64 0], .slice none 0 0] W4 (JnIs n₀ W4 (jn0, 1))); exact h.mono fun e w9 hx => jn_out (rs := []) (m := 0) (s := 0) (e := 1) hx
  go_at_call 59
  refine K.mono ?_
  rintro e w5 ⟨A6, c6, rfl, hc6, r6, hb⟩
  clear K
  replace rd1 := rd1.below hb
  replace r3 := r3.below hb
  replace n3 := n3.below hb
  replace x1 := x1.below hb x1.lt
  replace x3 := x3.below hb x3.lt
  replace hw := hw.trans (hb.mono hw.size)
  clear x3c0 x3c1 x3c2 x3l
  clear hb
  go_upto_region 4 with (fail)
  obtain ⟨W6, hW6⟩ : ∃ W, W = w5.alloc (.cells #[.slice A6 0 c6, .int .i64 0, .int .i64 0] 55) := ⟨_, rfl⟩
  rw [← hW6]
  have hb : Below w5.heap.size w5 W6 := by rw [hW6]; exact (Below.refl _ _).alloc (Nat.le_refl _) _
  have x6 : Blk W6 w5.heap.size 55 #[.slice A6 0 c6, .int .i64 0, .int .i64 0] := by rw [hW6]; exact Blk.new w5 55 _
  clear hW6
  replace rd1 := rd1.below hb
  replace r3 := r3.below hb
  replace n3 := n3.below hb
  replace r6 := r6.below hb
  replace x1 := x1.below hb x1.lt
  replace x3 := x3.below hb x3.lt
  replace hw := hw.trans (hb.mono hw.size)
  clear hb
  clear x6
  have hka : ∀ B W, Below W6.heap.size W6 W → Blk W B 3 (icells zi17).toArray → Calls Try.prog 59 #[.agg #[.slice A3 0 c3, .int .i64 2, .int .i64 0], .slice (some ⟨B, 0, none⟩) 17 17] W (fun e w' => ∃ A c, e = .returned (.tuple #[.agg #[.slice A 0 c, .int .i64 0, .int .i64 0], .int .i64 1]) ∧ Below W.heap.size W w') := fun B W hW hB => by
    have h := rwriteR_t (n₀ := n₀) A3 (some ⟨B, 0, none⟩) c3 17 kA zi17 W (Nat.le_trans hn (Nat.le_trans hw.size hW.size)) ⟨by decide, fun b hb => by cases hb⟩ hc3 (by decide) (r3.below hW) (blk_nums hB)
    rw [sr_w17, show zi17.length = 17 by simp [zi17]] at h
    exact h.mono fun e w9 hx => by obtain ⟨A, c, h1, -, -, h4⟩ := jn_out (rs := []) (m := 0) (s := 0) (e := 1) hx; exact ⟨A, c, h1, h4⟩
  have HKA := Lib.hid hka
  clear hka
  have hmk := make17
  have x3c0 := x3.cell 0
  have x3c1 := x3.cell 1
  have x3c2 := x3.cell 2
  simp only [List.getElem?_toArray, List.getElem?_cons_zero, List.getElem?_cons_succ] at x3c0 x3c1 x3c2
  have x3l := x3.lt
  go_cut [9] (fun s9 wx => s9 = .int .i64 1 ∧ Below W6.heap.size W6 wx)
  case first =>
    go_region_with (go_at_call 59; refine (HKA.out _ _ (by repeat (first | with_reducible exact Below.refl _ _ | refine Below.drew ?_ | refine Below.alloc ?_ (by first | omega | simp <;> omega) _)) (by first | (with_reducible refine blk_drew ?_; first | (with_reducible refine Blk.newAt ?_ _ _; first | rfl | (simp; done)) | (with_reducible refine Blk.alloc ?_ _; with_reducible refine Blk.newAt ?_ _ _; first | rfl | (simp; done))) | (with_reducible refine Blk.newAt ?_ _ _; first | rfl | (simp; done)) | (with_reducible refine Blk.alloc ?_ _; with_reducible refine Blk.newAt ?_ _ _; first | rfl | (simp; done)))).mono ?_; rintro e w9 ⟨A9, c9, rfl, hb9⟩; have h9 : Below W6.heap.size W6 w9 := Below.trans (by repeat (first | with_reducible exact Below.refl _ _ | refine Below.drew ?_ | refine Below.alloc ?_ (by first | omega | simp <;> omega) _)) (Below.mono hb9 (by simp <;> omega)); first | (have t9 : Blk w9 (W6.heap.size + 1) 55 #[.slice none 0 0, .int .i64 0, .int .i64 0] := Blk.below (by (try with_reducible refine blk_drew ?_); with_reducible refine Blk.newAt ?_ _ _; simp) hb9 (by simp); have t0 := t9.cell 0; have f0 := t9.frozen 0; have t1 := t9.cell 1; have f1 := t9.frozen 1; have t2 := t9.cell 2; have f2 := t9.frozen 2; simp only [List.getElem?_toArray, List.getElem?_cons_zero, List.getElem?_cons_succ] at t0 t1 t2; have tl := t9.lt) | (have t9 : Blk w9 W6.heap.size 55 #[.slice none 0 0, .int .i64 0, .int .i64 0] := Blk.below (by (try with_reducible refine blk_drew ?_); with_reducible refine Blk.alloc ?_ _; with_reducible refine Blk.newAt ?_ _ _; rfl) hb9 (by simp <;> omega); have t0 := t9.cell 0; have f0 := t9.frozen 0; have t1 := t9.cell 1; have f1 := t9.frozen 1; have t2 := t9.cell 2; have f2 := t9.frozen 2; simp only [List.getElem?_toArray, List.getElem?_cons_zero, List.getElem?_cons_succ] at t0 t1 t2; have tl := t9.lt) | skip)
    all_goals
      (try go_wp2_with (fail))
      go_meet
      exact ⟨rfl, by repeat (first | with_reducible exact h9 | refine Below.setCell ?_ (by have := h9.size; simp <;> omega) _ | refine Below.alloc ?_ (by have := h9.size; omega) _ | refine Below.drew ?_)⟩
  case rest =>
    obtain ⟨rfl, hb⟩ := hcut
    clear HKA hmk
    replace rd1 := rd1.below hb
    replace r3 := r3.below hb
    replace n3 := n3.below hb
    replace r6 := r6.below hb
    replace x1 := x1.below hb x1.lt
    replace x3 := x3.below hb x3.lt
    replace hw := hw.trans (hb.mono hw.size)
    clear x3c0 x3c1 x3c2 x3l
    clear hb
    have x3c0 := x3.cell 0
    have x3c1 := x3.cell 1
    have x3c2 := x3.cell 2
    simp only [List.getElem?_toArray, List.getElem?_cons_zero, List.getElem?_cons_succ] at x3c0 x3c1 x3c2
    have x3l := x3.lt
    go_wp2_with (fail)
    obtain ⟨W7, hW7⟩ : ∃ W, W = wc.alloc (.cells #[.int .i64 1, .int .i64 (-1)] 3) := ⟨_, rfl⟩
    rw [← hW7]
    have hb : Below wc.heap.size wc W7 := by rw [hW7]; exact (Below.refl _ _).alloc (Nat.le_refl _) _
    have nz : NumsAt n₀ W7 (some ⟨wc.heap.size, 0, none⟩) [1, -1] := by rw [hW7]; exact blk_nums (Blk.new wc 3 _)
    clear hW7
    replace rd1 := rd1.below hb
    replace r3 := r3.below hb
    replace n3 := n3.below hb
    replace r6 := r6.below hb
    replace x1 := x1.below hb x1.lt
    replace x3 := x3.below hb x3.lt
    replace hw := hw.trans (hb.mono hw.size)
    clear x3c0 x3c1 x3c2 x3l
    clear hb
    have K : Calls Try.prog 59 #[.agg #[.slice A3 0 c3, .int .i64 2, .int .i64 0], .slice (some ⟨wc.heap.size, 0, none⟩) 2 2] W7 (fun e w' => ∃ A c, e = .returned (.tuple #[.agg #[.slice A 1 c, .int .i64 2, .int .i64 0], .int .i64 0]) ∧ 1 ≤ c ∧ RowsAt n₀ w' A [r8] ∧ Below W7.heap.size W7 w') := by have h := (by have h1 := rwriteR_t (n₀ := n₀) A3 (some ⟨wc.heap.size, 0, none⟩) c3 2 kA [1, -1] W7 (Nat.le_trans hn hw.size) ⟨by decide, fun b hb => by cases hb⟩ hc3 (by decide) r3 nz; rw [sr_w] at h1; exact h1 : Calls Try.prog 59 #[.agg #[.slice A3 0 c3, .int .i64 2, .int .i64 0], .slice (some ⟨wc.heap.size, 0, none⟩) 2 2] W7 (JnIs n₀ W7 (kB, 0))); exact h.mono fun e w9 hx => jn_out (rs := [r8]) (m := 2) (s := 0) (e := 0) hx
    go_at_call 59
    refine K.mono ?_
    rintro e w8 ⟨A10, c10, rfl, hc10, r10, hb⟩
    clear K
    replace rd1 := rd1.below hb
    replace r3 := r3.below hb
    replace n3 := n3.below hb
    replace r6 := r6.below hb
    replace nz := nz.below hb
    replace x1 := x1.below hb x1.lt
    replace x3 := x3.below hb x3.lt
    replace hw := hw.trans (hb.mono hw.size)
    clear hb
    clear nz
    clear x3
    clear r3 n3
    go_upto_region 6 with (fail)
    obtain ⟨W9, hW9⟩ : ∃ W, W = w8.alloc (.cells #[.slice A10 1 c10, .int .i64 2, .int .i64 0] 55) := ⟨_, rfl⟩
    rw [← hW9]
    have hb : Below w8.heap.size w8 W9 := by rw [hW9]; exact (Below.refl _ _).alloc (Nat.le_refl _) _
    have x10 : Blk W9 w8.heap.size 55 #[.slice A10 1 c10, .int .i64 2, .int .i64 0] := by rw [hW9]; exact Blk.new w8 55 _
    clear hW9
    replace rd1 := rd1.below hb
    replace r6 := r6.below hb
    replace r10 := r10.below hb
    replace x1 := x1.below hb x1.lt
    replace hw := hw.trans (hb.mono hw.size)
    clear hb
    go_wp2_with (fail)
    obtain ⟨W10, hW10⟩ : ∃ W, W = (W9.alloc (.cells #[.int .u8 1, .int .u8 2, .int .u8 3] 5)).alloc (.cells #[.slice (some ⟨W9.heap.size, 0, none⟩) 3 3] 35) := ⟨_, rfl⟩
    rw [← hW10]
    have hb : Below W9.heap.size W9 W10 := by rw [hW10]; exact ((Below.refl _ _).alloc (Nat.le_refl _) _).alloc (by simp) _
    have bz : Blk W10 W9.heap.size 5 (bcells [1, 2, 3]).toArray := by rw [hW10]; exact (Blk.new W9 5 _).alloc _
    have bz2 : Blk W10 (W9.heap.size + 1) 35 #[.slice (some ⟨W9.heap.size, 0, none⟩) 3 3] := by rw [hW10]; exact Blk.newAt (by simp) 35 _
    have rz : RowsAt n₀ W10 (some ⟨W9.heap.size + 1, 0, none⟩) [[1, 2, 3]] := ⟨[.slice (some ⟨W9.heap.size, 0, none⟩) 3 3], ⟨rfl, fun i hi => by
      obtain rfl : i = 0 := by have : i < 1 := hi; omega
      exact ⟨_, 3, rfl, Nat.le_refl _, blk_bs bz⟩⟩, fun _ => ⟨_, 0, rfl, .of_blk bz2 rfl, fun i hi => by
      obtain rfl : i = 0 := by have : i < 1 := hi; omega
      rw [bz2.cell]
      rfl⟩⟩
    clear hW10 bz bz2
    replace rd1 := rd1.below hb
    replace r6 := r6.below hb
    replace r10 := r10.below hb
    replace x1 := x1.below hb x1.lt
    replace x10 := x10.below hb x10.lt
    replace hw := hw.trans (hb.mono hw.size)
    clear hb
    have K : Calls Try.prog 62 #[.agg #[.slice (some ⟨W9.heap.size + 1, 0, none⟩) 1 1, .int .i64 1, .int .i64 0]] W10 (fun e w' => ∃ A c, e = .returned (.tuple #[.slice A 0 c, .int .i64 430]) ∧ Below W10.heap.size W10 w') := (by have h := data_t (n₀ := n₀) (some ⟨W9.heap.size + 1, 0, none⟩) 1 kT W10 (Nat.le_trans hn hw.size) ⟨by decide, fun b hb => by rw [List.mem_singleton.1 hb]; decide⟩ rz; rw [sr_take] at h; exact (show Calls Try.prog 62 #[.agg #[.slice (some ⟨W9.heap.size + 1, 0, none⟩) 1 1, .int .i64 1, .int .i64 0]] W10 (NsIs n₀ W10 ([], 430)) from h).mono fun e w9 hx => by obtain ⟨A, c, h1, -, -, h4⟩ := hx; exact ⟨A, c, h1, h4⟩)
    go_at_call 62
    refine K.mono ?_
    rintro e w11 ⟨A12, c12, rfl, hb⟩
    clear K
    replace rd1 := rd1.below hb
    replace r6 := r6.below hb
    replace r10 := r10.below hb
    replace rz := rz.below hb
    replace x1 := x1.below hb x1.lt
    replace x10 := x10.below hb x10.lt
    replace hw := hw.trans (hb.mono hw.size)
    clear hb
    clear rz
    have x10c0 := x10.cell 0
    have x10c1 := x10.cell 1
    have x10c2 := x10.cell 2
    simp only [List.getElem?_toArray, List.getElem?_cons_zero, List.getElem?_cons_succ] at x10c0 x10c1 x10c2
    have x10l := x10.lt
    have x1c0 := x1.cell 0
    have x1c1 := x1.cell 1
    have x1c2 := x1.cell 2
    have x1c3 := x1.cell 3
    simp only [List.getElem?_toArray, List.getElem?_cons_zero, List.getElem?_cons_succ] at x1c0 x1c1 x1c2 x1c3
    have x1l := x1.lt
    go_wp2_with (fail)
    have hcl : c.secs.length = 2 := HCG.out.len
    have HCL := Lib.hid hcl
    clear hcl
    have K : Calls Try.prog 60 #[.agg #[.slice A10 1 c10, .int .i64 2, .int .i64 0], .agg #[.slice S1 2 s1, .slice P1 0 p1, .int .i64 (-1), .bool false]] w11 (fun e w' => ∃ A cc S s P p, e = .returned (.tuple #[.agg #[.slice A 1 cc, .int .i64 2, .int .i64 1], .agg #[.slice S 2 s, .slice P 0 p, .int .i64 (-1), .bool false], .int .i64 0]) ∧ 2 ≤ s ∧ RowsAt n₀ w' S c.secs ∧ Below w11.heap.size w11 w') := (by have h1 := rsyncR_t (n₀ := n₀) A10 S1 P1 c10 s1 p1 kB dM w11 (Nat.le_trans hn hw.size) ⟨by decide, fun b hb => by rw [List.mem_singleton.1 hb]; decide⟩ hc10 (by decide) (by decide) hs1 (Nat.zero_le _) r10 rd1 (WrsAt.nil _ _); rw [HSY.out] at h1; exact (show Calls Try.prog 60 #[.agg #[.slice A10 1 c10, .int .i64 2, .int .i64 0], .agg #[.slice S1 2 s1, .slice P1 0 p1, .int .i64 (-1), .bool false]] w11 (JsIs n₀ w11 ((kC, c), 0)) from h1).mono fun e w9 hx => by obtain ⟨A5, c5, S5, s5, P5, p5, rfl, hc5, r5, hs5, hp5, r5s, q5, hB⟩ := js_out hx; rw [HCL.out] at hs5 ⊢; rw [HCG.out.pend, HCG.out.left, HCG.out.runs.2]; exact ⟨A5, c5, S5, s5, P5, p5, rfl, hs5, r5s, hB⟩)
    go_at_call 60
    refine K.mono ?_
    rintro e w12 ⟨A14, c14, S14, s14, P14, p14, rfl, hs14, r14, hb⟩
    clear K
    replace rd1 := rd1.below hb
    replace r6 := r6.below hb
    replace r10 := r10.below hb
    replace x1 := x1.below hb x1.lt
    replace x10 := x10.below hb x10.lt
    replace hw := hw.trans (hb.mono hw.size)
    clear x10c0 x10c1 x10c2 x10l x1c0 x1c1 x1c2 x1c3 x1l
    clear hb
    go_upto_region 8 with (fail)
    obtain ⟨W13, hW13⟩ : ∃ W, W = (w12.alloc (.cells #[.slice A14 1 c14, .int .i64 2, .int .i64 1] 55)).alloc (.cells #[.slice S14 2 s14, .slice P14 0 p14, .int .i64 (-1), .bool false] 25) := ⟨_, rfl⟩
    rw [← hW13]
    have hb : Below w12.heap.size w12 W13 := by rw [hW13]; exact ((Below.refl _ _).alloc (Nat.le_refl _) _).alloc (by simp) _
    have x14 : Blk W13 w12.heap.size 55 #[.slice A14 1 c14, .int .i64 2, .int .i64 1] := by rw [hW13]; exact (Blk.new w12 55 _).alloc _
    have x15 : Blk W13 (w12.heap.size + 1) 25 #[.slice S14 2 s14, .slice P14 0 p14, .int .i64 (-1), .bool false] := by rw [hW13]; exact Blk.newAt (by simp) 25 _
    clear hW13
    replace rd1 := rd1.below hb
    replace r6 := r6.below hb
    replace r10 := r10.below hb
    replace r14 := r14.below hb
    replace x1 := x1.below hb x1.lt
    replace x10 := x10.below hb x10.lt
    replace hw := hw.trans (hb.mono hw.size)
    clear hb
    have x15c0 := x15.cell 0
    have x15c1 := x15.cell 1
    have x15c2 := x15.cell 2
    have x15c3 := x15.cell 3
    simp only [List.getElem?_toArray, List.getElem?_cons_zero, List.getElem?_cons_succ] at x15c0 x15c1 x15c2 x15c3
    have x15l := x15.lt
    go_wp2_with (fail)
    have K : Calls Try.prog 58 #[.agg #[.slice S14 2 s14, .slice P14 0 p14, .int .i64 (-1), .bool false]] W13 (fun e w' => ∃ A c V cv, e = .returned (.tuple #[.agg #[.slice A 1 c, .int .i64 2, .int .i64 1], .slice V 2 cv, .int .i64 0]) ∧ 1 ≤ c ∧ RowsAt n₀ w' A [r8] ∧ 2 ≤ cv ∧ NumsAt n₀ w' V [1, -1] ∧ Below W13.heap.size W13 w') := (by have h := ropen_t (n₀ := n₀) S14 P14 s14 p14 c W13 (Nat.le_trans hn hw.size) (by rw [HCL.out]; decide) (by rw [HCG.out.pend]; decide) r14 (by rw [HCG.out.pend]; exact WrsAt.nil _ _); rw [HCO.out, HCL.out, HCG.out.pend, HCG.out.left, HCG.out.runs.2] at h; exact (show Calls Try.prog 58 #[.agg #[.slice S14 2 s14, .slice P14 0 p14, .int .i64 (-1), .bool false]] W13 (RoIs n₀ W13 ((kC, [1, -1]), 0)) from h).mono fun e w9 hx => ro_out hx)
    go_at_call 58
    refine K.mono ?_
    rintro e w14 ⟨A17, c17, V17, v17, rfl, hc17, r17, hv17, n17, hb⟩
    clear K
    replace rd1 := rd1.below hb
    replace r6 := r6.below hb
    replace r10 := r10.below hb
    replace r14 := r14.below hb
    replace x1 := x1.below hb x1.lt
    replace x10 := x10.below hb x10.lt
    replace x14 := x14.below hb x14.lt
    replace x15 := x15.below hb x15.lt
    replace hw := hw.trans (hb.mono hw.size)
    clear x15c0 x15c1 x15c2 x15c3 x15l
    clear hb
    go_upto_region 9 with (fail)
    obtain ⟨W15, hW15⟩ : ∃ W, W = w14.alloc (.cells #[.slice A17 1 c17, .int .i64 2, .int .i64 1] 55) := ⟨_, rfl⟩
    rw [← hW15]
    have hb : Below w14.heap.size w14 W15 := by rw [hW15]; exact (Below.refl _ _).alloc (Nat.le_refl _) _
    have x17 : Blk W15 w14.heap.size 55 #[.slice A17 1 c17, .int .i64 2, .int .i64 1] := by rw [hW15]; exact Blk.new w14 55 _
    clear hW15
    replace rd1 := rd1.below hb
    replace r6 := r6.below hb
    replace r10 := r10.below hb
    replace r14 := r14.below hb
    replace r17 := r17.below hb
    replace n17 := n17.below hb
    replace x1 := x1.below hb x1.lt
    replace x10 := x10.below hb x10.lt
    replace x14 := x14.below hb x14.lt
    replace x15 := x15.below hb x15.lt
    replace hw := hw.trans (hb.mono hw.size)
    clear hb
    clear x17
    have x1c0 := x1.cell 0
    have x1c1 := x1.cell 1
    have x1c2 := x1.cell 2
    have x1c3 := x1.cell 3
    simp only [List.getElem?_toArray, List.getElem?_cons_zero, List.getElem?_cons_succ] at x1c0 x1c1 x1c2 x1c3
    have x1l := x1.lt
    go_wp2_with (fail)
    have K : Calls Try.prog 58 #[.agg #[.slice S1 2 s1, .slice none 0 0, .int .i64 (-1), .bool true]] W15 (fun e w' => ∃ A c V cv, e = .returned (.tuple #[.agg #[.slice A 0 c, .int .i64 0, .int .i64 0], .slice V 0 cv, .int .i64 40]) ∧ 0 ≤ c ∧ RowsAt n₀ w' A [] ∧ 0 ≤ cv ∧ NumsAt n₀ w' V [] ∧ Below W15.heap.size W15 w') := (by have h := ropen_t (n₀ := n₀) S1 none s1 0 ⟨List.replicate 2 zs, [], -1, true⟩ W15 (Nat.le_trans hn hw.size) (by decide) (by decide) rd1 (WrsAt.nil _ _); rw [sr_stop] at h; exact (show Calls Try.prog 58 #[.agg #[.slice S1 2 s1, .slice none 0 0, .int .i64 (-1), .bool true]] W15 (RoIs n₀ W15 ((jn0, []), 40)) from h).mono fun e w9 hx => ro_out hx)
    go_at_call 58
    refine K.mono ?_
    rintro e w16 ⟨A20, c20, V20, v20, rfl, hc20, r20, hv20, n20, hb⟩
    clear K
    replace rd1 := rd1.below hb
    replace r6 := r6.below hb
    replace r10 := r10.below hb
    replace r14 := r14.below hb
    replace r17 := r17.below hb
    replace n17 := n17.below hb
    replace x1 := x1.below hb x1.lt
    replace x10 := x10.below hb x10.lt
    replace x14 := x14.below hb x14.lt
    replace x15 := x15.below hb x15.lt
    replace hw := hw.trans (hb.mono hw.size)
    clear x1c0 x1c1 x1c2 x1c3 x1l
    clear hb
    go_upto_region 10 with (fail)
    obtain ⟨W17, hW17⟩ : ∃ W, W = w16.alloc (.cells #[.slice A20 0 c20, .int .i64 0, .int .i64 0] 55) := ⟨_, rfl⟩
    rw [← hW17]
    have hb : Below w16.heap.size w16 W17 := by rw [hW17]; exact (Below.refl _ _).alloc (Nat.le_refl _) _
    have x20 : Blk W17 w16.heap.size 55 #[.slice A20 0 c20, .int .i64 0, .int .i64 0] := by rw [hW17]; exact Blk.new w16 55 _
    clear hW17
    replace rd1 := rd1.below hb
    replace r6 := r6.below hb
    replace r10 := r10.below hb
    replace r14 := r14.below hb
    replace r17 := r17.below hb
    replace n17 := n17.below hb
    replace r20 := r20.below hb
    replace n20 := n20.below hb
    replace x1 := x1.below hb x1.lt
    replace x10 := x10.below hb x10.lt
    replace x14 := x14.below hb x14.lt
    replace x15 := x15.below hb x15.lt
    replace hw := hw.trans (hb.mono hw.size)
    clear hb
    clear x20
    have x10c0 := x10.cell 0
    have x10c1 := x10.cell 1
    have x10c2 := x10.cell 2
    simp only [List.getElem?_toArray, List.getElem?_cons_zero, List.getElem?_cons_succ] at x10c0 x10c1 x10c2
    have x10l := x10.lt
    have x14c0 := x14.cell 0
    have x14c1 := x14.cell 1
    have x14c2 := x14.cell 2
    simp only [List.getElem?_toArray, List.getElem?_cons_zero, List.getElem?_cons_succ] at x14c0 x14c1 x14c2
    have x14l := x14.lt
    obtain ⟨rb, ro, hRA, lrb, hget⟩ := r10.get (by decide)
    subst hRA
    obtain ⟨Ab, cb, zb, hcb, hbb⟩ := hget 0 (by decide)
    have cvs := conv_bs hbb cb
    have zb2 : W17.cell? ⟨rb, ro, none⟩ = some (.slice Ab 8 cb) := zb
    have cvs2 : (convert 35 9 (.slice Ab 8 cb)).run Try.prog W17 = .ok (.string ⟨#[0, 0, 0, 1, 255, 255, 255, 255]⟩) W17 := cvs
    have hsm : ∀ W B, Below W17.heap.size W17 W → Blk W B 3 (icells [1, -1]).toArray → Calls Try.prog 61 #[.slice V17 2 v17, .slice (some ⟨B, 0, none⟩) 2 2] W (fun e w' => e = .returned (.bool true) ∧ Below W.heap.size W w') := fun W B hW hB => by
      have h := sameI_t (n₀ := n₀) V17 (some ⟨B, 0, none⟩) v17 2 [1, -1] [1, -1] W (by decide) (by decide) (n17.below hW) (blk_nums hB)
      simpa using h
    have HSM := Lib.hid hsm
    clear hget zb cvs hsm hbb
    go_wp2_with (go_at_call 61; refine (HSM.out _ _ (by repeat (first | with_reducible exact Below.refl _ _ | refine Below.drew ?_ | refine Below.alloc ?_ (by first | omega | simp <;> omega) _)) (Blk.newAt rfl 3 _)).mono ?_; rintro e w9 ⟨rfl, hb9⟩; have h9 : Below W17.heap.size W17 w9 := Below.trans (by repeat (first | with_reducible exact Below.refl _ _ | refine Below.drew ?_ | refine Below.alloc ?_ (by first | omega | simp <;> omega) _)) (Below.mono hb9 (by simp)))
    go_ret
    exact ⟨rfl, hw.trans (h9.mono hw.size)⟩
end Go.Proofs.Ytckeopidedoohaa
