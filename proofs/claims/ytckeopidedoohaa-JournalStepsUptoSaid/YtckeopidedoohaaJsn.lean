/-
  The law's own trial of the journal (sane). Conditions: none.
-/
import Derived.Test.YtckeopidedoohaaJs
import Derived.Test.YtckeopidedoohaaJgo
import Derived.Deep.DeepCutAuto
import Derived.Deep.RegionWith
import Derived.Lib.SlBytesConst
namespace Go.Proofs.Ytckeopidedoohaa
open Go.RowKit
variable {n₀ : Nat}
attribute [local go_sem] Oper.semAt_some

theorem js_out {w w' : World} {x : Ending} {rs : List Bs} {m s e : Int} {d : Dk} (h : JsIs n₀ w ((⟨rs, m, s⟩, d), e) x w') : ∃ A c S s' P p, x = .returned (.tuple #[.agg #[.slice A rs.length c, .int .i64 m, .int .i64 s], .agg #[.slice S d.secs.length s', .slice P d.pend.length p, .int .i64 d.left, .bool d.stop], .int .i64 e]) ∧ rs.length ≤ c ∧ RowsAt n₀ w' A rs ∧ d.secs.length ≤ s' ∧ d.pend.length ≤ p ∧ RowsAt n₀ w' S d.secs ∧ WrsAt n₀ w' P d.pend ∧ Below w.heap.size w w' := by
  obtain ⟨v, u, h1, ⟨A, c, h2, h3, h4⟩, ⟨S, s', P, p, h5, h6, h7, h8, h9⟩, h10⟩ := h
  exact ⟨A, c, S, s', P, p, by rw [h1, h2, h5], h3, h4, h6, h7, h8, h9, h10⟩
def zb113 : Bs := List.replicate 113 0
def zc113 : List Value := List.replicate 113 (.int .u8 0)
theorem zc113_b : zc113 = bcells zb113 := by simp [zc113, zb113, bcells, u8v]
theorem make113 (w : World) : (Instr.makeSlice 35 (.int .i64 113) (.int .i64 113)).run Try.prog w = .ok (.slice (some ⟨w.heap.size, 0, none⟩) 113 113) (w.alloc (.cells zc113.toArray 5)) := by
  obtain ⟨i0, hi0, hz0, hz1, hz2⟩ := info_parts info5
  have hr := run_make (P := Try.prog) w 35 5 i0 (.int .u8 0) Try.underlying35 hi0 hz0 .i64 .i64 113 113 (by omega) (Int.le_refl _) (by rw [hz2]; omega) (by omega)
  have e : madeCells (Value.int .u8 0).cells (113 * i0.size) = zc113.toArray := by
    rw [hz1]
    apply Array.ext'
    show (madeCells #[.int .u8 0] (113 * 1)).toList = _
    rw [toList_madeCells_one]
    rfl
  simpa [e] using hr
def jA : Jn := ⟨[], 1, 0⟩
def jB : Jn := ⟨[[97, 98]], 1, 0⟩
def jC : Jn := ⟨[[97, 98]], 1, 1⟩
def dN : Dk := ⟨[zs], [], -1, false⟩
theorem dN_val : Val dN := by simp [Val, dN, zs_len]
theorem zs_bad (num : Nat) : gGood zs num = false := good_bad (by decide)
theorem gRecs_zs1 : gRecs [zs] = [] := by
  unfold gRecs
  rw [recs_none]
  · rfl
  · unfold recAt
    rw [List.drop_zero, scan_no (fun h => by rw [zs_bad] at h; cases h.1)]
theorem sn_new : gNew 1 = (dN, 0) := by simp [gNew, dN]
theorem sn_open : gOpen dN = (jA, 0) := by
  rw [gOpen_ok dN_val rfl (by decide), show dN.secs = [zs] from rfl, gRecs_zs1]
  rfl
theorem jA_val : JVal jA := by simp [JVal, jA, usedN_nil]
theorem jB_val : JVal jB := by simp only [JVal, jB]; decide
theorem sn_app1 : gApp jA zb113 = (jn0, 2) := gApp_lim jA_val (by simp only [jA, usedN_nil, secN, zb113, List.length_replicate]; decide)
theorem sn_app2 : gApp jA [97, 98] = (jB, 0) := by
  rw [gApp_ok jA_val (by simp only [jA, usedN_nil, secN]; decide)]
  rfl
theorem sn_gen : genN [zs] = 1 := by decide
theorem sn_fit : Fits jB dN := ⟨jB_val, dN_val, rfl, rfl, rfl, by show gRecs [zs] = _; rw [gRecs_zs1]; rfl, by show genN [zs] < _; rw [sn_gen]; decide⟩
theorem sn_sync : ∃ c, gJs jB dN = ((jC, c), 0) ∧ Runs c ∧ c.pend = [] ∧ c.secs.length = 1 ∧ gRecs c.secs = [[97, 98]] := by
  obtain ⟨y, h1, h2, h3, h4, h5, -, -⟩ := gJs_ok sn_fit (by decide) (by decide)
  exact ⟨y, h1, h2, h3, h4, h5⟩
theorem sn_open2 {c : Dk} (h : Runs c) (hp : c.pend = []) (hl : c.secs.length = 1) (hr : gRecs c.secs = [[97, 98]]) : gOpen c = (jC, 0) := by
  rw [gOpen_ok h.1 h.2 (by rw [hp]; decide), hr, hl]
  rfl
theorem sn_log {c : Dk} (h : Runs c) (hp : c.pend = []) (hl : c.secs.length = 1) (hr : gRecs c.secs = [[97, 98]]) : gJs jB c = ((jn0, dk0), 50) := by
  refine gJs_log jB_val h.1 (by rw [hl]; rfl) h.2 (by rw [hp]; decide) (fun hx => ?_)
  rw [hr] at hx
  have h1 := hx.1
  revert h1
  decide
theorem sn_room : gRoom jA = 112 := by unfold gRoom; rw [if_pos jA_val]; rfl
theorem sn_chk : gJchk jn0 = 1 := jchk_no (fun h => by have := h.1; revert this; decide)

set_option maxRecDepth 20000 in
set_option maxHeartbeats 4000000 in
theorem jsane_t (w : World) : Calls Try.prog 42 #[] w fun e w' => e = .returned (.bool true) ∧ Below w.heap.size w w' := by
  obtain ⟨c, hsy, hcr, hcp, hcl, hcg⟩ := sn_sync
  have HSY := Lib.hid hsy
  have HOP := Lib.hid (sn_open2 hcr hcp hcl hcg)
  have HLG := Lib.hid (sn_log hcr hcp hcl hcg)
  have hcp2 : c.pend.length = 0 := by rw [hcp]; rfl
  have HCL := Lib.hid (And.intro hcl hcp2)
  obtain ⟨n₀, hn0⟩ : ∃ n, n = w.heap.size := ⟨_, rfl⟩
  have hn : n₀ ≤ w.heap.size := by omega
  clear hsy hcr hcp hcl hcg hcp2 hn0
  go_enter Try.func42, Try.ntmps42
  go_wp2_with (fail)
  have K : Calls Try.prog 25 #[.int .i64 1] w (DkIs n₀ w ((dN, 0))) := by have h1 := new_t (n₀ := n₀) 1 w; rw [sn_new] at h1; exact h1
  go_at_call 25
  refine K.mono ?_
  rintro e w1 ⟨v1, rfl, ⟨S1, s1, P1, p1, rfl, hs1, hp1, r1, q1⟩, hb⟩
  clear K
  have hw := hb
  clear hb
  go_upto_region 2 with (fail)
  obtain ⟨W2, hW2⟩ : ∃ W, W = w1.alloc (.cells #[.slice S1 dN.secs.length s1, .slice P1 dN.pend.length p1, .int .i64 dN.left, .bool dN.stop] 25) := ⟨_, rfl⟩
  rw [← hW2]
  have hb : Below w1.heap.size w1 W2 := by rw [hW2]; exact (Below.refl _ _).alloc (Nat.le_refl _) _
  have x1 : Blk W2 w1.heap.size 25 #[.slice S1 dN.secs.length s1, .slice P1 dN.pend.length p1, .int .i64 dN.left, .bool dN.stop] := by rw [hW2]; exact Blk.new w1 25 _
  clear hW2
  replace r1 := r1.below hb
  replace q1 := q1.below hb
  replace hw := hw.trans (hb.mono hw.size)
  clear hb
  have x1c0 := x1.cell 0
  have x1c1 := x1.cell 1
  have x1c2 := x1.cell 2
  have x1c3 := x1.cell 3
  simp only [List.getElem?_toArray, List.getElem?_cons_zero, List.getElem?_cons_succ] at x1c0 x1c1 x1c2 x1c3
  have x1l := x1.lt
  go_wp2_with (fail)
  have K : Calls Try.prog 44 #[.agg #[.slice S1 dN.secs.length s1, .slice P1 dN.pend.length p1, .int .i64 dN.left, .bool dN.stop]] W2 (fun e w' => ∃ A c, e = .returned (.tuple #[.agg #[.slice A 0 c, .int .i64 1, .int .i64 0], .int .i64 0]) ∧ 0 ≤ c ∧ RowsAt n₀ w' A [] ∧ Below W2.heap.size W2 w') := by have h := (by have h1 := open_t (n₀ := n₀) S1 P1 s1 p1 dN W2 (Nat.le_trans hn hw.size) (by decide) (by decide) r1 q1; rw [sn_open] at h1; exact h1 : Calls Try.prog 44 #[.agg #[.slice S1 dN.secs.length s1, .slice P1 dN.pend.length p1, .int .i64 dN.left, .bool dN.stop]] W2 (JnIs n₀ W2 (jA, 0))); exact h.mono fun e w9 hx => jn_out (rs := []) (m := 1) (s := 0) (e := 0) hx
  go_at_call 44
  refine K.mono ?_
  rintro e w3 ⟨A3, c3, rfl, hc3, r3, hb⟩
  clear K
  replace r1 := r1.below hb
  replace q1 := q1.below hb
  replace x1 := x1.below hb x1.lt
  replace hw := hw.trans (hb.mono hw.size)
  clear x1c0 x1c1 x1c2 x1c3 x1l
  clear hb
  go_upto_region 3 with (fail)
  obtain ⟨W4, hW4⟩ : ∃ W, W = w3.alloc (.cells #[.slice A3 0 c3, .int .i64 1, .int .i64 0] 55) := ⟨_, rfl⟩
  rw [← hW4]
  have hb : Below w3.heap.size w3 W4 := by rw [hW4]; exact (Below.refl _ _).alloc (Nat.le_refl _) _
  have x3 : Blk W4 w3.heap.size 55 #[.slice A3 0 c3, .int .i64 1, .int .i64 0] := by rw [hW4]; exact Blk.new w3 55 _
  clear hW4
  replace r1 := r1.below hb
  replace q1 := q1.below hb
  replace r3 := r3.below hb
  replace x1 := x1.below hb x1.lt
  replace hw := hw.trans (hb.mono hw.size)
  clear hb
  have hka : ∀ B W, Below W4.heap.size W4 W → Blk W B 5 zc113.toArray → Calls Try.prog 47 #[.agg #[.slice A3 0 c3, .int .i64 1, .int .i64 0], .slice (some ⟨B, 0, none⟩) 113 113] W (fun e w' => ∃ A c, e = .returned (.tuple #[.agg #[.slice A 0 c, .int .i64 0, .int .i64 0], .int .i64 2]) ∧ Below W.heap.size W w') := fun B W hW hB => by
    have hbs : BsAt n₀ W (some ⟨B, 0, none⟩) zb113 := by rw [zc113_b] at hB; exact blk_bs hB
    have h := append_t (n₀ := n₀) A3 (some ⟨B, 0, none⟩) c3 113 jA zb113 W ⟨by decide, fun b hb => by cases hb⟩ (by simp [zb113]) hc3 (r3.below hW) hbs
    rw [sn_app1, show zb113.length = 113 by simp [zb113]] at h
    exact h.mono fun e w9 hx => by obtain ⟨A, c, h1, -, -, h4⟩ := jn_out (rs := []) (m := 0) (s := 0) (e := 2) hx; exact ⟨A, c, h1, h4⟩
  have HKA := Lib.hid hka
  clear hka
  have hmk := make113
  have x3c0 := x3.cell 0
  have x3c1 := x3.cell 1
  have x3c2 := x3.cell 2
  have x3c3 := x3.cell 3
  simp only [List.getElem?_toArray, List.getElem?_cons_zero, List.getElem?_cons_succ] at x3c0 x3c1 x3c2 x3c3
  have x3l := x3.lt
  go_cut [6] (fun s6 wx => s6 = .int .i64 2 ∧ Below W4.heap.size W4 wx)
  case first =>
    go_region_with (go_at_call 47; refine (HKA.out _ _ (by repeat (first | with_reducible exact Below.refl _ _ | refine Below.drew ?_ | refine Below.alloc ?_ (by first | omega | simp <;> omega) _)) (by first | (with_reducible refine blk_drew ?_; first | (with_reducible refine Blk.newAt ?_ _ _; first | rfl | (simp; done)) | (with_reducible refine Blk.alloc ?_ _; with_reducible refine Blk.newAt ?_ _ _; first | rfl | (simp; done))) | (with_reducible refine Blk.newAt ?_ _ _; first | rfl | (simp; done)) | (with_reducible refine Blk.alloc ?_ _; with_reducible refine Blk.newAt ?_ _ _; first | rfl | (simp; done)))).mono ?_; rintro e w9 ⟨A9, c9, rfl, hb9⟩; have h9 : Below W4.heap.size W4 w9 := Below.trans (by repeat (first | with_reducible exact Below.refl _ _ | refine Below.drew ?_ | refine Below.alloc ?_ (by first | omega | simp <;> omega) _)) (Below.mono hb9 (by simp <;> omega)); first | (have t9 : Blk w9 (W4.heap.size + 1) 55 #[.slice none 0 0, .int .i64 0, .int .i64 0] := Blk.below (by (try with_reducible refine blk_drew ?_); with_reducible refine Blk.newAt ?_ _ _; simp) hb9 (by simp); have t0 := t9.cell 0; have f0 := t9.frozen 0; have t1 := t9.cell 1; have f1 := t9.frozen 1; have t2 := t9.cell 2; have f2 := t9.frozen 2; simp only [List.getElem?_toArray, List.getElem?_cons_zero, List.getElem?_cons_succ] at t0 t1 t2; have tl := t9.lt) | (have t9 : Blk w9 W4.heap.size 55 #[.slice none 0 0, .int .i64 0, .int .i64 0] := Blk.below (by (try with_reducible refine blk_drew ?_); with_reducible refine Blk.alloc ?_ _; with_reducible refine Blk.newAt ?_ _ _; rfl) hb9 (by simp <;> omega); have t0 := t9.cell 0; have f0 := t9.frozen 0; have t1 := t9.cell 1; have f1 := t9.frozen 1; have t2 := t9.cell 2; have f2 := t9.frozen 2; simp only [List.getElem?_toArray, List.getElem?_cons_zero, List.getElem?_cons_succ] at t0 t1 t2; have tl := t9.lt) | skip)
    all_goals
      (try go_wp2_with (fail))
      go_meet
      exact ⟨rfl, by repeat (first | with_reducible exact h9 | refine Below.setCell ?_ (by have := h9.size; simp <;> omega) _ | refine Below.alloc ?_ (by have := h9.size; omega) _ | refine Below.drew ?_)⟩
  case rest =>
    obtain ⟨rfl, hb⟩ := hcut
    clear HKA hmk
    replace r1 := r1.below hb
    replace q1 := q1.below hb
    replace r3 := r3.below hb
    replace x1 := x1.below hb x1.lt
    replace x3 := x3.below hb x3.lt
    replace hw := hw.trans (hb.mono hw.size)
    clear x3c0 x3c1 x3c2 x3c3 x3l
    clear hb
    have hcv := fun (w : World) (C : Array Value) (n c : Nat) => Lib.run_convert_bytes_const (P := Try.prog) w 35 5 C n c Try.underlying35 Try.underlying5
    have x3c0 := x3.cell 0
    have x3c1 := x3.cell 1
    have x3c2 := x3.cell 2
    have x3c3 := x3.cell 3
    simp only [List.getElem?_toArray, List.getElem?_cons_zero, List.getElem?_cons_succ] at x3c0 x3c1 x3c2 x3c3
    have x3l := x3.lt
    go_wp2_with (fail)
    obtain ⟨W5, hW5⟩ : ∃ W, W = wc.alloc (.cells #[.int .u8 97, .int .u8 98] 5 (2, 3)) := ⟨_, rfl⟩
    rw [← hW5]
    have hb : Below wc.heap.size wc W5 := by rw [hW5]; exact (Below.refl _ _).alloc (Nat.le_refl _) _
    have hz : W5.heap[wc.heap.size]? = some (.cells #[.int .u8 97, .int .u8 98] 5 (2, 3)) := by rw [hW5]; exact heap_alloc_new wc _
    have bz : BsAt n₀ W5 (some ⟨wc.heap.size, 0, none⟩) [97, 98] := fun _ => ⟨_, 0, rfl, ⟨(Array.getElem?_eq_some_iff.1 hz).1, .inr ⟨_, _, _, hz, rfl⟩⟩, fun i hi => by
      rw [Nat.zero_add]
      simp only [World.cell?, hz]
      have h2 : i < 2 := hi
      match i, h2 with
      | 0, _ => rfl
      | 1, _ => rfl⟩
    clear hW5 hz hcv
    replace r1 := r1.below hb
    replace q1 := q1.below hb
    replace r3 := r3.below hb
    replace x1 := x1.below hb x1.lt
    replace x3 := x3.below hb x3.lt
    replace hw := hw.trans (hb.mono hw.size)
    clear x3c0 x3c1 x3c2 x3c3 x3l
    clear hb
    have K : Calls Try.prog 47 #[.agg #[.slice A3 0 c3, .int .i64 1, .int .i64 0], .slice (some ⟨wc.heap.size, 0, none⟩) 2 2] W5 (fun e w' => ∃ A c, e = .returned (.tuple #[.agg #[.slice A 1 c, .int .i64 1, .int .i64 0], .int .i64 0]) ∧ 1 ≤ c ∧ RowsAt n₀ w' A [[97, 98]] ∧ Below W5.heap.size W5 w') := by have h := (by have h1 := append_t (n₀ := n₀) A3 (some ⟨wc.heap.size, 0, none⟩) c3 2 jA [97, 98] W5 ⟨by decide, fun b hb => by cases hb⟩ (by decide) hc3 r3 bz; rw [sn_app2] at h1; exact h1 : Calls Try.prog 47 #[.agg #[.slice A3 0 c3, .int .i64 1, .int .i64 0], .slice (some ⟨wc.heap.size, 0, none⟩) 2 2] W5 (JnIs n₀ W5 (jB, 0))); exact h.mono fun e w9 hx => jn_out (rs := [[97, 98]]) (m := 1) (s := 0) (e := 0) hx
    go_at_call 47
    refine K.mono ?_
    rintro e w6 ⟨A7, c7, rfl, hc7, r7, hb⟩
    clear K
    replace r1 := r1.below hb
    replace q1 := q1.below hb
    replace r3 := r3.below hb
    replace bz := bz.below hb
    replace x1 := x1.below hb x1.lt
    replace x3 := x3.below hb x3.lt
    replace hw := hw.trans (hb.mono hw.size)
    clear hb
    clear bz
    go_upto_region 5 with (fail)
    obtain ⟨W7, hW7⟩ : ∃ W, W = w6.alloc (.cells #[.slice A7 1 c7, .int .i64 1, .int .i64 0] 55) := ⟨_, rfl⟩
    rw [← hW7]
    have hb : Below w6.heap.size w6 W7 := by rw [hW7]; exact (Below.refl _ _).alloc (Nat.le_refl _) _
    have x7 : Blk W7 w6.heap.size 55 #[.slice A7 1 c7, .int .i64 1, .int .i64 0] := by rw [hW7]; exact Blk.new w6 55 _
    clear hW7
    replace r1 := r1.below hb
    replace q1 := q1.below hb
    replace r3 := r3.below hb
    replace r7 := r7.below hb
    replace x1 := x1.below hb x1.lt
    replace x3 := x3.below hb x3.lt
    replace hw := hw.trans (hb.mono hw.size)
    clear hb
    have x7c0 := x7.cell 0
    have x7c1 := x7.cell 1
    have x7c2 := x7.cell 2
    have x7c3 := x7.cell 3
    simp only [List.getElem?_toArray, List.getElem?_cons_zero, List.getElem?_cons_succ] at x7c0 x7c1 x7c2 x7c3
    have x7l := x7.lt
    have x1c0 := x1.cell 0
    have x1c1 := x1.cell 1
    have x1c2 := x1.cell 2
    have x1c3 := x1.cell 3
    simp only [List.getElem?_toArray, List.getElem?_cons_zero, List.getElem?_cons_succ] at x1c0 x1c1 x1c2 x1c3
    have x1l := x1.lt
    go_wp2_with (fail)
    have hsm : Sm jB.recs := ⟨by decide, fun b hb => by rw [List.mem_singleton.1 hb]; decide⟩
    have K : Calls Try.prog 53 #[.agg #[.slice A7 1 c7, .int .i64 1, .int .i64 0], .agg #[.slice S1 dN.secs.length s1, .slice P1 dN.pend.length p1, .int .i64 dN.left, .bool dN.stop]] W7 (JsIs n₀ W7 ((⟨[[97, 98]], 1, 1⟩, c), 0)) := (by have h1 := js_t (n₀ := n₀) A7 S1 P1 c7 s1 p1 jB dN W7 (Nat.le_trans hn hw.size) hsm hc7 (by decide) (by decide) hs1 hp1 r7 r1 q1; rw [HSY.out] at h1; exact h1)
    go_at_call 53
    refine K.mono ?_
    intro e w8 hx
    obtain ⟨A9, c9, S9, s9, P9, p9, rfl, hc9, r9, hs9, hp9, r9s, q9, hb⟩ := js_out hx
    clear hx
    dsimp only [List.length_nil, List.length_cons] at hc9 ⊢
    clear K
    replace r1 := r1.below hb
    replace q1 := q1.below hb
    replace r3 := r3.below hb
    replace r7 := r7.below hb
    replace x1 := x1.below hb x1.lt
    replace x3 := x3.below hb x3.lt
    replace x7 := x7.below hb x7.lt
    replace hw := hw.trans (hb.mono hw.size)
    clear x7c0 x7c1 x7c2 x7c3 x7l x1c0 x1c1 x1c2 x1c3 x1l
    clear hb
    go_upto_region 6 with (fail)
    obtain ⟨W9, hW9⟩ : ∃ W, W = (w8.alloc (.cells #[.slice A9 1 c9, .int .i64 1, .int .i64 1] 55)).alloc (.cells #[.slice S9 c.secs.length s9, .slice P9 c.pend.length p9, .int .i64 c.left, .bool c.stop] 25) := ⟨_, rfl⟩
    rw [← hW9]
    have hb : Below w8.heap.size w8 W9 := by rw [hW9]; exact ((Below.refl _ _).alloc (Nat.le_refl _) _).alloc (by simp) _
    have x9 : Blk W9 w8.heap.size 55 #[.slice A9 1 c9, .int .i64 1, .int .i64 1] := by rw [hW9]; exact (Blk.new w8 55 _).alloc _
    have x10 : Blk W9 (w8.heap.size + 1) 25 #[.slice S9 c.secs.length s9, .slice P9 c.pend.length p9, .int .i64 c.left, .bool c.stop] := by rw [hW9]; exact Blk.newAt (by simp) 25 _
    clear hW9
    replace r1 := r1.below hb
    replace q1 := q1.below hb
    replace r3 := r3.below hb
    replace r7 := r7.below hb
    replace r9 := r9.below hb
    replace r9s := r9s.below hb
    replace q9 := q9.below hb
    replace x1 := x1.below hb x1.lt
    replace x3 := x3.below hb x3.lt
    replace x7 := x7.below hb x7.lt
    replace hw := hw.trans (hb.mono hw.size)
    clear hb
    have x10c0 := x10.cell 0
    have x10c1 := x10.cell 1
    have x10c2 := x10.cell 2
    have x10c3 := x10.cell 3
    simp only [List.getElem?_toArray, List.getElem?_cons_zero, List.getElem?_cons_succ] at x10c0 x10c1 x10c2 x10c3
    have x10l := x10.lt
    go_wp2_with (fail)
    have K : Calls Try.prog 44 #[.agg #[.slice S9 c.secs.length s9, .slice P9 c.pend.length p9, .int .i64 c.left, .bool c.stop]] W9 (fun e w' => ∃ A c, e = .returned (.tuple #[.agg #[.slice A 1 c, .int .i64 1, .int .i64 1], .int .i64 0]) ∧ 1 ≤ c ∧ RowsAt n₀ w' A [[97, 98]] ∧ Below W9.heap.size W9 w') := by have h := (by have h1 := open_t (n₀ := n₀) S9 P9 s9 p9 c W9 (Nat.le_trans hn hw.size) (by rw [HCL.out.1]; decide) (by rw [HCL.out.2]; decide) r9s q9; rw [HOP.out] at h1; exact h1 : Calls Try.prog 44 #[.agg #[.slice S9 c.secs.length s9, .slice P9 c.pend.length p9, .int .i64 c.left, .bool c.stop]] W9 (JnIs n₀ W9 (jC, 0))); exact h.mono fun e w9 hx => jn_out (rs := [[97, 98]]) (m := 1) (s := 1) (e := 0) hx
    go_at_call 44
    refine K.mono ?_
    rintro e w10 ⟨A12, c12, rfl, hc12, r12, hb⟩
    clear K
    replace r1 := r1.below hb
    replace q1 := q1.below hb
    replace r3 := r3.below hb
    replace r7 := r7.below hb
    replace r9 := r9.below hb
    replace r9s := r9s.below hb
    replace q9 := q9.below hb
    replace x1 := x1.below hb x1.lt
    replace x3 := x3.below hb x3.lt
    replace x7 := x7.below hb x7.lt
    replace x9 := x9.below hb x9.lt
    replace x10 := x10.below hb x10.lt
    replace hw := hw.trans (hb.mono hw.size)
    clear x10c0 x10c1 x10c2 x10c3 x10l
    clear hb
    go_upto_region 7 with (fail)
    obtain ⟨W11, hW11⟩ : ∃ W, W = w10.alloc (.cells #[.slice A12 1 c12, .int .i64 1, .int .i64 1] 55) := ⟨_, rfl⟩
    rw [← hW11]
    have hb : Below w10.heap.size w10 W11 := by rw [hW11]; exact (Below.refl _ _).alloc (Nat.le_refl _) _
    have x12 : Blk W11 w10.heap.size 55 #[.slice A12 1 c12, .int .i64 1, .int .i64 1] := by rw [hW11]; exact Blk.new w10 55 _
    clear hW11
    replace r1 := r1.below hb
    replace q1 := q1.below hb
    replace r3 := r3.below hb
    replace r7 := r7.below hb
    replace r9 := r9.below hb
    replace r9s := r9s.below hb
    replace q9 := q9.below hb
    replace r12 := r12.below hb
    replace x1 := x1.below hb x1.lt
    replace x3 := x3.below hb x3.lt
    replace x7 := x7.below hb x7.lt
    replace x9 := x9.below hb x9.lt
    replace x10 := x10.below hb x10.lt
    replace hw := hw.trans (hb.mono hw.size)
    clear hb
    have x7c0 := x7.cell 0
    have x7c1 := x7.cell 1
    have x7c2 := x7.cell 2
    have x7c3 := x7.cell 3
    simp only [List.getElem?_toArray, List.getElem?_cons_zero, List.getElem?_cons_succ] at x7c0 x7c1 x7c2 x7c3
    have x7l := x7.lt
    have x10c0 := x10.cell 0
    have x10c1 := x10.cell 1
    have x10c2 := x10.cell 2
    have x10c3 := x10.cell 3
    simp only [List.getElem?_toArray, List.getElem?_cons_zero, List.getElem?_cons_succ] at x10c0 x10c1 x10c2 x10c3
    have x10l := x10.lt
    go_wp2_with (fail)
    have K : Calls Try.prog 53 #[.agg #[.slice A7 1 c7, .int .i64 1, .int .i64 0], .agg #[.slice S9 c.secs.length s9, .slice P9 c.pend.length p9, .int .i64 c.left, .bool c.stop]] W11 (JsIs n₀ W11 ((⟨[], 0, 0⟩, dk0), 50)) := (by have h1 := js_t (n₀ := n₀) A7 S9 P9 c7 s9 p9 jB c W11 (Nat.le_trans hn hw.size) hsm hc7 (by rw [HCL.out.1]; decide) (by rw [HCL.out.2]; decide) hs9 hp9 r7 r9s q9; rw [HLG.out] at h1; exact h1)
    go_at_call 53
    refine K.mono ?_
    intro e w12 hx
    obtain ⟨A14, c14, S14, s14, P14, p14, rfl, hc14, r14, hs14, hp14, r14s, q14, hb⟩ := js_out hx
    clear hx
    dsimp only [List.length_nil, List.length_cons] at hc14 ⊢
    clear K
    replace r1 := r1.below hb
    replace q1 := q1.below hb
    replace r3 := r3.below hb
    replace r7 := r7.below hb
    replace r9 := r9.below hb
    replace r9s := r9s.below hb
    replace q9 := q9.below hb
    replace r12 := r12.below hb
    replace x1 := x1.below hb x1.lt
    replace x3 := x3.below hb x3.lt
    replace x7 := x7.below hb x7.lt
    replace x9 := x9.below hb x9.lt
    replace x10 := x10.below hb x10.lt
    replace x12 := x12.below hb x12.lt
    replace hw := hw.trans (hb.mono hw.size)
    clear x7c0 x7c1 x7c2 x7c3 x7l x10c0 x10c1 x10c2 x10c3 x10l
    clear hb
    go_upto_region 8 with (fail)
    obtain ⟨W13, hW13⟩ : ∃ W, W = (w12.alloc (.cells #[.slice A14 0 c14, .int .i64 0, .int .i64 0] 55)).alloc (.cells #[.slice S14 dk0.secs.length s14, .slice P14 dk0.pend.length p14, .int .i64 dk0.left, .bool dk0.stop] 25) := ⟨_, rfl⟩
    rw [← hW13]
    have hb : Below w12.heap.size w12 W13 := by rw [hW13]; exact ((Below.refl _ _).alloc (Nat.le_refl _) _).alloc (by simp) _
    have x14 : Blk W13 w12.heap.size 55 #[.slice A14 0 c14, .int .i64 0, .int .i64 0] := by rw [hW13]; exact (Blk.new w12 55 _).alloc _
    have x15 : Blk W13 (w12.heap.size + 1) 25 #[.slice S14 dk0.secs.length s14, .slice P14 dk0.pend.length p14, .int .i64 dk0.left, .bool dk0.stop] := by rw [hW13]; exact Blk.newAt (by simp) 25 _
    clear hW13
    replace r1 := r1.below hb
    replace q1 := q1.below hb
    replace r3 := r3.below hb
    replace r7 := r7.below hb
    replace r9 := r9.below hb
    replace r9s := r9s.below hb
    replace q9 := q9.below hb
    replace r12 := r12.below hb
    replace r14 := r14.below hb
    replace r14s := r14s.below hb
    replace q14 := q14.below hb
    replace x1 := x1.below hb x1.lt
    replace x3 := x3.below hb x3.lt
    replace x7 := x7.below hb x7.lt
    replace x9 := x9.below hb x9.lt
    replace x10 := x10.below hb x10.lt
    replace x12 := x12.below hb x12.lt
    replace hw := hw.trans (hb.mono hw.size)
    clear hb
    clear x14 x15
    have hrm : ∀ W, Below W13.heap.size W13 W → Calls Try.prog 51 #[.agg #[.slice A3 0 c3, .int .i64 1, .int .i64 0]] W (fun e w' => e = .returned (.int .i64 112) ∧ Below W.heap.size W w') := fun W hW => by
      have h := room_t A3 c3 jA W ⟨by decide, fun b hb => by cases hb⟩ (r3.below hW)
      rw [sn_room] at h
      exact h
    have x3c0 := x3.cell 0
    have x3c1 := x3.cell 1
    have x3c2 := x3.cell 2
    have x3c3 := x3.cell 3
    simp only [List.getElem?_toArray, List.getElem?_cons_zero, List.getElem?_cons_succ] at x3c0 x3c1 x3c2 x3c3
    have x3l := x3.lt
    go_wp2_with (fail)
    have K : Calls Try.prog 51 #[.agg #[.slice A3 0 c3, .int .i64 1, .int .i64 0]] W13 (fun e w' => e = .returned (.int .i64 112) ∧ Below W13.heap.size W13 w') := hrm W13 (Below.refl _ _)
    go_at_call 51
    refine K.mono ?_
    rintro e w14 ⟨rfl, hb⟩
    clear K
    replace r1 := r1.below hb
    replace q1 := q1.below hb
    replace r3 := r3.below hb
    replace r7 := r7.below hb
    replace r9 := r9.below hb
    replace r9s := r9s.below hb
    replace q9 := q9.below hb
    replace r12 := r12.below hb
    replace r14 := r14.below hb
    replace r14s := r14s.below hb
    replace q14 := q14.below hb
    replace x1 := x1.below hb x1.lt
    replace x3 := x3.below hb x3.lt
    replace x7 := x7.below hb x7.lt
    replace x9 := x9.below hb x9.lt
    replace x10 := x10.below hb x10.lt
    replace x12 := x12.below hb x12.lt
    replace hw := hw.trans (hb.mono hw.size)
    clear x3c0 x3c1 x3c2 x3c3 x3l
    clear hb
    obtain ⟨rb, ro, hRA, lrb, hget⟩ := r12.get (by decide)
    subst hRA
    obtain ⟨Ab, cb, zb, hcb, hbb⟩ := hget 0 (by decide)
    have cvs := conv_bs hbb cb
    have zb2 : w14.cell? ⟨rb, ro, none⟩ = some (.slice Ab 2 cb) := zb
    have cvs2 : (convert 35 9 (.slice Ab 2 cb)).run Try.prog w14 = .ok (.string ⟨#[97, 98]⟩) w14 := cvs
    clear hget zb cvs hrm
    have x3c0 := x3.cell 0
    have x3c1 := x3.cell 1
    have x3c2 := x3.cell 2
    have x3c3 := x3.cell 3
    simp only [List.getElem?_toArray, List.getElem?_cons_zero, List.getElem?_cons_succ] at x3c0 x3c1 x3c2 x3c3
    have x3l := x3.lt
    have x9c0 := x9.cell 0
    have x9c1 := x9.cell 1
    have x9c2 := x9.cell 2
    have x9c3 := x9.cell 3
    simp only [List.getElem?_toArray, List.getElem?_cons_zero, List.getElem?_cons_succ] at x9c0 x9c1 x9c2 x9c3
    have x9l := x9.lt
    have x12c0 := x12.cell 0
    have x12c1 := x12.cell 1
    have x12c2 := x12.cell 2
    have x12c3 := x12.cell 3
    simp only [List.getElem?_toArray, List.getElem?_cons_zero, List.getElem?_cons_succ] at x12c0 x12c1 x12c2 x12c3
    have x12l := x12.lt
    go_wp2_with (fail)
    have K : Calls Try.prog 49 #[.agg #[.slice none 0 0, .int .i64 0, .int .i64 0]] w14 (fun e w' => e = .returned (.int .i64 1) ∧ Below w14.heap.size w14 w') := (by have h := jcheck_t (n₀ := n₀) none 0 jn0 w14 ⟨by decide, fun b hb => by cases hb⟩ (RowsAt.nil _ _); rw [sn_chk] at h; exact h)
    go_at_call 49
    refine K.mono ?_
    rintro e w15 ⟨rfl, hb⟩
    clear K
    replace r1 := r1.below hb
    replace q1 := q1.below hb
    replace r3 := r3.below hb
    replace r7 := r7.below hb
    replace r9 := r9.below hb
    replace r9s := r9s.below hb
    replace q9 := q9.below hb
    replace r12 := r12.below hb
    replace r14 := r14.below hb
    replace r14s := r14s.below hb
    replace q14 := q14.below hb
    replace x1 := x1.below hb x1.lt
    replace x3 := x3.below hb x3.lt
    replace x7 := x7.below hb x7.lt
    replace x9 := x9.below hb x9.lt
    replace x10 := x10.below hb x10.lt
    replace x12 := x12.below hb x12.lt
    replace hw := hw.trans (hb.mono hw.size)
    clear x3c0 x3c1 x3c2 x3c3 x3l x9c0 x9c1 x9c2 x9c3 x9l x12c0 x12c1 x12c2 x12c3 x12l
    clear hb
    clear cvs2 zb2
    go_wp2
    go_ret
    exact ⟨rfl, hw⟩
end Go.Proofs.Ytckeopidedoohaa
