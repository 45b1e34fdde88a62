/-
  DiskReads walked: it answers true.
-/
import Derived.Test.YtckeopidedoohaaLw4
namespace Go.Proofs.Ytckeopidedoohaa
open Go.RowKit
variable {n₀ : Nat}
attribute [local go_sem] Oper.semAt_some

theorem BsAt.take {w : World} {A : Option Addr} {bs : Bs} (h : BsAt n₀ w A bs) (k : Nat) : BsAt n₀ w A (bs.take k) := fun h0 => by
  rw [List.length_take] at h0
  obtain ⟨b, o, e, hl, hc⟩ := h (by omega)
  refine ⟨b, o, e, hl, fun i hi => ?_⟩
  rw [List.length_take] at hi
  rw [hc i (by omega)]
  congr 2
  simp only [List.getD_eq_getElem?_getD, List.getElem?_take]
  rw [if_pos (by omega)]
theorem reads_x {d x : Dk} {at_ ot : Int} {b : Bs} (h : Runs d) (h0 : 0 ≤ at_) (h1 : at_ < d.secs.length) (o0 : 0 ≤ ot) (o1 : ot < d.secs.length) (hb : b.length ≤ 128) (hp : ¬ d.pend.length = 4096) (hx : x = { d with pend := d.pend ++ [⟨at_, pad b⟩] }) :
    Runs x ∧ x.secs.length = d.secs.length ∧ x.pend.length = d.pend.length + 1 ∧ (∃ af, gRead x ot = (af, 0) ∧ af.length = 128 ∧ (at_ ≠ ot → af = (gRead d ot).1)) ∧ gRead x at_ = (pad b, 0) := by
  have hr : Runs x := by rw [hx]; exact write_runs h h0 h1 hb (by have := h.1.2.2.1; omega)
  have e1 : x.secs = d.secs := by rw [hx]
  have e2 : x.pend = d.pend ++ [⟨at_, pad b⟩] := by rw [hx]
  refine ⟨hr, by rw [e1], by rw [e2]; simp, ⟨(gRead x ot).1, ?_, read_len ⟨hr, o0, by rw [e1]; exact o1⟩, fun hne => ?_⟩, ?_⟩
  · rw [gRead_ok ⟨hr, o0, by rw [e1]; exact o1⟩]
  · rw [gRead_ok ⟨hr, o0, by rw [e1]; exact o1⟩, gRead_ok ⟨h, o0, o1⟩, e1, e2, rdW_snoc, if_neg hne]
  · rw [gRead_ok ⟨hr, h0, by rw [e1]; exact h1⟩, e2, rdW_snoc, if_pos rfl]
theorem reads_y {x y : Dk} {ot : Int} {e : Bs} (h : Runs x) (o0 : 0 ≤ ot) (o1 : ot < x.secs.length) (he : e.length ≤ 128) (hp : ¬ x.pend.length = 4096) (hy : y = { x with pend := x.pend ++ [⟨ot, pad e⟩] }) : Runs y ∧ y.secs.length = x.secs.length ∧ y.pend.length = x.pend.length + 1 := by
  rw [hy]
  exact ⟨write_runs h o0 o1 he (by have := h.1.2.2.1; omega), rfl, by simp⟩

set_option maxRecDepth 20000 in
set_option maxHeartbeats 8000000 in
theorem reads_t (SA PA A3 A4 : Option Addr) (sc pc c3 c4 : Nat) (d : Dk) (at_ ot : Int) (b e : Bs) (w : World) (hn : n₀ ≤ w.heap.size) (hre : Reach d) (hcs : d.secs.length ≤ sc) (hcp : d.pend.length ≤ pc) (r0 : RowsAt n₀ w SA d.secs) (q0 : WrsAt n₀ w PA d.pend) (b3 : BsAt n₀ w A3 b) (b4 : BsAt n₀ w A4 e) (hbc : b.length ≤ c3) (hbl : b.length ≤ reachBytes) (hel : e.length ≤ reachBytes) :
    Calls Try.prog 7 #[.agg #[.slice SA d.secs.length sc, .slice PA d.pend.length pc, .int .i64 d.left, .bool d.stop], .int .i64 at_, .int .i64 ot, .slice A3 b.length c3, .slice A4 e.length c4] w (Yes w) := by
  have hbl2 : b.length ≤ 140737488355328 := Nat.le_trans hbl (by decide)
  have hel2 : e.length ≤ 140737488355328 := Nat.le_trans hel (by decide)
  obtain ⟨hl1, hl2⟩ := reach_le hre
  have HRE := Lib.hid hre
  clear hre hbl hel
  obtain ⟨⟨x, ex⟩, hgw⟩ : ∃ r, r = gWrite d at_ b := ⟨_, rfl⟩
  have hsm := write_small d at_ b
  rw [← hgw] at hsm
  obtain ⟨hx1, hx2⟩ := hsm
  have HGW := Lib.hid hgw
  dsimp only at hx1 hx2
  obtain ⟨⟨rb, er⟩, hgr⟩ : ∃ r, r = gRead d ot := ⟨_, rfl⟩
  have HGR := Lib.hid hgr
  clear hgw hgr
  go_enter Try.func7, Try.ntmps7
  go_wp2_with (fail)
  obtain ⟨W1, hW1⟩ : ∃ W, W = w.alloc (.cells #[.slice SA d.secs.length sc, .slice PA d.pend.length pc, .int .i64 d.left, .bool d.stop] 25) := ⟨_, rfl⟩
  rw [← hW1]
  have hb : Below w.heap.size w W1 := by rw [hW1]; exact (Below.refl _ _).alloc (Nat.le_refl _) _
  have x5 : Blk W1 w.heap.size 25 #[.slice SA d.secs.length sc, .slice PA d.pend.length pc, .int .i64 d.left, .bool d.stop] := by rw [hW1]; exact Blk.new w 25 _
  clear hW1
  replace r0 := r0.below hb
  replace q0 := q0.below hb
  replace b3 := b3.below hb
  replace b4 := b4.below hb
  have hw := hb
  clear hb
  have K : Calls Try.prog 23 #[] W1 (fun e w' => e = .returned (.bool true) ∧ Below W1.heap.size W1 w') := sane_t W1
  go_at_call 23
  refine K.mono ?_
  rintro e w2 ⟨rfl, hb⟩
  clear K
  replace r0 := r0.below hb
  replace q0 := q0.below hb
  replace b3 := b3.below hb
  replace b4 := b4.below hb
  replace x5 := x5.below hb x5.lt
  replace hw := hw.trans (hb.mono hw.size)
  clear hb
  have x5c0 := x5.cell 0
  have x5c1 := x5.cell 1
  have x5c2 := x5.cell 2
  have x5c3 := x5.cell 3
  simp only [List.getElem?_toArray, List.getElem?_cons_zero, List.getElem?_cons_succ] at x5c0 x5c1 x5c2 x5c3
  have x5l := x5.lt
  go_wp2_with (fail)
  have K : Calls Try.prog 24 #[.agg #[.slice SA d.secs.length sc, .slice PA d.pend.length pc, .int .i64 d.left, .bool d.stop]] w2 (FewIs w2 d) := few_t SA PA sc pc d w2 HRE.out r0 q0
  go_at_call 24
  refine K.mono ?_
  rintro e1 w3 ⟨y, rfl, hy, hb⟩
  clear K
  replace r0 := r0.below hb
  replace q0 := q0.below hb
  replace b3 := b3.below hb
  replace b4 := b4.below hb
  replace x5 := x5.below hb x5.lt
  replace hw := hw.trans (hb.mono hw.size)
  clear x5c0 x5c1 x5c2 x5c3 x5l
  clear hb
  cases y
  case false =>
    go_wp2
    go_ret
    exact ⟨rfl, hw⟩
  obtain ⟨hy1, hy2⟩ := hy rfl
  clear hy
  by_cases hb1 : 128 < b.length
  case pos =>
    have db : decide (128 < (b.length : Int)) = true := decide_eq_true (by omega)
    go_wp2
    go_ret
    exact ⟨rfl, hw⟩
  have db : decide (128 < (b.length : Int)) = false := decide_eq_false (by omega)
  by_cases he1 : 128 < e.length
  case pos =>
    have de : decide (128 < (e.length : Int)) = true := decide_eq_true (by omega)
    go_wp2
    go_ret
    exact ⟨rfl, hw⟩
  have de : decide (128 < (e.length : Int)) = false := decide_eq_false (by omega)
  have hb2 : b.length ≤ 128 := by omega
  have he2 : e.length ≤ 128 := by omega
  clear hb1 he1
  have x5c0 := x5.cell 0
  have x5c1 := x5.cell 1
  have x5c2 := x5.cell 2
  have x5c3 := x5.cell 3
  simp only [List.getElem?_toArray, List.getElem?_cons_zero, List.getElem?_cons_succ] at x5c0 x5c1 x5c2 x5c3
  have x5l := x5.lt
  go_wp2_with (fail)
  have K : Calls Try.prog 34 #[.agg #[.slice SA d.secs.length sc, .slice PA d.pend.length pc, .int .i64 d.left, .bool d.stop], .int .i64 ot] w3 (RdIs n₀ w3 ((rb, er))) := by rw [HGR.out]; exact read_t SA PA sc pc d ot w3 hl1 hl2 r0 q0
  go_at_call 34
  refine K.mono ?_
  rintro e w4 ⟨A11, c11, rfl, hc11, b11, hb⟩
  clear K
  replace r0 := r0.below hb
  replace q0 := q0.below hb
  replace b3 := b3.below hb
  replace b4 := b4.below hb
  replace x5 := x5.below hb x5.lt
  replace hw := hw.trans (hb.mono hw.size)
  clear x5c0 x5c1 x5c2 x5c3 x5l
  clear hb
  clear db de
  have x5c0 := x5.cell 0
  have x5c1 := x5.cell 1
  have x5c2 := x5.cell 2
  have x5c3 := x5.cell 3
  simp only [List.getElem?_toArray, List.getElem?_cons_zero, List.getElem?_cons_succ] at x5c0 x5c1 x5c2 x5c3
  have x5l := x5.lt
  go_wp2_with (fail)
  have K : Calls Try.prog 32 #[.agg #[.slice SA d.secs.length sc, .slice PA d.pend.length pc, .int .i64 d.left, .bool d.stop], .int .i64 at_, .slice A3 b.length c3] w4 (DkIs n₀ w4 ((x, ex))) := by rw [HGW.out]; exact write_t SA PA A3 sc pc c3 d at_ b w4 hl1 hl2 hbl2 hcs r0 q0 b3
  go_at_call 32
  refine K.mono ?_
  rintro e w5 ⟨v13, rfl, ⟨S13, s13, P13, p13, rfl, hs13, hp13, r13, q13⟩, hb⟩
  clear K
  replace r0 := r0.below hb
  replace q0 := q0.below hb
  replace b3 := b3.below hb
  replace b4 := b4.below hb
  replace b11 := b11.below hb
  replace x5 := x5.below hb x5.lt
  replace hw := hw.trans (hb.mono hw.size)
  clear x5c0 x5c1 x5c2 x5c3 x5l
  clear hb
  go_upto_region 7 with (fail)
  obtain ⟨W6, hW6⟩ : ∃ W, W = w5.alloc (.cells #[.slice S13 x.secs.length s13, .slice P13 x.pend.length p13, .int .i64 x.left, .bool x.stop] 25) := ⟨_, rfl⟩
  rw [← hW6]
  have hb : Below w5.heap.size w5 W6 := by rw [hW6]; exact (Below.refl _ _).alloc (Nat.le_refl _) _
  have x13 : Blk W6 w5.heap.size 25 #[.slice S13 x.secs.length s13, .slice P13 x.pend.length p13, .int .i64 x.left, .bool x.stop] := by rw [hW6]; exact Blk.new w5 25 _
  clear hW6
  replace r0 := r0.below hb
  replace q0 := q0.below hb
  replace b3 := b3.below hb
  replace b4 := b4.below hb
  replace b11 := b11.below hb
  replace r13 := r13.below hb
  replace q13 := q13.below hb
  replace x5 := x5.below hb x5.lt
  replace hw := hw.trans (hb.mono hw.size)
  clear hb
  by_cases k1 : Runs d ∧ 0 ≤ ot ∧ ot < d.secs.length
  case neg =>
    have h1 := HGR.out
    rw [gRead_no k1] at h1
    obtain rfl : er = 40 := congrArg Prod.snd h1
    clear h1 k1
    go_wp2
    go_ret
    exact ⟨rfl, hw⟩
  have h1 := HGR.out
  rw [gRead_ok k1] at h1
  obtain rfl : er = 0 := congrArg Prod.snd h1
  clear h1
  by_cases k2 : (0 ≤ at_ ∧ at_ < d.secs.length) ∧ ¬ d.pend.length = 4096
  case neg =>
    have h1 := HGW.out
    have h2 : ex ≠ 0 := by
      by_cases k3 : Runs d ∧ 0 ≤ at_ ∧ at_ < d.secs.length
      · rw [gWrite_lim k3 (by omega) (by have := k3.2; omega)] at h1; have h3 : ex = 2 := congrArg Prod.snd h1; rw [h3]; decide
      · rw [gWrite_no k3] at h1; have h3 : ex = 40 := congrArg Prod.snd h1; rw [h3]; decide
    have dx : (ex != 0) = true := bne_iff_ne.2 h2
    clear h1 h2 k2
    go_wp2
    go_ret
    exact ⟨rfl, hw⟩
  obtain ⟨⟨a0, a1⟩, hp⟩ := k2
  have h1 := HGW.out
  rw [gWrite_ok ⟨k1.1, a0, a1⟩ (by omega) hp] at h1
  obtain rfl : ex = 0 := congrArg Prod.snd h1
  have h2 : x = { d with pend := d.pend ++ [⟨at_, pad b⟩] } := congrArg Prod.fst h1
  obtain ⟨hrx, hxs, hxp, ⟨af, haf, hafl, hafe⟩, hmi⟩ := reads_x k1.1 a0 a1 k1.2.1 k1.2.2 hb2 hp h2
  have o0 := k1.2.1
  have o1 : ot < x.secs.length := by rw [hxs]; exact k1.2.2
  have hafr : at_ ≠ ot → af = rb := fun h => by rw [hafe h, ← HGR.out]
  have HRX := Lib.hid hrx
  have HXS := Lib.hid hxs
  have HXP := Lib.hid hxp
  have HAF := Lib.hid haf
  have HAL := Lib.hid hafl
  have HAR := Lib.hid hafr
  have HMI := Lib.hid hmi
  have hxp2 : x.pend.length ≤ 4096 := hrx.1.2.2.1
  clear h1 h2 k1 hp hrx hxs hxp haf hafl hafe hafr hmi
  have x13c0 := x13.cell 0
  have x13c1 := x13.cell 1
  have x13c2 := x13.cell 2
  have x13c3 := x13.cell 3
  simp only [List.getElem?_toArray, List.getElem?_cons_zero, List.getElem?_cons_succ] at x13c0 x13c1 x13c2 x13c3
  have x13l := x13.lt
  go_wp2_with (fail)
  have K : Calls Try.prog 34 #[.agg #[.slice S13 x.secs.length s13, .slice P13 x.pend.length p13, .int .i64 x.left, .bool x.stop], .int .i64 ot] W6 (RdIs n₀ W6 ((af, 0))) := by rw [← HAF.out]; exact read_t S13 P13 s13 p13 x ot W6 (by omega) (by omega) r13 q13
  go_at_call 34
  refine K.mono ?_
  intro e w7 hx
  obtain ⟨A15, c15, rfl, hc15, b15, hb⟩ := rd128 hx HAL.out
  clear hx
  clear K
  replace r0 := r0.below hb
  replace q0 := q0.below hb
  replace b3 := b3.below hb
  replace b4 := b4.below hb
  replace b11 := b11.below hb
  replace r13 := r13.below hb
  replace q13 := q13.below hb
  replace x5 := x5.below hb x5.lt
  replace x13 := x13.below hb x13.lt
  replace hw := hw.trans (hb.mono hw.size)
  clear x13c0 x13c1 x13c2 x13c3 x13l
  clear hb
  have x13c0 := x13.cell 0
  have x13c1 := x13.cell 1
  have x13c2 := x13.cell 2
  have x13c3 := x13.cell 3
  simp only [List.getElem?_toArray, List.getElem?_cons_zero, List.getElem?_cons_succ] at x13c0 x13c1 x13c2 x13c3
  have x13l := x13.lt
  go_wp2_with (fail)
  have K : Calls Try.prog 34 #[.agg #[.slice S13 x.secs.length s13, .slice P13 x.pend.length p13, .int .i64 x.left, .bool x.stop], .int .i64 at_] w7 (RdIs n₀ w7 ((pad b, 0))) := by rw [← HMI.out]; exact read_t S13 P13 s13 p13 x at_ w7 (by omega) (by omega) r13 q13
  go_at_call 34
  refine K.mono ?_
  intro e w8 hx
  obtain ⟨A17, c17, rfl, hc17, b17, hb⟩ := rd128 hx (pad_len hb2)
  clear hx
  clear K
  replace r0 := r0.below hb
  replace q0 := q0.below hb
  replace b3 := b3.below hb
  replace b4 := b4.below hb
  replace b11 := b11.below hb
  replace r13 := r13.below hb
  replace q13 := q13.below hb
  replace b15 := b15.below hb
  replace x5 := x5.below hb x5.lt
  replace x13 := x13.below hb x13.lt
  replace hw := hw.trans (hb.mono hw.size)
  clear x13c0 x13c1 x13c2 x13c3 x13l
  clear hb
  obtain ⟨ab, ao, rfl, la, -⟩ := bs_looks b17 (pad_len hb2)
  have cv1 : ∀ n, (convert 35 9 (.slice (some ⟨ab, ao, none⟩) b.length c17)).run Try.prog (w8.drewN n) = .ok (.string ⟨b.toArray⟩) (w8.drewN n) := fun n => by
    have h1 := BsAt.take b17 b.length
    rw [pad_take] at h1
    exact conv_bs (h1.below (below_drewN (Below.refl _ _) n)) c17
  have cv2 : ∀ n, (convert 35 9 (.slice A3 b.length c3)).run Try.prog (w8.drewN n) = .ok (.string ⟨b.toArray⟩) (w8.drewN n) := fun n => conv_bs (b3.below (below_drewN (Below.refl _ _) n)) c3
  have hb0 : (0 : Int) ≤ b.length := by omega
  have hbc17 : (b.length : Int) ≤ c17 := by omega
  obtain ⟨q, hq⟩ : ∃ q, q = (at_ != ot) := ⟨_, rfl⟩
  have dq := hq.symm
  have hql : q = true → af = rb := fun h => HAR.out (bne_iff_ne.1 (by rw [← hq]; exact h))
  have HQ := Lib.hid hql
  clear hq hql
  have cv3 : q = true → ∀ n, (convert 35 9 (.slice A11 rb.length c11)).run Try.prog (w8.drewN n) = .ok (.string ⟨rb.toArray⟩) (w8.drewN n) := fun _ n => conv_bs (BsAt.below b11 (below_drewN (Below.refl _ _) n)) c11
  have cv4 : q = true → ∀ n, (convert 35 9 (.slice A15 128 c15)).run Try.prog (w8.drewN n) = .ok (.string ⟨rb.toArray⟩) (w8.drewN n) := fun h n => by
    have h1 := conv_bs (BsAt.below b15 (below_drewN (Below.refl _ _) n)) c15
    rw [HAL.out, HQ.out h] at h1
    exact h1
  dsimp only
  go_upto_region 11 with (fail)
  go_cut [106] (fun s106 wx => s106 = .bool false ∧ Below w8.heap.size w8 wx)
  case first =>
    cases q
    all_goals
      first | (have cv5 := cv3 rfl; have cv6 := cv4 rfl; clear cv3 cv4) | clear cv3 cv4
      go_quiet (fail)
      (try go_wp2_with (fail))
      go_meet
      exact ⟨rfl, below_drewN (Below.refl _ _) _⟩
  case rest =>
    obtain ⟨rfl, hb⟩ := hcut
    clear cv1 cv2 cv3 cv4 hb0 hbc17 dq HQ
    replace r0 := r0.below hb
    replace q0 := q0.below hb
    replace b3 := b3.below hb
    replace b4 := b4.below hb
    replace b11 := b11.below hb
    replace r13 := r13.below hb
    replace q13 := q13.below hb
    replace b15 := b15.below hb
    replace b17 := b17.below hb
    replace x5 := x5.below hb x5.lt
    replace x13 := x13.below hb x13.lt
    replace hw := hw.trans (hb.mono hw.size)
    clear hb
    have x13c0 := x13.cell 0
    have x13c1 := x13.cell 1
    have x13c2 := x13.cell 2
    have x13c3 := x13.cell 3
    simp only [List.getElem?_toArray, List.getElem?_cons_zero, List.getElem?_cons_succ] at x13c0 x13c1 x13c2 x13c3
    have x13l := x13.lt
    go_wp2_with (fail)
    obtain ⟨⟨y, ey⟩, hgy⟩ : ∃ r, r = gWrite x ot e := ⟨_, rfl⟩
    have hsm := write_small x ot e
    rw [← hgy] at hsm
    obtain ⟨hyy1, hyy2⟩ := hsm
    have HGY := Lib.hid hgy
    dsimp only at hyy1 hyy2
    clear hgy
    have K : Calls Try.prog 32 #[.agg #[.slice S13 x.secs.length s13, .slice P13 x.pend.length p13, .int .i64 x.left, .bool x.stop], .int .i64 ot, .slice A4 e.length c4] wc (DkIs n₀ wc ((y, ey))) := by rw [HGY.out]; exact write_t S13 P13 A4 s13 p13 c4 x ot e wc (by omega) (by omega) hel2 hs13 r13 q13 b4
    go_at_call 32
    refine K.mono ?_
    rintro e w9 ⟨v19, rfl, ⟨S19, s19, P19, p19, rfl, hs19, hp19, r19, q19⟩, hb⟩
    clear K
    replace r0 := r0.below hb
    replace q0 := q0.below hb
    replace b3 := b3.below hb
    replace b4 := b4.below hb
    replace b11 := b11.below hb
    replace r13 := r13.below hb
    replace q13 := q13.below hb
    replace b15 := b15.below hb
    replace b17 := b17.below hb
    replace x5 := x5.below hb x5.lt
    replace x13 := x13.below hb x13.lt
    replace hw := hw.trans (hb.mono hw.size)
    clear x13c0 x13c1 x13c2 x13c3 x13l
    clear hb
    go_upto_region 14 with (fail)
    obtain ⟨W10, hW10⟩ : ∃ W, W = w9.alloc (.cells #[.slice S19 y.secs.length s19, .slice P19 y.pend.length p19, .int .i64 y.left, .bool y.stop] 25) := ⟨_, rfl⟩
    rw [← hW10]
    have hb : Below w9.heap.size w9 W10 := by rw [hW10]; exact (Below.refl _ _).alloc (Nat.le_refl _) _
    have x19 : Blk W10 w9.heap.size 25 #[.slice S19 y.secs.length s19, .slice P19 y.pend.length p19, .int .i64 y.left, .bool y.stop] := by rw [hW10]; exact Blk.new w9 25 _
    clear hW10
    replace r0 := r0.below hb
    replace q0 := q0.below hb
    replace b3 := b3.below hb
    replace b4 := b4.below hb
    replace b11 := b11.below hb
    replace r13 := r13.below hb
    replace q13 := q13.below hb
    replace b15 := b15.below hb
    replace b17 := b17.below hb
    replace r19 := r19.below hb
    replace q19 := q19.below hb
    replace x5 := x5.below hb x5.lt
    replace x13 := x13.below hb x13.lt
    replace hw := hw.trans (hb.mono hw.size)
    clear hb
    by_cases hp4 : x.pend.length = 4096
    case pos =>
      have h1 := HGY.out
      rw [gWrite_lim ⟨HRX.out, o0, o1⟩ (by omega) hp4] at h1
      obtain rfl : ey = 2 := congrArg Prod.snd h1
      clear h1 hp4
      go_wp2
      go_ret
      exact ⟨rfl, hw⟩
    have h1 := HGY.out
    rw [gWrite_ok ⟨HRX.out, o0, o1⟩ (by omega) hp4] at h1
    obtain rfl : ey = 0 := congrArg Prod.snd h1
    have h2 : y = { x with pend := x.pend ++ [⟨ot, pad e⟩] } := congrArg Prod.fst h1
    obtain ⟨hry, hys, hyp⟩ := reads_y HRX.out o0 o1 he2 hp4 h2
    have HRY := Lib.hid hry
    have HYS := Lib.hid hys
    have hyp2 : y.pend.length ≤ 4096 := hry.1.2.2.1
    have hys2 : y.secs.length ≤ 9000 := by omega
    clear h1 h2 hp4 hry hys hyp
    obtain ⟨⟨z, ez⟩, hgz⟩ : ∃ r, r = gSync y := ⟨_, rfl⟩
    have HGZ := Lib.hid hgz
    clear hgz
    have x19c0 := x19.cell 0
    have x19c1 := x19.cell 1
    have x19c2 := x19.cell 2
    have x19c3 := x19.cell 3
    simp only [List.getElem?_toArray, List.getElem?_cons_zero, List.getElem?_cons_succ] at x19c0 x19c1 x19c2 x19c3
    have x19l := x19.lt
    go_wp2_with (fail)
    have K : Calls Try.prog 36 #[.agg #[.slice S19 y.secs.length s19, .slice P19 y.pend.length p19, .int .i64 y.left, .bool y.stop]] W10 (DkIs n₀ W10 ((z, ez))) := by rw [HGZ.out]; exact sync_t S19 P19 s19 p19 y W10 (by omega) (by omega) hp19 r19 q19
    go_at_call 36
    refine K.mono ?_
    rintro e w11 ⟨v21, rfl, ⟨S21, s21, P21, p21, rfl, hs21, hp21, r21, q21⟩, hb⟩
    clear K
    replace r0 := r0.below hb
    replace q0 := q0.below hb
    replace b3 := b3.below hb
    replace b4 := b4.below hb
    replace b11 := b11.below hb
    replace r13 := r13.below hb
    replace q13 := q13.below hb
    replace b15 := b15.below hb
    replace b17 := b17.below hb
    replace r19 := r19.below hb
    replace q19 := q19.below hb
    replace x5 := x5.below hb x5.lt
    replace x13 := x13.below hb x13.lt
    replace x19 := x19.below hb x19.lt
    replace hw := hw.trans (hb.mono hw.size)
    clear x19c0 x19c1 x19c2 x19c3 x19l
    clear hb
    go_upto_region 17 with (fail)
    obtain ⟨W12, hW12⟩ : ∃ W, W = w11.alloc (.cells #[.slice S21 z.secs.length s21, .slice P21 z.pend.length p21, .int .i64 z.left, .bool z.stop] 25) := ⟨_, rfl⟩
    rw [← hW12]
    have hb : Below w11.heap.size w11 W12 := by rw [hW12]; exact (Below.refl _ _).alloc (Nat.le_refl _) _
    have x21 : Blk W12 w11.heap.size 25 #[.slice S21 z.secs.length s21, .slice P21 z.pend.length p21, .int .i64 z.left, .bool z.stop] := by rw [hW12]; exact Blk.new w11 25 _
    clear hW12
    replace r0 := r0.below hb
    replace q0 := q0.below hb
    replace b3 := b3.below hb
    replace b4 := b4.below hb
    replace b11 := b11.below hb
    replace r13 := r13.below hb
    replace q13 := q13.below hb
    replace b15 := b15.below hb
    replace b17 := b17.below hb
    replace r19 := r19.below hb
    replace q19 := q19.below hb
    replace r21 := r21.below hb
    replace q21 := q21.below hb
    replace x5 := x5.below hb x5.lt
    replace x13 := x13.below hb x13.lt
    replace x19 := x19.below hb x19.lt
    replace hw := hw.trans (hb.mono hw.size)
    clear hb
    by_cases k5 : 0 ≤ y.left ∧ y.left < y.pend.length
    case pos =>
      have h1 := HGZ.out
      rw [gSync_torn HRY.out k5] at h1
      obtain rfl : ez = 40 := congrArg Prod.snd h1
      have hz : z.stop = true := by rw [show z = _ from congrArg Prod.fst h1]
      clear h1 k5
      have x21c0 := x21.cell 0
      have x21c1 := x21.cell 1
      have x21c2 := x21.cell 2
      have x21c3 := x21.cell 3
      simp only [List.getElem?_toArray, List.getElem?_cons_zero, List.getElem?_cons_succ] at x21c0 x21c1 x21c2 x21c3
      have x21l := x21.lt
      rw [hz] at x21c3
      go_wp2
      go_ret
      exact ⟨rfl, hw⟩
    have h1 := HGZ.out
    rw [gSync_ok HRY.out k5] at h1
    obtain rfl : ez = 0 := congrArg Prod.snd h1
    have hz : z = syncD y := congrArg Prod.fst h1
    have hrz : Runs z := by rw [hz]; exact sync_runs HRY.out k5
    have hzs : z.secs.length = y.secs.length := by rw [hz]; exact perfL_len _ _
    have hzp : z.pend = [] := by rw [hz]; rfl
    have hzr : ∀ k : Int, gRead z k = gRead y k := fun k => by rw [hz]; exact sync_read HRY.out k5 k
    have HRZ := Lib.hid hrz
    have HZS := Lib.hid hzs
    have HZP := Lib.hid hzp
    have HZR := Lib.hid hzr
    have hzs2 : z.secs.length ≤ 9000 := by omega
    have hzp2 : z.pend.length = 0 := by rw [hzp]; rfl
    have hzp3 : z.pend.length ≤ 9000 := by omega
    clear h1 k5 hz hrz hzs hzp hzr hzp2
    have x5c0 := x5.cell 0
    have x5c1 := x5.cell 1
    have x5c2 := x5.cell 2
    have x5c3 := x5.cell 3
    simp only [List.getElem?_toArray, List.getElem?_cons_zero, List.getElem?_cons_succ] at x5c0 x5c1 x5c2 x5c3
    have x5l := x5.lt
    go_wp2_with (fail)
    go_loopw [23] (fun v wr => ∃ k : Nat, k ≤ d.secs.length ∧ v = .int .i64 k ∧ Below W12.heap.size W12 wr) (fun v _ => d.secs.length - (intOf v).toNat)
    case atStart => exact ⟨0, by omega, rfl, Below.refl _ _⟩
    case round =>
      obtain ⟨k, hk, rfl, hwr⟩ := hrel
      have hwr0 := hwr
      replace r0 := r0.below hwr
      replace q0 := q0.below hwr
      replace b3 := b3.below hwr
      replace b4 := b4.below hwr
      replace b11 := b11.below hwr
      replace r13 := r13.below hwr
      replace q13 := q13.below hwr
      replace b15 := b15.below hwr
      replace b17 := b17.below hwr
      replace r19 := r19.below hwr
      replace q19 := q19.below hwr
      replace r21 := r21.below hwr
      replace q21 := q21.below hwr
      replace x5 := x5.below hwr x5.lt
      replace x13 := x13.below hwr x13.lt
      replace x19 := x19.below hwr x19.lt
      replace x21 := x21.below hwr x21.lt
      replace hw := hw.trans (hwr.mono hw.size)
      clear x5c0 x5c1 x5c2 x5c3 x5l
      clear hwr
      have x5c0 := x5.cell 0
      have x5c1 := x5.cell 1
      have x5c2 := x5.cell 2
      have x5c3 := x5.cell 3
      simp only [List.getElem?_toArray, List.getElem?_cons_zero, List.getElem?_cons_succ] at x5c0 x5c1 x5c2 x5c3
      have x5l := x5.lt
      by_cases hlt : k < d.secs.length
      case pos =>
        have ky : Runs y ∧ 0 ≤ (k : Int) ∧ (k : Int) < y.secs.length := ⟨HRY.out, by omega, by rw [HYS.out, HXS.out]; omega⟩
        obtain ⟨rk, hrk, hrl⟩ : ∃ rk, gRead y k = (rk, 0) ∧ rk.length = 128 := ⟨_, gRead_ok ky, by have := read_len ky; rw [gRead_ok ky] at this; exact this⟩
        have HRK := Lib.hid hrk
        have HRL := Lib.hid hrl
        clear hrk hrl ky
        have x19c0 := x19.cell 0
        have x19c1 := x19.cell 1
        have x19c2 := x19.cell 2
        have x19c3 := x19.cell 3
        simp only [List.getElem?_toArray, List.getElem?_cons_zero, List.getElem?_cons_succ] at x19c0 x19c1 x19c2 x19c3
        have x19l := x19.lt
        go_wp2_with (fail)
        have K : Calls Try.prog 34 #[.agg #[.slice S19 y.secs.length s19, .slice P19 y.pend.length p19, .int .i64 y.left, .bool y.stop], .int .i64 k] wr (RdIs n₀ wr ((rk, 0))) := by rw [← HRK.out]; exact read_t S19 P19 s19 p19 y k wr (by omega) (by omega) r19 q19
        go_at_call 34
        refine K.mono ?_
        intro e w13 hx
        obtain ⟨A24, c24, rfl, hc24, b24, hb⟩ := rd128 hx HRL.out
        clear hx
        clear K
        replace r0 := r0.below hb
        replace q0 := q0.below hb
        replace b3 := b3.below hb
        replace b4 := b4.below hb
        replace b11 := b11.below hb
        replace r13 := r13.below hb
        replace q13 := q13.below hb
        replace b15 := b15.below hb
        replace b17 := b17.below hb
        replace r19 := r19.below hb
        replace q19 := q19.below hb
        replace r21 := r21.below hb
        replace q21 := q21.below hb
        replace x5 := x5.below hb x5.lt
        replace x13 := x13.below hb x13.lt
        replace x19 := x19.below hb x19.lt
        replace x21 := x21.below hb x21.lt
        replace hw := hw.trans (hb.mono hw.size)
        replace hwr0 := hwr0.trans (hb.mono hwr0.size)
        clear x5c0 x5c1 x5c2 x5c3 x5l x19c0 x19c1 x19c2 x19c3 x19l
        clear hb
        have x21c0 := x21.cell 0
        have x21c1 := x21.cell 1
        have x21c2 := x21.cell 2
        have x21c3 := x21.cell 3
        simp only [List.getElem?_toArray, List.getElem?_cons_zero, List.getElem?_cons_succ] at x21c0 x21c1 x21c2 x21c3
        have x21l := x21.lt
        go_wp2_with (fail)
        have K : Calls Try.prog 34 #[.agg #[.slice S21 z.secs.length s21, .slice P21 z.pend.length p21, .int .i64 z.left, .bool z.stop], .int .i64 k] w13 (RdIs n₀ w13 ((rk, 0))) := by rw [← HRK.out, ← HZR.out]; exact read_t S21 P21 s21 p21 z k w13 (by omega) (by omega) r21 q21
        go_at_call 34
        refine K.mono ?_
        intro e w14 hx
        obtain ⟨A26, c26, rfl, hc26, b26, hb⟩ := rd128 hx HRL.out
        clear hx
        clear K
        replace r0 := r0.below hb
        replace q0 := q0.below hb
        replace b3 := b3.below hb
        replace b4 := b4.below hb
        replace b11 := b11.below hb
        replace r13 := r13.below hb
        replace q13 := q13.below hb
        replace b15 := b15.below hb
        replace b17 := b17.below hb
        replace r19 := r19.below hb
        replace q19 := q19.below hb
        replace r21 := r21.below hb
        replace q21 := q21.below hb
        replace b24 := b24.below hb
        replace x5 := x5.below hb x5.lt
        replace x13 := x13.below hb x13.lt
        replace x19 := x19.below hb x19.lt
        replace x21 := x21.below hb x21.lt
        replace hw := hw.trans (hb.mono hw.size)
        replace hwr0 := hwr0.trans (hb.mono hwr0.size)
        clear x21c0 x21c1 x21c2 x21c3 x21l
        clear hb
        have cv1 := conv_bs b24 c24
        have cv2 := conv_bs b26 c26
        rw [HRL.out] at cv1 cv2
        go_wp2
        go_roundw
        case rel => exact ⟨k + 1, by omega, by go_num, hwr0⟩
        case measure => simp [intOf]; omega
      case neg =>
        obtain rfl : k = d.secs.length := by omega
        clear hlt hwr0
        have x21c0 := x21.cell 0
        have x21c1 := x21.cell 1
        have x21c2 := x21.cell 2
        have x21c3 := x21.cell 3
        simp only [List.getElem?_toArray, List.getElem?_cons_zero, List.getElem?_cons_succ] at x21c0 x21c1 x21c2 x21c3
        have x21l := x21.lt
        have hzp4 : ((z.pend.length : Int) == 0) = true := by rw [HZP.out]; rfl
        go_wp2_with (fail)
        have K : Calls Try.prog 28 #[.agg #[.slice S21 z.secs.length s21, .slice P21 z.pend.length p21, .int .i64 z.left, .bool z.stop]] wr (fun e w' => e = .returned (.int .i64 0) ∧ Below wr.heap.size wr w') := by have h1 := check_t S21 P21 s21 p21 z wr (by omega) (by omega) r21 q21; rw [chk_yes HRZ.out.1] at h1; exact h1
        go_at_call 28
        refine K.mono ?_
        rintro e1 w13 ⟨rfl, hb⟩
        clear K
        replace r0 := r0.below hb
        replace q0 := q0.below hb
        replace b3 := b3.below hb
        replace b4 := b4.below hb
        replace b11 := b11.below hb
        replace r13 := r13.below hb
        replace q13 := q13.below hb
        replace b15 := b15.below hb
        replace b17 := b17.below hb
        replace r19 := r19.below hb
        replace q19 := q19.below hb
        replace r21 := r21.below hb
        replace q21 := q21.below hb
        replace x5 := x5.below hb x5.lt
        replace x13 := x13.below hb x13.lt
        replace x19 := x19.below hb x19.lt
        replace x21 := x21.below hb x21.lt
        replace hw := hw.trans (hb.mono hw.size)
        clear x5c0 x5c1 x5c2 x5c3 x5l x21c0 x21c1 x21c2 x21c3 x21l
        clear hb
        go_wp2
        go_ret
        exact ⟨rfl, hw⟩
end Go.Proofs.Ytckeopidedoohaa
