/-
  RecorderDivided walked: it answers true. Conditions: arguments of at most 1048576 values.
-/
import Derived.Test.YtckeopidedoohaaRsn
import Derived.Deep.CutBlock
import Derived.Deep.DeepCutAuto
import Derived.Deep.RegionWith
namespace Go.Proofs.Ytckeopidedoohaa
open Go.RowKit
variable {n₀ : Nat}
attribute [local go_sem] Oper.semAt_some

/-- The law answers true, and leaves alone what lay. -/
def YesV (w : World) (e : Ending) (w' : World) : Prop := e = .returned (.bool true) ∧ Below w.heap.size w w'
/-- An address at which numbers of 32 bits lie. -/
def W32At (w : World) (A : Option Addr) (xs : List Int) : Prop := 0 < xs.length → ∃ b o, A = some ⟨b, o, none⟩ ∧ b < w.heap.size ∧ ∀ i, i < xs.length → w.cell? ⟨b, o + i, none⟩ = some (.int .i32 (xs.getD i 0))
def d60 : Dk := ⟨List.replicate 60 zs, [], -1, false⟩
theorem d60_new : gNew 60 = (d60, 0) := by unfold gNew; rw [if_neg (by decide)]; rfl
theorem d60_good : GoodD d60 60 [] 1 := good_new (by decide) (by decide)
theorem d60_open : rOpn d60 = ((⟨[], 60, 0⟩, []), 0) := rOpn_good d60_good rfl
theorem used_short {rs : List Bs} (h : ∀ b ∈ rs, b.length ≤ 64) : usedN rs = rs.length := by
  induction rs with
  | nil => rfl
  | cons b rs ih =>
    have h1 := h b List.mem_cons_self
    have h2 : secN b = 1 := by unfold secN; omega
    rw [usedN_cons, ih (fun x hx => h x (List.mem_cons_of_mem _ hx)), List.length_cons, h2]
    omega
/-- Records that hold the first samples. -/
structure Dv (xs : List Int) (rs : List Bs) (at_ : Nat) : Prop where
  right : rs.all rRight = true
  smp : rs.flatMap smpL = xs.take at_
  len : rs.length ≤ at_
  short : ∀ b ∈ rs, b.length ≤ 64
theorem Dv.val {xs : List Int} {rs : List Bs} {at_ : Nat} (h : Dv xs rs at_) (ha : at_ ≤ 60) : JVal ⟨rs, 60, 0⟩ := by
  have := h.len
  refine ⟨by dsimp only; omega, by dsimp only; omega, by dsimp only; omega, by dsimp only; omega, ?_⟩
  dsimp only
  rw [used_short h.short]
  omega
theorem Dv.sm {xs : List Int} {rs : List Bs} {at_ : Nat} (h : Dv xs rs at_) (ha : at_ ≤ 60) : Sm rs := ⟨by have := h.len; omega, fun b hb => by have := h.short b hb; omega⟩
theorem Dv.step {xs : List Int} {rs : List Bs} {at_ m : Nat} (h : Dv xs rs at_) (ha : at_ ≤ 50) (h1 : 1 ≤ m) (h2 : m ≤ 16) (h3 : at_ + m ≤ xs.length) (hv : ∀ v ∈ xs, OkV v) :
    ((xs.drop at_).take m).length = m ∧ rWrite ⟨rs, 60, 0⟩ ((xs.drop at_).take m) = (⟨rs ++ [encB ((xs.drop at_).take m)], 60, 0⟩, 0) ∧ Dv xs (rs ++ [encB ((xs.drop at_).take m)]) (at_ + m) := by
  have hl : ((xs.drop at_).take m).length = m := by rw [List.length_take, List.length_drop]; omega
  have hb : OkB ((xs.drop at_).take m) := ⟨by omega, by omega, fun v hx => hv v (List.mem_of_mem_drop (List.mem_of_mem_take hx))⟩
  obtain ⟨l, hl2⟩ : ∃ l, l = (xs.drop at_).take m := ⟨_, rfl⟩
  have hval := h.val (by omega)
  have hel : (encB l).length ≤ 64 := by rw [encB_len, hl2, hl]; omega
  have hsc : secN (encB l) = 1 := by unfold secN; omega
  have hd : (rData ⟨rs, 60, 0⟩).2 = 0 := by rw [rData_ok hval, rdR_ok h.right]
  refine ⟨hl, ?_, ?_, ?_, ?_, ?_⟩
  · rw [rWrite_ok hd hb, gApp_ok hval]
    dsimp only
    rw [used_short h.short, ← hl2, hsc]
    have := h.len
    omega
  · exact (rdR_snoc h.right (right_enc (by omega) (by omega))).1
  · rw [List.flatMap_append, h.smp]
    have e : [encB ((xs.drop at_).take m)].flatMap smpL = (xs.drop at_).take m := by rw [List.flatMap_cons, List.flatMap_nil, List.append_nil, smpL_enc hb.2.2]
    rw [e, ← List.take_add]
  · rw [List.length_append, List.length_singleton]
    have := h.len
    omega
  · intro b hb'
    rcases List.mem_append.1 hb' with hb' | hb'
    · exact h.short b hb'
    · rw [List.mem_singleton.1 hb', ← hl2]; exact hel
theorem nums_part {w : World} {b o : Nat} {xs : List Int} (h : NumsAt n₀ w (some ⟨b, o, none⟩) xs) (k m : Nat) (hk : k + m ≤ xs.length) : NumsAt n₀ w (some ⟨b, o + k, none⟩) ((xs.drop k).take m) := fun h0 => by
  rw [List.length_take, List.length_drop] at h0
  obtain ⟨b', o', e, hl, hc⟩ := h (by omega)
  cases e
  refine ⟨b, o + k, rfl, hl, fun i hi => ?_⟩
  rw [List.length_take, List.length_drop] at hi
  rw [Nat.add_assoc, hc (k + i) (by omega)]
  congr 2
  rw [List.getD_eq_getElem?_getD, List.getD_eq_getElem?_getD, List.getElem?_take, if_pos (by omega), List.getElem?_drop]
theorem dv_sync {xs : List Int} {rs : List Bs} (h : Dv xs rs xs.length) (hl : xs.length ≤ 50) : ∃ y, rSyn ⟨rs, 60, 0⟩ d60 = ((⟨rs, 60, rs.length⟩, y), 0) ∧ GoodD y 60 rs 2 ∧ rOpn y = ((⟨rs, 60, rs.length⟩, xs), 0) := by
  have hval := h.val (by omega)
  obtain ⟨y, h1, h2⟩ := sv_run (rs := rs) d60_good (by decide) rfl (Nat.zero_le _) hval
  refine ⟨y, by rw [rSyn_ok (by rw [rData_ok hval, rdR_ok h.right])]; exact h1, h2, rOpn_good h2 ?_⟩
  rw [rdR_ok h.right, h.smp, List.take_length]
theorem put3V {W : World} {B : Nat} {a0 a1 a2 b0 b1 b2 : Value} (h : Blk W B 55 #[a0, a1, a2]) : Blk (((W.setCell ⟨B, 0, none⟩ b0).setCell ⟨B, 1, none⟩ b1).setCell ⟨B, 2, none⟩ b2) B 55 #[b0, b1, b2] := by simpa using ((h.set 0 b0).set 1 b1).set 2 b2
def DvX (n₀ : Nat) (rs2 : List Bs) (wr : World) (s16 s17 : Value) (wx : World) : Prop := ∃ B16 A9 c9, s16 = .pointer (some ⟨B16, 0, none⟩) ∧ s17 = .int .i64 0 ∧ wr.heap.size ≤ B16 ∧ Blk wx B16 55 #[.slice A9 rs2.length c9, .int .i64 60, .int .i64 0] ∧ rs2.length ≤ c9 ∧ RowsAt n₀ wx A9 rs2 ∧ Below wr.heap.size wr wx
theorem dvx_new {rs2 : List Bs} {wr w9 : World} {A9 : Option Addr} {c9 : Nat} (h9 : Below wr.heap.size wr w9) (hc9 : rs2.length ≤ c9) (r9 : RowsAt n₀ w9 A9 rs2) :
    DvX n₀ rs2 wr (.pointer (some ⟨w9.heap.size, 0, none⟩)) (.int .i64 0) (w9.alloc (.cells #[.slice A9 rs2.length c9, .int .i64 60, .int .i64 0] 55)) :=
  ⟨w9.heap.size, A9, c9, rfl, rfl, h9.size, Blk.new w9 55 _, hc9, r9.below ((Below.refl _ _).alloc (Nat.le_refl _) _), h9.alloc h9.size _⟩
theorem dvx_old {rs2 : List Bs} {wr w9 : World} {A9 : Option Addr} {c9 : Nat} (hn : n₀ ≤ wr.heap.size) (h9 : Below wr.heap.size wr w9) (hc9 : rs2.length ≤ c9) (r9 : RowsAt n₀ w9 A9 rs2) (t9 : Blk w9 wr.heap.size 55 #[.slice none 0 0, .int .i64 0, .int .i64 0]) :
    DvX n₀ rs2 wr (.pointer (some ⟨wr.heap.size, 0, none⟩)) (.int .i64 0) (((w9.setCell ⟨wr.heap.size, 0, none⟩ (.slice A9 rs2.length c9)).setCell ⟨wr.heap.size, 1, none⟩ (.int .i64 60)).setCell ⟨wr.heap.size, 2, none⟩ (.int .i64 0)) := by
  obtain ⟨W, hW⟩ : ∃ W, W = ((w9.setCell ⟨wr.heap.size, 0, none⟩ (.slice A9 rs2.length c9)).setCell ⟨wr.heap.size, 1, none⟩ (.int .i64 60)).setCell ⟨wr.heap.size, 2, none⟩ (.int .i64 0) := ⟨_, rfl⟩
  rw [← hW]
  have hk : Keep (fun r => r = wr.heap.size) w9 W := by rw [hW]; repeat (first | with_reducible exact Keep.refl _ _ | refine Keep.setCell ?_ (fun _ => by simp) _)
  have hm := Boxes.one (n₀ := n₀) t9 rfl hn
  exact ⟨wr.heap.size, A9, c9, rfl, rfl, Nat.le_refl _, by rw [hW]; exact put3V t9, hc9, r9.keep hk hm, h9.trans (hk.below h9.size (fun r hr h => by omega))⟩
/-- What the law holds between two blocks. -/
def DvI (n₀ : Nat) (xs : List Int) (V : Option Addr) (S : Option Addr) (s5 : Nat) (P5 : Option Addr) (p5 : Nat) (w : World) (B5 B7 at_ : Nat) (W : World) : Prop :=
  ∃ rs A c, Dv xs rs at_ ∧ Blk W B7 55 #[.slice A (List.length rs) c, .int .i64 60, .int .i64 0] ∧ rs.length ≤ c ∧ RowsAt n₀ W A rs ∧ NumsAt n₀ W V xs ∧ Blk W B5 25 #[.slice S 60 s5, .slice P5 0 p5, .int .i64 (-1), .bool false] ∧ RowsAt n₀ W S d60.secs ∧ Below w.heap.size w W

set_option maxRecDepth 20000 in
set_option maxHeartbeats 8000000 in
theorem recorderDivided_t (DA SA : Option Addr) (dc sc : Nat) (xs : List Int) (ss : Bs) (w : World) (hn : n₀ ≤ w.heap.size) (hv : ∀ v ∈ xs, OkV v) (hxl : xs.length ≤ 1048576) (hsl : ss.length ≤ 1048576) (h0 : W32At w DA xs) (h1 : BsAt n₀ w SA ss) :
    Calls Try.prog 17 #[.slice DA xs.length dc, .slice SA ss.length sc] w (YesV w) := by
  have HV := Lib.hid hv
  have H0 := Lib.hid h0
  have H1 := Lib.hid h1
  clear hv h0 h1
  obtain ⟨n, hnx⟩ : ∃ n, n = xs.length := ⟨_, rfl⟩
  rw [← hnx] at hxl ⊢
  have HN := Lib.hid hnx
  clear hnx
  obtain ⟨ns, hns⟩ : ∃ n, n = ss.length := ⟨_, rfl⟩
  rw [← hns] at hsl ⊢
  have HNS := Lib.hid hns
  clear hns
  obtain ⟨i0, hi0, hz0, hz1, hz2⟩ := info_parts info3r
  go_enter Try.func17, Try.ntmps17
  go_wp2_with (fail)
  have K : Calls Try.prog 57 #[] w (fun e w' => e = .returned (.bool true) ∧ Below w.heap.size w w') := rsane_t w
  go_at_call 57
  refine K.mono ?_
  rintro e w1 ⟨rfl, hb⟩
  clear K
  have hw := hb
  clear hb
  go_wp2_with (fail)
  have K : Calls Try.prog 25 #[.int .i64 60] w1 (fun e w' => ∃ S s P p, e = .returned (.tuple #[.agg #[.slice S 60 s, .slice P 0 p, .int .i64 (-1), .bool false], .int .i64 0]) ∧ 60 ≤ s ∧ RowsAt n₀ w' S d60.secs ∧ Below w1.heap.size w1 w') := (by have h := new_t (n₀ := n₀) 60 w1; rw [d60_new] at h; exact h.mono fun e w9 hx => by obtain ⟨v, rfl, ⟨S, s, P, p, rfl, h1, h2, h3, h4⟩, h5⟩ := hx; exact ⟨S, s, P, p, rfl, h1, h3, h5⟩)
  go_at_call 25
  refine K.mono ?_
  rintro e w2 ⟨S5, s5, P5, p5, rfl, hs5, r5, hb⟩
  clear K
  replace hw := hw.trans (hb.mono hw.size)
  clear hb
  go_upto_region 4 with (fail)
  have hB5w : w.heap.size ≤ w2.heap.size := hw.size
  obtain ⟨W3, hW3⟩ : ∃ W, W = w2.alloc (.cells #[.slice S5 60 s5, .slice P5 0 p5, .int .i64 (-1), .bool false] 25) := ⟨_, rfl⟩
  rw [← hW3]
  have hb : Below w2.heap.size w2 W3 := by rw [hW3]; exact (Below.refl _ _).alloc (Nat.le_refl _) _
  have x5 : Blk W3 w2.heap.size 25 #[.slice S5 60 s5, .slice P5 0 p5, .int .i64 (-1), .bool false] := by rw [hW3]; exact Blk.new w2 25 _
  clear hW3
  replace r5 := r5.below hb
  replace hw := hw.trans (hb.mono hw.size)
  clear hb
  by_cases k1 : 50 < n
  case pos =>
    have d1 : decide (50 < (n : Int)) = true := decide_eq_true (by omega)
    have d1n : decide (50 < n) = true := decide_eq_true k1
    clear k1
    go_wp2
    go_ret
    exact ⟨rfl, hw⟩
  by_cases k2 : 50 < ns
  case pos =>
    have d1 : decide (50 < (ns : Int)) = true := decide_eq_true (by omega)
    have d1n : decide (50 < ns) = true := decide_eq_true k2
    have d2 : decide (50 < (n : Int)) = false := decide_eq_false (by omega)
    have d2n : decide (50 < n) = false := decide_eq_false k1
    clear k2
    go_wp2
    go_ret
    exact ⟨rfl, hw⟩
  have d1 : decide (50 < (n : Int)) = false := decide_eq_false (by omega)
  have d1n : decide (50 < n) = false := decide_eq_false k1
  have d2 : decide (50 < (ns : Int)) = false := decide_eq_false (by omega)
  have d2n : decide (50 < ns) = false := decide_eq_false k2
  have x5c0 := x5.cell 0
  have x5c1 := x5.cell 1
  have x5c2 := x5.cell 2
  have x5c3 := x5.cell 3
  simp only [List.getElem?_toArray, List.getElem?_cons_zero, List.getElem?_cons_succ] at x5c0 x5c1 x5c2 x5c3
  have x5l := x5.lt
  go_wp2_with (fail)
  have K : Calls Try.prog 58 #[.agg #[.slice S5 60 s5, .slice P5 0 p5, .int .i64 (-1), .bool false]] W3 (fun e w' => ∃ A c V cv, e = .returned (.tuple #[.agg #[.slice A 0 c, .int .i64 60, .int .i64 0], .slice V 0 cv, .int .i64 0]) ∧ Below W3.heap.size W3 w') := (by have h := ropen_t (n₀ := n₀) S5 P5 s5 p5 d60 W3 (Nat.le_trans hn hw.size) (by decide) (by decide) r5 (WrsAt.nil _ _); rw [d60_open] at h; exact (show Calls Try.prog 58 #[.agg #[.slice S5 60 s5, .slice P5 0 p5, .int .i64 (-1), .bool false]] W3 (RoIs n₀ W3 ((⟨[], 60, 0⟩, []), 0)) from h).mono fun e w9 hx => by obtain ⟨A, c, V, cv, h1, -, -, -, -, h5⟩ := ro_out hx; exact ⟨A, c, V, cv, h1, h5⟩)
  go_at_call 58
  refine K.mono ?_
  rintro e w4 ⟨A7, c7, V7, cv7, rfl, hb⟩
  clear K
  replace r5 := r5.below hb
  replace x5 := x5.below hb x5.lt
  replace hw := hw.trans (hb.mono hw.size)
  clear x5c0 x5c1 x5c2 x5c3 x5l
  clear hb
  clear d1 d1n d2 d2n
  go_upto_region 7 with (fail)
  have hB57 : w2.heap.size < w4.heap.size := x5.lt
  obtain ⟨W5, hW5⟩ : ∃ W, W = w4.alloc (.cells #[.slice A7 0 c7, .int .i64 60, .int .i64 0] 55) := ⟨_, rfl⟩
  rw [← hW5]
  have hb : Below w4.heap.size w4 W5 := by rw [hW5]; exact (Below.refl _ _).alloc (Nat.le_refl _) _
  have x7 : Blk W5 w4.heap.size 55 #[.slice A7 0 c7, .int .i64 60, .int .i64 0] := by rw [hW5]; exact Blk.new w4 55 _
  clear hW5
  replace r5 := r5.below hb
  replace x5 := x5.below hb x5.lt
  replace hw := hw.trans (hb.mono hw.size)
  clear hb
  obtain ⟨B5, hB5⟩ : ∃ B, B = w2.heap.size := ⟨_, rfl⟩
  obtain ⟨B7, hB7⟩ : ∃ B, B = w4.heap.size := ⟨_, rfl⟩
  have hl5 := x5.lt
  have hl7 := x7.lt
  rw [← hB5] at x5 hl5 hB5w hB57 ⊢
  rw [← hB7] at x7 hl7 hB57 ⊢
  have HB5 := Lib.hid hB5
  have HB7 := Lib.hid hB7
  clear hB5 hB7
  go_wp2_with (fail)
  go_loopw [10, 54] (fun v10 v54 wr => ∃ i : Nat, i ≤ n ∧ v54 = .int .i64 i ∧ wr.ownsRow W5.heap.size 3 1 v10 i (icells (xs.take i)) ∧ Below W5.heap.size W5 wr) (fun _ v54 _ => n - (intOf v54).toNat)
  case atStart => exact ⟨0, by omega, rfl, World.ownsRow_nil _ _ _ _, Below.refl _ _⟩
  case round =>
    obtain ⟨i, hi, rfl, ho, hb⟩ := hrel
    by_cases hlt : i < n
    case pos =>
      obtain ⟨b, o, rfl, lb, hc⟩ := H0.out (by rw [← HN.out]; omega)
      have hwr := hw.trans (hb.mono hw.size)
      have z0 := (hwr.cell (p := ⟨b, o + i, none⟩) lb).trans (hc i (by rw [← HN.out]; exact hlt))
      have hts := take_smp (l := xs) (k := i) (by rw [← HN.out]; exact hlt)
      obtain ⟨v, hvd⟩ : ∃ v, v = xs.getD i 0 := ⟨_, rfl⟩
      have hvm : OkV v := HV.out v (by rw [hvd, List.getD_eq_getElem?_getD, List.getElem?_eq_getElem (by rw [← HN.out]; exact hlt)]; exact List.getElem_mem _)
      rw [← hvd] at z0 hts
      have HTS := Lib.hid hts
      obtain ⟨v1, v2⟩ := hvm
      have i0' : (0 : Int) ≤ (i : Int) := by omega
      have i1 : (i : Int) < (n : Int) := by omega
      clear hc hvd hts hwr
      have hbs := hb.size
      skip
      go_wp2_with (at_builtin; refine wpList_append_own _ rfl (.tmp 58) (.tmp 61) 67 rfl W5.heap.size 3 i0 (.int .i64 0) 1 8 Try.underlying67 hi0 hz0 hz1 hz2 rfl (by decide) u10 i (icells (xs.take i)) rfl (ho.alloc _) ⟨wr.heap.size, 0, none⟩ 1 1 [.int .i64 v] rfl rfl (cell_new1 wr _ _) (by simp [Value.oneCell']) (by simp [maxLen]; omega) (by omega) (by simp <;> omega) ?_; intro v7 w7 hown7 hgrow7 _)
      have b7 : Below W5.heap.size W5 w7 := (hb.alloc hbs (.cells #[.int .i64 v] 3)).grown hgrow7 (by simp <;> omega) (own_base ho)
      have e8 : icells (xs.take i) ++ [.int .i64 v] = icells (xs.take (i + 1)) := by rw [HTS.out, icells_append]; rfl
      rw [e8] at hown7
      go_roundw
      case rel => exact ⟨i + 1, by omega, by go_num, hown7, b7⟩
      case measure => simp [intOf]; omega
    have hin : i = n := by omega
    have dlt : decide ((i : Int) < (n : Int)) = false := decide_eq_false (by omega)
    have dltn : decide (i < n) = false := decide_eq_false hlt
    rw [hin, HN.out, List.take_length] at ho
    rw [← HN.out] at ho
    obtain ⟨V10, c10, rfl, hc10⟩ := own_slice ho
    have ni := own_nums (n₀ := n₀) ho HN.out
    clear ho hin hi
    replace r5 := r5.below hb
    replace x5 := x5.below hb x5.lt
    replace x7 := x7.below hb x7.lt
    replace hw := hw.trans (hb.mono hw.size)
    clear hb
    go_wp2_with (fail)
    have hbw0 : Below wr.heap.size wr wr := Below.refl _ _
    have hB7s := hl7
    have hB5s := hl5
    go_loopw [13, 14] (fun v13 v14 wx => ∃ (at_ k : Nat), at_ ≤ n ∧ k ≤ at_ ∧ v13 = .int .i64 at_ ∧ v14 = .int .i64 k ∧ DvI n₀ xs V10 S5 s5 P5 p5 w B5 B7 at_ wx) (fun v13 _ _ => n - (intOf v13).toNat)
    case atStart => exact ⟨0, 0, by omega, by omega, rfl, rfl, [], A7, c7, ⟨rfl, rfl, Nat.le_refl _, fun b hb => by cases hb⟩, x7, Nat.zero_le _, RowsAt.nil _ _, ni, x5, r5, hw⟩
    case round =>
      clear x7 ni x5 r5 hw hbw0
      skip
      obtain ⟨at_, k, hat, hk, rfl, rfl, rs, A, c, hdv, x7, hc, rA, ni, x5, r5, hw⟩ := hrel
      have hatl : at_ ≤ 50 := by omega
      have HDV := Lib.hid hdv
      have hrl := hdv.len
      clear hdv
      by_cases hlt2 : at_ < n
      case neg =>
        have hae : at_ = n := by omega
        have hdn : Dv xs rs xs.length := by have h := HDV.out; rw [hae, HN.out] at h; exact h
        obtain ⟨y, y1, y2, y3⟩ := dv_sync hdn (by rw [← HN.out]; omega)
        have HY1 := Lib.hid y1
        have HY2 := Lib.hid y2
        have HY3 := Lib.hid y3
        have hyl : y.secs.length = 60 := y2.len
        have HYL := Lib.hid hyl
        have dlt2 : decide ((at_ : Int) < (n : Int)) = false := decide_eq_false (by omega)
        have dlt2n : decide (at_ < n) = false := decide_eq_false hlt2
        clear hdn y1 y2 y3 hyl hae
        have x7c0 := x7.cell 0
        have x7c1 := x7.cell 1
        have x7c2 := x7.cell 2
        simp only [List.getElem?_toArray, List.getElem?_cons_zero, List.getElem?_cons_succ] at x7c0 x7c1 x7c2
        have x7l := x7.lt
        have x5c0 := x5.cell 0
        have x5c1 := x5.cell 1
        have x5c2 := x5.cell 2
        have x5c3 := x5.cell 3
        simp only [List.getElem?_toArray, List.getElem?_cons_zero, List.getElem?_cons_succ] at x5c0 x5c1 x5c2 x5c3
        have x5l := x5.lt
        go_wp2_with (fail)
        have K : Calls Try.prog 60 #[.agg #[.slice A rs.length c, .int .i64 60, .int .i64 0], .agg #[.slice S5 60 s5, .slice P5 0 p5, .int .i64 (-1), .bool false]] wr (fun e w' => ∃ A cc S s P p, e = .returned (.tuple #[.agg #[.slice A rs.length cc, .int .i64 60, .int .i64 rs.length], .agg #[.slice S 60 s, .slice P 0 p, .int .i64 (-1), .bool false], .int .i64 0]) ∧ 60 ≤ s ∧ RowsAt n₀ w' S y.secs ∧ Below wr.heap.size wr w') := (by have h1 := rsyncR_t (n₀ := n₀) A S5 P5 c s5 p5 ⟨rs, 60, 0⟩ d60 wr (Nat.le_trans hn hw.size) (HDV.out.sm (by omega)) hc (by decide) (by decide) hs5 (Nat.zero_le _) rA r5 (WrsAt.nil _ _); rw [HY1.out] at h1; exact (show Calls Try.prog 60 #[.agg #[.slice A rs.length c, .int .i64 60, .int .i64 0], .agg #[.slice S5 60 s5, .slice P5 0 p5, .int .i64 (-1), .bool false]] wr (JsIs n₀ wr ((⟨rs, 60, rs.length⟩, y), 0)) from h1).mono fun e w9 hx => by obtain ⟨A5, c5, S5, s5, P5, p5, rfl, hc5, r5, hs5, hp5, r5s, q5, hB⟩ := js_out hx; rw [HYL.out] at hs5 ⊢; rw [HY2.out.pend, HY2.out.left, HY2.out.runs.2]; exact ⟨A5, c5, S5, s5, P5, p5, rfl, hs5, r5s, hB⟩)
        go_at_call 60
        refine K.mono ?_
        rintro e w6 ⟨A18, c18, S19, s19, P19, p19, rfl, hs19, r19, hb⟩
        clear K
        replace rA := rA.below hb
        replace ni := ni.below hb
        replace r5 := r5.below hb
        replace x5 := x5.below hb x5.lt
        replace x7 := x7.below hb x7.lt
        replace hw := hw.trans (hb.mono hw.size)
        clear x7c0 x7c1 x7c2 x7l x5c0 x5c1 x5c2 x5c3 x5l
        clear hb
        go_upto_region 26 with (fail)
        obtain ⟨W7, hW7⟩ : ∃ W, W = (w6.alloc (.cells #[.slice A18 rs.length c18, .int .i64 60, .int .i64 rs.length] 55)).alloc (.cells #[.slice S19 60 s19, .slice P19 0 p19, .int .i64 (-1), .bool false] 25) := ⟨_, rfl⟩
        rw [← hW7]
        have hb : Below w6.heap.size w6 W7 := by rw [hW7]; exact ((Below.refl _ _).alloc (Nat.le_refl _) _).alloc (by simp) _
        have x18 : Blk W7 w6.heap.size 55 #[.slice A18 rs.length c18, .int .i64 60, .int .i64 rs.length] := by rw [hW7]; exact (Blk.new w6 55 _).alloc _
        have x19 : Blk W7 (w6.heap.size + 1) 25 #[.slice S19 60 s19, .slice P19 0 p19, .int .i64 (-1), .bool false] := by rw [hW7]; exact Blk.newAt (by simp) 25 _
        clear hW7
        replace rA := rA.below hb
        replace ni := ni.below hb
        replace r5 := r5.below hb
        replace r19 := r19.below hb
        replace x5 := x5.below hb x5.lt
        replace x7 := x7.below hb x7.lt
        replace hw := hw.trans (hb.mono hw.size)
        clear hb
        have x19c0 := x19.cell 0
        have x19c1 := x19.cell 1
        have x19c2 := x19.cell 2
        have x19c3 := x19.cell 3
        simp only [List.getElem?_toArray, List.getElem?_cons_zero, List.getElem?_cons_succ] at x19c0 x19c1 x19c2 x19c3
        have x19l := x19.lt
        go_wp2_with (fail)
        have K : Calls Try.prog 58 #[.agg #[.slice S19 60 s19, .slice P19 0 p19, .int .i64 (-1), .bool false]] W7 (fun e w' => ∃ A cc V cv, e = .returned (.tuple #[.agg #[.slice A rs.length cc, .int .i64 60, .int .i64 rs.length], .slice V n cv, .int .i64 0]) ∧ NumsAt n₀ w' V xs ∧ Below W7.heap.size W7 w') := (by have h := ropen_t (n₀ := n₀) S19 P19 s19 p19 y W7 (Nat.le_trans hn hw.size) (by rw [HYL.out]; decide) (by rw [HY2.out.pend]; decide) r19 (by rw [HY2.out.pend]; exact WrsAt.nil _ _); rw [HY3.out, HYL.out, HY2.out.pend, HY2.out.left, HY2.out.runs.2] at h; exact (show Calls Try.prog 58 #[.agg #[.slice S19 60 s19, .slice P19 0 p19, .int .i64 (-1), .bool false]] W7 (RoIs n₀ W7 ((⟨rs, 60, rs.length⟩, xs), 0)) from h).mono fun e w9 hx => by obtain ⟨A, cc, V, cv, h1, -, -, -, h4, h5⟩ := ro_out hx; rw [← HN.out] at h1; exact ⟨A, cc, V, cv, h1, h4, h5⟩)
        go_at_call 58
        refine K.mono ?_
        rintro e w8 ⟨A21, c21, V22, cv22, rfl, ni22, hb⟩
        clear K
        replace rA := rA.below hb
        replace ni := ni.below hb
        replace r5 := r5.below hb
        replace r19 := r19.below hb
        replace x5 := x5.below hb x5.lt
        replace x7 := x7.below hb x7.lt
        replace x18 := x18.below hb x18.lt
        replace x19 := x19.below hb x19.lt
        replace hw := hw.trans (hb.mono hw.size)
        clear x19c0 x19c1 x19c2 x19c3 x19l
        clear hb
        go_upto_region 27 with (fail)
        obtain ⟨W9, hW9⟩ : ∃ W, W = w8.alloc (.cells #[.slice A21 rs.length c21, .int .i64 60, .int .i64 rs.length] 55) := ⟨_, rfl⟩
        rw [← hW9]
        have hb : Below w8.heap.size w8 W9 := by rw [hW9]; exact (Below.refl _ _).alloc (Nat.le_refl _) _
        have x21 : Blk W9 w8.heap.size 55 #[.slice A21 rs.length c21, .int .i64 60, .int .i64 rs.length] := by rw [hW9]; exact Blk.new w8 55 _
        clear hW9
        replace rA := rA.below hb
        replace ni := ni.below hb
        replace r5 := r5.below hb
        replace r19 := r19.below hb
        replace ni22 := ni22.below hb
        replace x5 := x5.below hb x5.lt
        replace x7 := x7.below hb x7.lt
        replace x18 := x18.below hb x18.lt
        replace x19 := x19.below hb x19.lt
        replace hw := hw.trans (hb.mono hw.size)
        clear hb
        clear x21
        go_wp2_with (fail)
        have K : Calls Try.prog 61 #[.slice V22 n cv22, .slice V10 n c10] W9 (fun e w' => e = .returned (.bool true) ∧ Below W9.heap.size W9 w') := (by have h := sameI_t (n₀ := n₀) V22 V10 cv22 c10 xs xs W9 (by rw [← HN.out]; omega) (by rw [← HN.out]; omega) ni22 ni; rw [← HN.out] at h; simpa using h)
        go_at_call 61
        refine K.mono ?_
        rintro e w10 ⟨rfl, hb⟩
        clear K
        replace rA := rA.below hb
        replace ni := ni.below hb
        replace r5 := r5.below hb
        replace r19 := r19.below hb
        replace ni22 := ni22.below hb
        replace x5 := x5.below hb x5.lt
        replace x7 := x7.below hb x7.lt
        replace x18 := x18.below hb x18.lt
        replace x19 := x19.below hb x19.lt
        replace hw := hw.trans (hb.mono hw.size)
        clear hb
        go_wp2
        go_ret
        exact ⟨rfl, hw⟩
      have dlt2 : decide ((at_ : Int) < (n : Int)) = true := decide_eq_true (by omega)
      have dlt2n : decide (at_ < n) = true := decide_eq_true hlt2
      go_upto_if 73 with (fail)
      go_cut [15] (fun s15 wx => ∃ m : Nat, 1 ≤ m ∧ m ≤ 16 ∧ at_ + m ≤ n ∧ s15 = .int .i64 m ∧ wx = wr)
      case first =>
        by_cases hks : k < ns
        case neg =>
          have d1 : decide ((k : Int) < (ns : Int)) = false := decide_eq_false (by omega)
          have d1n : decide (k < ns) = false := decide_eq_false hks
          go_wp2_with (fail)
          go_meet
          exact ⟨1, by omega, by omega, by omega, rfl, rfl⟩
        obtain ⟨b, o, rfl, lb, hcs⟩ := H1.out (by rw [← HNS.out]; omega)
        have z0 := (hw.cell (p := ⟨b, o + k, none⟩) lb.lt).trans (hcs k (by rw [← HNS.out]; exact hks))
        unfold u8v at z0
        obtain ⟨q, hq⟩ : ∃ q, q = (ss.getD k 0).toNat := ⟨_, rfl⟩
        rw [← hq] at z0
        have hql : q < 256 := by rw [hq]; exact (ss.getD k 0).toNat_lt
        obtain ⟨q2, hq2⟩ : ∃ x, x = q % 16 := ⟨_, rfl⟩
        have eq : (q : Int) % 16 = (q2 : Int) := by rw [hq2]; rfl
        have eq2 : (q : Int).tmod 16 = (q2 : Int) := by rw [hq2]; rfl
        have hq2l : q2 < 16 := by rw [hq2]; omega
        have k0 : (0 : Int) ≤ (k : Int) := by omega
        have k1' : (k : Int) < (ns : Int) := by omega
        have d1 : decide ((k : Int) < (ns : Int)) = true := decide_eq_true (by omega)
        have d1n : decide (k < ns) = true := decide_eq_true hks
        have HQ := Lib.hid (And.intro hq hq2)
        clear hcs hq hq2
        go_wp2_with (fail)
        all_goals (go_meet; refine ⟨min (1 + q2) (n - at_), by omega, by omega, by omega, ?_, rfl⟩; congr 1; first | omega | (split <;> omega))
      case rest =>
        obtain ⟨m, hm1, hm2, hm3, rfl, hwx⟩ := hcut
        have hwx' := hwx.symm
        subst hwx'
        clear dlt2 dlt2n
        obtain ⟨hl, hwr2, hdv2⟩ := HDV.out.step (m := m) hatl hm1 hm2 (by rw [← HN.out]; exact hm3) HV.out
        have hwr2 := hwr2
        obtain ⟨b, o, rfl, lb, hcs⟩ := id ni (by rw [← HN.out]; omega)
        clear hcs
        obtain ⟨blk, hblk⟩ : ∃ b, b = (xs.drop at_).take m := ⟨_, rfl⟩
        rw [← hblk] at hl hwr2 hdv2
        obtain ⟨rs2, hrs2⟩ : ∃ r, r = rs ++ [encB blk] := ⟨_, rfl⟩
        rw [← hrs2] at hwr2 hdv2
        have hrl2 : rs2.length = rs.length + 1 := by rw [hrs2]; simp
        have HWR := Lib.hid hwr2
        have HD2 := Lib.hid hdv2
        have HRL2 := Lib.hid hrl2
        have nm : ¬ m = 0 := by omega
        have nq : ((at_ : Int) + (m : Int)).toNat = at_ + m := by omega
        have i4 : IntKind.i64.wrap ((at_ : Int) + (m : Int)) = (at_ : Int) + m := IntWalk.i64_in _ (by omega)
        have n1 : (0 : Int) ≤ (at_ : Int) := by omega
        have n2 : (at_ : Int) ≤ (at_ : Int) + m := by omega
        have n3 : (at_ : Int) + m ≤ (c10 : Int) := by omega
        have n4 : ¬ c10 = at_ := by omega
        have hk59 : ∀ W cq, Below wr.heap.size wr W → Calls Try.prog 59 #[.agg #[.slice A rs.length c, .int .i64 60, .int .i64 0], .slice (some ⟨b, o + at_, none⟩) m cq] W (fun e w' => ∃ A c, e = .returned (.tuple #[.agg #[.slice A rs2.length c, .int .i64 60, .int .i64 0], .int .i64 0]) ∧ rs2.length ≤ c ∧ RowsAt n₀ w' A rs2 ∧ Below W.heap.size W w') := fun W cq hW => by
          have hp := nums_part (n₀ := n₀) (ni.below hW) at_ m (by rw [← HN.out]; exact hm3)
          rw [← hblk] at hp
          have h := rwriteR_t (n₀ := n₀) A (some ⟨b, o + at_, none⟩) c cq ⟨rs, 60, 0⟩ blk W (Nat.le_trans hn (Nat.le_trans hw.size hW.size)) (HDV.out.sm (by omega)) hc (by rw [hl]; omega) (rA.below hW) hp
          rw [hl, HWR.out] at h
          exact h.mono fun e w9 hx => jn_out (rs := rs2) (m := 60) (s := 0) (e := 0) hx
        have HK59 := Lib.hid hk59
        clear hk59 hwr2 hdv2 hrl2 hrs2 hblk hl
        have x7c0 := x7.cell 0
        have x7c1 := x7.cell 1
        have x7c2 := x7.cell 2
        simp only [List.getElem?_toArray, List.getElem?_cons_zero, List.getElem?_cons_succ] at x7c0 x7c1 x7c2
        have x7l := x7.lt
        have hB7r := x7l
        have hB5r := x5.lt
        go_upto_region 21 with (fail)
        go_cut [16, 17] (fun s16 s17 wx => DvX n₀ rs2 wr s16 s17 wx)
        case first =>
          go_region_with (go_at_call 59; refine (HK59.out _ _ (by repeat (first | with_reducible exact Below.refl _ _ | refine Below.drew ?_ | refine Below.alloc ?_ (by first | omega | simp <;> omega) _))).mono ?_; rintro e w9 ⟨A9, c9, rfl, hc9, r9, hb9⟩; have h9 : Below wr.heap.size wr w9 := Below.trans (by repeat (first | with_reducible exact Below.refl _ _ | refine Below.drew ?_ | refine Below.alloc ?_ (by first | omega | simp <;> omega) _)) (Below.mono hb9 (by simp <;> omega)); first | (have t9 : Blk w9 wr.heap.size 55 #[.slice none 0 0, .int .i64 0, .int .i64 0] := Blk.below (by (try with_reducible refine blk_drew ?_); with_reducible refine Blk.newAt ?_ _ _; first | rfl | simp) hb9 (by simp <;> omega); have t0 := t9.cell 0; have f0 := t9.frozen 0; have t1 := t9.cell 1; have f1 := t9.frozen 1; have t2 := t9.cell 2; have f2 := t9.frozen 2; simp only [List.getElem?_toArray, List.getElem?_cons_zero, List.getElem?_cons_succ] at t0 t1 t2; have tl := t9.lt) | skip)
          all_goals
            (try go_wp2_with (fail))
            go_meet
            first | exact dvx_new h9 hc9 r9 | exact dvx_old (Nat.le_trans hn hw.size) h9 hc9 r9 t9
        case rest =>
          obtain ⟨B16, A9, c9, rfl, rfl, hB16, x16, hc9, r9, hbx⟩ := hcut
          clear nm nq i4 n1 n2 n3 n4 HK59
          replace rA := rA.below hbx
          replace ni := ni.below hbx
          replace r5 := r5.below hbx
          replace x5 := x5.below hbx x5.lt
          replace x7 := x7.below hbx x7.lt
          replace hw := hw.trans (hbx.mono hw.size)
          clear x7c0 x7c1 x7c2 x7l
          clear hbx
          have x16c0 := x16.cell 0
          have x16c1 := x16.cell 1
          have x16c2 := x16.cell 2
          simp only [List.getElem?_toArray, List.getElem?_cons_zero, List.getElem?_cons_succ] at x16c0 x16c1 x16c2
          have x16l := x16.lt
          have x7c0 := x7.cell 0
          have x7f0 := x7.frozen 0
          have x7c1 := x7.cell 1
          have x7f1 := x7.frozen 1
          have x7c2 := x7.cell 2
          have x7f2 := x7.frozen 2
          simp only [List.getElem?_toArray, List.getElem?_cons_zero, List.getElem?_cons_succ] at x7c0 x7c1 x7c2
          have x7l := x7.lt
          have i4 : IntKind.i64.wrap ((at_ : Int) + (m : Int)) = (at_ : Int) + m := IntWalk.i64_in _ (by omega)
          go_upto_region 17 with (fail)
          clear x16
          obtain ⟨W6, hW6⟩ : ∃ W, W = (((wc.setCell ⟨B7, 0, none⟩ (.slice A9 rs2.length c9)).setCell ⟨B7, 1, none⟩ (.int .i64 60)).setCell ⟨B7, 2, none⟩ (.int .i64 0)) := ⟨_, rfl⟩
          rw [← hW6]
          have hk : Keep (fun r => r = B7) wc W6 := by rw [hW6]; repeat (first | with_reducible exact Keep.refl _ _ | refine Keep.setCell ?_ (fun _ => by simp) _)
          have hm := Boxes.one (n₀ := n₀) x7 rfl (by omega)
          replace rA := rA.keep hk hm
          replace ni := ni.box hk x7 (by decide) (by omega)
          replace r5 := r5.keep hk hm
          replace r9 := r9.keep hk hm
          replace x5 := x5.keep hk (fun h => by omega)
          replace x7 : Blk W6 B7 55 #[.slice A9 rs2.length c9, .int .i64 60, .int .i64 0] := by rw [hW6]; exact (((x7.set 0 (.slice A9 rs2.length c9)).set 1 (.int .i64 60)).set 2 (.int .i64 0))
          replace hw := hw.trans (hk.below hw.size (fun r hr h => by omega))
          clear x16c0 x16c1 x16c2 x16l x7f0 x7f1 x7f2 x7c0 x7c1 x7c2 x7l
          clear hW6 hk hm
          go_wp2_with (fail)
          go_roundw
          case rel => exact ⟨at_ + m, k + 1, hm3, by omega, by go_num, by go_num, rs2, A9, c9, HD2.out, x7, hc9, r9, ni, x5, r5, hw⟩
          case measure => simp [intOf]; omega
end Go.Proofs.Ytckeopidedoohaa
