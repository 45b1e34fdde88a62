/-
  Write of a disk. Conditions: the disk lies as plain data.
-/
import Derived.Test.YtckeopidedoohaaDrr
import Derived.Test.YtckeopidedoohaaDcl
import Derived.Laws.CopyOwn
import Derived.ArgAppend
namespace Go.Proofs.Ytckeopidedoohaa
open Go.RowKit
variable {n₀ : Nat}
attribute [local go_sem] Oper.semAt_some

/-- Bytes filled up to a sector. -/
def pad (b : Bs) : Bs := b ++ List.replicate (128 - b.length) 0
theorem pad_len {b : Bs} (h : b.length ≤ 128) : (pad b).length = 128 := by unfold pad; simp; omega
open Classical in
/-- What Write answers. -/
noncomputable def gWrite (d : Dk) (at_ : Int) (b : Bs) : Dk × Int :=
  if ¬ (Runs d ∧ 0 ≤ at_ ∧ at_ < d.secs.length) then (dk0, 40) else if 128 < b.length then (dk0, 1) else if d.pend.length = 4096 then (dk0, 2) else ({ d with pend := d.pend ++ [⟨at_, pad b⟩] }, 0)
theorem gWrite_no {d : Dk} {at_ : Int} {b : Bs} (h : ¬ (Runs d ∧ 0 ≤ at_ ∧ at_ < d.secs.length)) : gWrite d at_ b = (dk0, 40) := by unfold gWrite; rw [if_pos h]
theorem gWrite_arg {d : Dk} {at_ : Int} {b : Bs} (h : Runs d ∧ 0 ≤ at_ ∧ at_ < d.secs.length) (h1 : 128 < b.length) : gWrite d at_ b = (dk0, 1) := by unfold gWrite; rw [if_neg (not_not_intro h), if_pos h1]
theorem gWrite_lim {d : Dk} {at_ : Int} {b : Bs} (h : Runs d ∧ 0 ≤ at_ ∧ at_ < d.secs.length) (h1 : ¬ 128 < b.length) (h2 : d.pend.length = 4096) : gWrite d at_ b = (dk0, 2) := by unfold gWrite; rw [if_neg (not_not_intro h), if_neg h1, if_pos h2]
theorem gWrite_ok {d : Dk} {at_ : Int} {b : Bs} (h : Runs d ∧ 0 ≤ at_ ∧ at_ < d.secs.length) (h1 : ¬ 128 < b.length) (h2 : ¬ d.pend.length = 4096) : gWrite d at_ b = ({ d with pend := d.pend ++ [⟨at_, pad b⟩] }, 0) := by unfold gWrite; rw [if_neg (not_not_intro h), if_neg h1, if_neg h2]

/-- A new sector's cells. -/
def zc128 : List Value := List.replicate 128 (.int .u8 0)
theorem zc128_len : zc128.length = 128 := by simp [zc128]
theorem zc128_b : zc128 = bcells (List.replicate 128 0) := by simp [zc128, bcells, u8v]
theorem make128 (w : World) : (Instr.makeSlice 35 (.int .i64 128) (.int .i64 128)).run Try.prog w = .ok (.slice (some ⟨w.heap.size, 0, none⟩) 128 128) (w.alloc (.cells zc128.toArray 5)) := by
  obtain ⟨i0, hi0, hz0, hz1, hz2⟩ := info_parts info5
  have hr := run_make (P := Try.prog) w 35 5 i0 (.int .u8 0) Try.underlying35 hi0 hz0 .i64 .i64 128 128 (by omega) (Int.le_refl _) (by rw [hz2]; omega) (by omega)
  have e : madeCells (Value.int .u8 0).cells (128 * i0.size) = zc128.toArray := by
    rw [hz1]
    apply Array.ext'
    show (madeCells #[.int .u8 0] (128 * 1)).toList = _
    rw [toList_madeCells_one]
    rfl
  simpa [e] using hr
theorem splice_pad {b : Bs} (_h : b.length ≤ 128) : splice zc128 0 (bcells b) = bcells (pad b) := by
  unfold splice pad
  rw [zc128_b, bcells_len, Nat.zero_add]
  unfold bcells
  rw [List.map_append, ← List.map_drop, List.take_zero, List.nil_append, List.drop_replicate]
theorem blk_bs {w : World} {g : Nat} {bs : Bs} (h : w.heap[g]? = some (.cells (bcells bs).toArray 5 (0, 0))) : BsAt n₀ w (some ⟨g, 0, none⟩) bs := fun _ => by
  have hb : Blk w g 5 (bcells bs).toArray := h
  refine ⟨g, 0, rfl, .of_blk hb rfl, fun i hi => ?_⟩
  rw [Nat.zero_add, hb.cell, List.getElem?_toArray, bcells_get bs i hi]
theorem rws_snoc {w : World} {vs : List Value} {rs : List Bs} {v : Value} {r : Bs} (h : Rws n₀ w vs rs) (hv : BsV n₀ w v r) : Rws n₀ w (vs ++ [v]) (rs ++ [r]) := by
  refine ⟨by simp [h.1], fun i hi => ?_⟩
  simp at hi
  rcases Nat.lt_or_ge i rs.length with h1 | h1
  · have e1 : (vs ++ [v]).getD i undef = vs.getD i undef := by simp [List.getD, List.getElem?_append, h.1, h1]
    have e2 : (rs ++ [r]).getD i [] = rs.getD i [] := by simp [List.getD, List.getElem?_append, h1]
    rw [e1, e2]
    exact h.2 i h1
  · obtain rfl : i = rs.length := by omega
    have e1 : (vs ++ [v]).getD rs.length undef = v := by simp [List.getD, h.1]
    have e2 : (rs ++ [r]).getD rs.length [] = r := by simp [List.getD]
    rw [e1, e2]
    exact hv
theorem wrs_cells {w : World} {A : Option Addr} {xs : List Wr} {vs : List Value} (h2 : 0 < xs.length → ∃ b o, A = some ⟨b, o, none⟩ ∧ Lies n₀ w b ∧ ∀ j, j < xs.length * 2 → w.cell? ⟨b, o + j, none⟩ = (flatW xs vs)[j]?) {n : Nat} (hn : n = xs.length) : 0 < n → ∃ ad, A = some ad ∧ ∀ j u, (flatW xs vs)[j]? = some u → w.cell? (ad.add j) = some u ∧ ad.block < w.heap.size := fun h0 => by
  obtain ⟨b, o, e, hlt, hc⟩ := h2 (by omega)
  refine ⟨_, e, fun j u hu => ⟨?_, hlt.lt⟩⟩
  have hj : j < xs.length * 2 := by rw [← flatW_len xs vs]; exact (List.getElem?_eq_some_iff.1 hu).1
  rw [addr_add, hc j hj, hu]

theorem cell_new2 (w : World) (a b : Value) (t : TypeId) : ∀ j u, [a, b][j]? = some u → (w.alloc (.cells #[a, b] t)).cell? ((⟨w.heap.size, 0, none⟩ : Addr).add j) = some u := fun j u h => by
  rw [addr_add, Nat.zero_add, (Blk.new w t #[a, b]).cell j]
  simpa using h
theorem two_one (x : Int) (A : Option Addr) {n c : Nat} : ∀ u ∈ [Value.int .i64 x, .slice A n c], u.oneCell' = true := fun u hu => by
  simp only [List.mem_cons, List.not_mem_nil, or_false] at hu
  rcases hu with rfl | rfl <;> rfl
theorem own_keep {w W : World} {base : Nat} {e : TypeId} {size : Nat} {v : Value} {n : Nat} {xs : List Value} {may : Nat → Prop} (h : w.ownsRow base e size v n xs) (hk : Keep may w W) (hn : ∀ k, base ≤ k → ¬ may k) : W.ownsRow base e size v n xs := by
  refine ⟨h.1, ?_⟩
  rcases h.2 with h2 | ⟨g, cap, cur, rfl, hg, hh, r⟩
  · exact .inl h2
  · exact .inr ⟨g, cap, cur, rfl, hg, (hk.block g (Array.getElem?_eq_some_iff.1 hh).1 (hn g hg)).trans hh, r⟩
/-- A disk with one more pending write: how it lies behind Write. -/
theorem wr_end {may : Nat → Prop} {w w9 W : World} {SA A9 : Option Addr} {sc c9 base g : Nat} {secs : List Bs} {pend : List Wr} {vs : List Value} {lf at_ : Int} {st : Bool} {b : Bs}
    (hc1 : secs.length ≤ sc) (h1 : RowsAt n₀ w SA secs) (hrw : Rws n₀ w vs (pend.map Wr.data)) (hb : b.length ≤ 128) (hb9 : Below w.heap.size w w9)
    (hown : w9.ownsRow base 90 2 (.slice A9 (pend.length + 1) c9) (pend.length + 1) (flatW pend vs ++ [.int .i64 at_, .slice (some ⟨g, 0, none⟩) 128 128])) (hc9 : pend.length + 1 ≤ c9) (hd : Blk w9 g 5 (bcells (pad b)).toArray)
    (hbase : ∀ k, base ≤ k → ¬ may k) (hg : ¬ may g ∧ ∀ r, r < w.heap.size → ¬ may r) (hk : Keep may w9 W) :
    DkIs n₀ w (⟨secs, pend ++ [⟨at_, pad b⟩], lf, st⟩, 0) (.returned (.tuple #[.agg #[.slice SA secs.length sc, .slice A9 (pend.length + 1) c9, .int .i64 lf, .bool st], .int .i64 0])) W := by
  have hBW : Below w.heap.size w W := hb9.trans (hk.below hb9.size hg.2)
  have hl : vs.length = pend.length := by have := hrw.1; simpa using this
  have e1 : (pend ++ [(⟨at_, pad b⟩ : Wr)]).length = pend.length + 1 := by simp
  refine ⟨_, rfl, ⟨SA, sc, A9, c9, by rw [e1], hc1, by rw [e1]; exact hc9, h1.below hBW, ?_⟩, hBW⟩
  have hown2 := own_keep hown hk hbase
  have e2 : flatW pend vs ++ [.int .i64 at_, .slice (some ⟨g, 0, none⟩) 128 128] = flatW (pend ++ [⟨at_, pad b⟩]) (vs ++ [.slice (some ⟨g, 0, none⟩) 128 128]) := by
    rw [flatW_append _ _ _ _ hl]
    rfl
  rw [e2] at hown2
  refine own_WrsAt hown2 e1.symm ?_
  rw [List.map_append]
  exact rws_snoc (hrw.below hBW) ⟨_, _, by rw [pad_len hb], by rw [pad_len hb]; exact Nat.le_refl _, blk_bs (hd.keep hk hg.1)⟩

theorem wsrc_up {w w' : World} {n : Nat} {A : Option Addr} {xs : List Value} (h : 0 < n → ∃ ad, A = some ad ∧ ∀ j u, xs[j]? = some u → w.cell? (ad.add j) = some u ∧ ad.block < w.heap.size) (hb : Below w.heap.size w w') : 0 < n → ∃ ad, A = some ad ∧ ∀ j u, xs[j]? = some u → w'.cell? (ad.add j) = some u ∧ ad.block < w'.heap.size := fun h0 => by
  obtain ⟨ad, e, hc⟩ := wsrc h hb h0
  obtain ⟨ad2, e2, hc2⟩ := h h0
  rw [e] at e2
  cases e2
  exact ⟨ad, e, fun j u hu => ⟨hc j u hu, Nat.lt_of_lt_of_le (hc2 j u hu).2 hb.size⟩⟩

theorem clipW_t (A : Option Addr) (n c : Nat) (w : World) (h : n ≤ c) (_hm : n ≤ 1000000000) : Calls Try.prog 76 #[.slice A n c] w fun e w' => e = .returned (.slice A n n) ∧ w' = w := by
  have hz : ∀ a : Option Addr, a.map (fun x => x.add 0) = a := fun a => by cases a <;> simp [Addr.add]
  go_enter Try.func76, Try.ntmps76
  go_wp2
  go_ret
  refine ⟨?_, rfl⟩
  simp

set_option maxRecDepth 20000 in
set_option maxHeartbeats 4000000 in
theorem write_t (SA PA A : Option Addr) (sc pc c : Nat) (d : Dk) (at_ : Int) (b : Bs) (w : World) (hl1 : d.secs.length ≤ 140737488355328) (hl2 : d.pend.length ≤ 140737488355328) (hbl : b.length ≤ 140737488355328) (hc1 : d.secs.length ≤ sc) (h1 : RowsAt n₀ w SA d.secs) (h2 : WrsAt n₀ w PA d.pend) (h3 : BsAt n₀ w A b) :
    Calls Try.prog 32 #[.agg #[.slice SA d.secs.length sc, .slice PA d.pend.length pc, .int .i64 d.left, .bool d.stop], .int .i64 at_, .slice A b.length c] w (DkIs n₀ w (gWrite d at_ b)) := by
  obtain ⟨secs, pend, lf, st⟩ := d
  dsimp only at hl1 hl2 hc1 h1 h2 ⊢
  have HBx : Below w.heap.size w ((w.alloc (.cells #[.slice SA secs.length sc, .slice PA pend.length pc, .int .i64 lf, .bool st] 25)).alloc (.cells #[.slice none 0 0, .slice none 0 0, .int .i64 0, .bool false] 25)) := ((Below.refl _ w).alloc (Nat.le_refl _) _).alloc (by simp) _
  have b0 : Blk ((w.alloc (.cells #[.slice SA secs.length sc, .slice PA pend.length pc, .int .i64 lf, .bool st] 25)).alloc (.cells #[.slice none 0 0, .slice none 0 0, .int .i64 0, .bool false] 25)) w.heap.size 25 #[.slice SA secs.length sc, .slice PA pend.length pc, .int .i64 lf, .bool st] := (Blk.new w 25 _).alloc _
  have b1 : Blk ((w.alloc (.cells #[.slice SA secs.length sc, .slice PA pend.length pc, .int .i64 lf, .bool st] 25)).alloc (.cells #[.slice none 0 0, .slice none 0 0, .int .i64 0, .bool false] 25)) (w.heap.size + 1) 25 #[.slice none 0 0, .slice none 0 0, .int .i64 0, .bool false] := Blk.newAt (by simp) 25 _
  have K := runs_t SA PA sc pc (⟨secs, pend, lf, st⟩ : Dk) _ hl1 hl2 (h1.below HBx) (h2.below HBx)
  have KH := fun W => has_t SA PA secs.length sc pend.length pc lf at_ st W
  have hri := runs_iff (⟨secs, pend, lf, st⟩ : Dk)
  obtain ⟨y, hy⟩ : ∃ y, y = ((gChk (⟨secs, pend, lf, st⟩ : Dk) == 0) && !((⟨secs, pend, lf, st⟩ : Dk) : Dk).stop) := ⟨_, rfl⟩
  rw [← hy] at K hri
  dsimp only at K
  clear hy
  cases y
  case false =>
    have E := Lib.hid (gWrite_no (d := (⟨secs, pend, lf, st⟩ : Dk)) (at_ := at_) (b := b) (fun h => by have := hri.2 h.1; cases this))
    clear hri KH
    go_enter Try.func32, Try.ntmps32
    go_wp2_with (fail)
    go_at_call 74
    refine K.mono ?_
    rintro e w5 ⟨rfl, hw5⟩
    have hb5 := HBx.trans (hw5.mono (by simp <;> omega))
    replace b0 := b0.below hw5 b0.lt
    replace b1 := b1.below hw5 b1.lt
    have q0 := b0.cell 0
    have q1 := b0.cell 1
    have q2 := b0.cell 2
    have q3 := b0.cell 3
    simp only [List.getElem?_toArray, List.getElem?_cons_zero, List.getElem?_cons_succ] at q0 q1 q2 q3
    clear HBx hw5 K
    have hb2 := hb5
    have x0 := b0
    have x1 := b1
    clear q0 q1 q2 q3 hb5 b0 b1
    have y0 := x0.cell 0
    have y1 := x0.cell 1
    have y2 := x0.cell 2
    have y3 := x0.cell 3
    have z0 := x1.cell 0
    have z1 := x1.cell 1
    have z2 := x1.cell 2
    have z3 := x1.cell 3
    have yf := x0.frozen 1
    have zf0 := x1.frozen 0
    have zf1 := x1.frozen 1
    have zf2 := x1.frozen 2
    have zf3 := x1.frozen 3
    simp only [List.getElem?_toArray, List.getElem?_cons_zero, List.getElem?_cons_succ] at y0 y1 y2 y3 z0 z1 z2 z3
    have lx0 := x0.lt
    have lx1 := x1.lt
    go_wp2
    refine bodyPost_ret (v := .tuple #[.agg #[.slice none 0 0, .slice none 0 0, .int .i64 0, .bool false], .int .i64 40]) (by simp [results, Try.results32, go_sem, z0, z1, z2, z3]) rfl ?_
    rw [E.out]
    exact dk_end (fun W BB => dk0V W) (by repeat (first | refine Below.setCell ?_ (by simp <;> omega) _ | exact hb2))
  have hr : Runs (⟨secs, pend, lf, st⟩ : Dk) := hri.1 rfl
  have hpl : pend.length ≤ 4096 := hr.1.2.2.1
  by_cases hat : 0 ≤ at_ ∧ at_ < secs.length
  case neg =>
    have E := Lib.hid (gWrite_no (d := (⟨secs, pend, lf, st⟩ : Dk)) (at_ := at_) (b := b) (fun h => hat h.2))
    have hbf : (decide (0 ≤ at_) && decide (at_ < (secs.length : Int))) = false := by
      by_cases q : 0 ≤ at_
      · rw [decide_eq_false (show ¬ at_ < secs.length from fun h => hat ⟨q, h⟩)]; simp
      · rw [decide_eq_false q]; rfl
    rw [hbf] at KH
    clear hri hr hat hbf
    go_enter Try.func32, Try.ntmps32
    go_wp2_with (fail)
    go_at_call 74
    refine K.mono ?_
    rintro e w5 ⟨rfl, hw5⟩
    have hb5 := HBx.trans (hw5.mono (by simp <;> omega))
    replace b0 := b0.below hw5 b0.lt
    replace b1 := b1.below hw5 b1.lt
    have q0 := b0.cell 0
    have q1 := b0.cell 1
    have q2 := b0.cell 2
    have q3 := b0.cell 3
    simp only [List.getElem?_toArray, List.getElem?_cons_zero, List.getElem?_cons_succ] at q0 q1 q2 q3
    clear HBx hw5 K
    go_wp2_with (fail)
    go_at_call 75
    refine (KH _).mono ?_
    rintro e w2 ⟨rfl, hw2⟩
    have hb2 := hb5.trans (hw2.mono hb5.size)
    have x0 := b0.below hw2 b0.lt
    have x1 := b1.below hw2 b1.lt
    clear b0 b1 hb5 hw2 q0 q1 q2 q3 KH
    have y0 := x0.cell 0
    have y1 := x0.cell 1
    have y2 := x0.cell 2
    have y3 := x0.cell 3
    have z0 := x1.cell 0
    have z1 := x1.cell 1
    have z2 := x1.cell 2
    have z3 := x1.cell 3
    have yf := x0.frozen 1
    have zf0 := x1.frozen 0
    have zf1 := x1.frozen 1
    have zf2 := x1.frozen 2
    have zf3 := x1.frozen 3
    simp only [List.getElem?_toArray, List.getElem?_cons_zero, List.getElem?_cons_succ] at y0 y1 y2 y3 z0 z1 z2 z3
    have lx0 := x0.lt
    have lx1 := x1.lt
    go_wp2
    refine bodyPost_ret (v := .tuple #[.agg #[.slice none 0 0, .slice none 0 0, .int .i64 0, .bool false], .int .i64 40]) (by simp [results, Try.results32, go_sem, z0, z1, z2, z3]) rfl ?_
    rw [E.out]
    exact dk_end (fun W BB => dk0V W) (by repeat (first | refine Below.setCell ?_ (by simp <;> omega) _ | exact hb2))
  have hbt : (decide (0 ≤ at_) && decide (at_ < (secs.length : Int))) = true := by rw [decide_eq_true hat.1, decide_eq_true hat.2]; rfl
  rw [hbt] at KH
  clear hri hbt
  by_cases c1 : 128 < b.length
  · have E := Lib.hid (gWrite_arg (d := (⟨secs, pend, lf, st⟩ : Dk)) (at_ := at_) (b := b) ⟨hr, hat⟩ c1)
    have d1 : decide (128 < (b.length : Int)) = true := decide_eq_true (by omega)
    clear hr hat c1
    go_enter Try.func32, Try.ntmps32
    go_wp2_with (fail)
    go_at_call 74
    refine K.mono ?_
    rintro e w5 ⟨rfl, hw5⟩
    have hb5 := HBx.trans (hw5.mono (by simp <;> omega))
    replace b0 := b0.below hw5 b0.lt
    replace b1 := b1.below hw5 b1.lt
    have q0 := b0.cell 0
    have q1 := b0.cell 1
    have q2 := b0.cell 2
    have q3 := b0.cell 3
    simp only [List.getElem?_toArray, List.getElem?_cons_zero, List.getElem?_cons_succ] at q0 q1 q2 q3
    clear HBx hw5 K
    go_wp2_with (fail)
    go_at_call 75
    refine (KH _).mono ?_
    rintro e w2 ⟨rfl, hw2⟩
    have hb2 := hb5.trans (hw2.mono hb5.size)
    have x0 := b0.below hw2 b0.lt
    have x1 := b1.below hw2 b1.lt
    clear b0 b1 hb5 hw2 q0 q1 q2 q3 KH
    have y0 := x0.cell 0
    have y1 := x0.cell 1
    have y2 := x0.cell 2
    have y3 := x0.cell 3
    have z0 := x1.cell 0
    have z1 := x1.cell 1
    have z2 := x1.cell 2
    have z3 := x1.cell 3
    have yf := x0.frozen 1
    have zf0 := x1.frozen 0
    have zf1 := x1.frozen 1
    have zf2 := x1.frozen 2
    have zf3 := x1.frozen 3
    simp only [List.getElem?_toArray, List.getElem?_cons_zero, List.getElem?_cons_succ] at y0 y1 y2 y3 z0 z1 z2 z3
    have lx0 := x0.lt
    have lx1 := x1.lt
    go_wp2
    refine bodyPost_ret (v := .tuple #[.agg #[.slice none 0 0, .slice none 0 0, .int .i64 0, .bool false], .int .i64 1]) (by simp [results, Try.results32, go_sem, z0, z1, z2, z3]) rfl ?_
    rw [E.out]
    exact dk_end (fun W BB => dk0V W) (by repeat (first | refine Below.setCell ?_ (by simp <;> omega) _ | exact hb2))
  have d1 : decide (128 < (b.length : Int)) = false := decide_eq_false (by omega)
  by_cases c2 : pend.length = 4096
  · have E := Lib.hid (gWrite_lim (d := (⟨secs, pend, lf, st⟩ : Dk)) (at_ := at_) (b := b) ⟨hr, hat⟩ c1 c2)
    have d2 : ((pend.length : Int) == 4096) = true := beq_iff_eq.2 (by omega)
    clear hr hat c1 c2
    go_enter Try.func32, Try.ntmps32
    go_wp2_with (fail)
    go_at_call 74
    refine K.mono ?_
    rintro e w5 ⟨rfl, hw5⟩
    have hb5 := HBx.trans (hw5.mono (by simp <;> omega))
    replace b0 := b0.below hw5 b0.lt
    replace b1 := b1.below hw5 b1.lt
    have q0 := b0.cell 0
    have q1 := b0.cell 1
    have q2 := b0.cell 2
    have q3 := b0.cell 3
    simp only [List.getElem?_toArray, List.getElem?_cons_zero, List.getElem?_cons_succ] at q0 q1 q2 q3
    clear HBx hw5 K
    go_wp2_with (fail)
    go_at_call 75
    refine (KH _).mono ?_
    rintro e w2 ⟨rfl, hw2⟩
    have hb2 := hb5.trans (hw2.mono hb5.size)
    have x0 := b0.below hw2 b0.lt
    have x1 := b1.below hw2 b1.lt
    clear b0 b1 hb5 hw2 q0 q1 q2 q3 KH
    have y0 := x0.cell 0
    have y1 := x0.cell 1
    have y2 := x0.cell 2
    have y3 := x0.cell 3
    have z0 := x1.cell 0
    have z1 := x1.cell 1
    have z2 := x1.cell 2
    have z3 := x1.cell 3
    have yf := x0.frozen 1
    have zf0 := x1.frozen 0
    have zf1 := x1.frozen 1
    have zf2 := x1.frozen 2
    have zf3 := x1.frozen 3
    simp only [List.getElem?_toArray, List.getElem?_cons_zero, List.getElem?_cons_succ] at y0 y1 y2 y3 z0 z1 z2 z3
    have lx0 := x0.lt
    have lx1 := x1.lt
    go_wp2
    refine bodyPost_ret (v := .tuple #[.agg #[.slice none 0 0, .slice none 0 0, .int .i64 0, .bool false], .int .i64 2]) (by simp [results, Try.results32, go_sem, z0, z1, z2, z3]) rfl ?_
    rw [E.out]
    exact dk_end (fun W BB => dk0V W) (by repeat (first | refine Below.setCell ?_ (by simp <;> omega) _ | exact hb2))
  have d2 : ((pend.length : Int) == 4096) = false := beq_eq_false_iff_ne.2 (by omega)
  have E := Lib.hid (gWrite_ok (d := (⟨secs, pend, lf, st⟩ : Dk)) (at_ := at_) (b := b) ⟨hr, hat⟩ c1 c2)
  have hb128 : b.length ≤ 128 := by omega
  obtain ⟨vs, hrw, hca⟩ := h2

  have KC := fun W (hW : Below w.heap.size w W) => cloneW_t PA pend.length pc pend vs W rfl (hrw.below hW) (wsrc_up (wrs_cells hca rfl) hW) (by omega)
  have KP := fun A' c' W hh => clipW_t A' pend.length c' W hh (by omega)
  have hmk := make128
  obtain ⟨i0, hi0, hz0, hz1, hz2⟩ := info_parts info90
  have H3 := Lib.hid h3
  have HRW := Lib.hid hrw
  have HH1 := Lib.hid h1
  obtain ⟨bn, hbn⟩ : ∃ n, n = b.length := ⟨_, rfl⟩
  have HBN := Lib.hid hbn
  rw [← hbn] at hb128 d1 ⊢
  clear hr hat c1 c2 hca hrw h3 h1 hbn hl1 hl2 hbl
  go_enter Try.func32, Try.ntmps32
  go_wp2_with (fail)
  go_at_call 74
  refine K.mono ?_
  rintro e w5 ⟨rfl, hw5⟩
  have hb5 := HBx.trans (hw5.mono (by simp <;> omega))
  replace b0 := b0.below hw5 b0.lt
  replace b1 := b1.below hw5 b1.lt
  have q0 := b0.cell 0
  have q1 := b0.cell 1
  have q2 := b0.cell 2
  have q3 := b0.cell 3
  simp only [List.getElem?_toArray, List.getElem?_cons_zero, List.getElem?_cons_succ] at q0 q1 q2 q3
  clear HBx hw5 K
  go_wp2_with (fail)
  go_at_call 75
  refine (KH _).mono ?_
  rintro e w2 ⟨rfl, hw2⟩
  have hb2 := hb5.trans (hw2.mono hb5.size)
  have x0 := b0.below hw2 b0.lt
  have x1 := b1.below hw2 b1.lt
  clear b0 b1 hb5 hw2 q0 q1 q2 q3 KH
  have y0 := x0.cell 0
  have y1 := x0.cell 1
  have y2 := x0.cell 2
  have y3 := x0.cell 3
  have z0 := x1.cell 0
  have z1 := x1.cell 1
  have z2 := x1.cell 2
  have z3 := x1.cell 3
  have yf := x0.frozen 1
  have zf0 := x1.frozen 0
  have zf1 := x1.frozen 1
  have zf2 := x1.frozen 2
  have zf3 := x1.frozen 3
  simp only [List.getElem?_toArray, List.getElem?_cons_zero, List.getElem?_cons_succ] at y0 y1 y2 y3 z0 z1 z2 z3
  have lx0 := x0.lt
  have lx1 := x1.lt
  have hgz : (w2.alloc (.cells zc128.toArray 5)).heap[w2.heap.size]? = some (.cells zc128.toArray 5 (0, 0)) := heap_alloc_new w2 _
  go_wp2_with (with_reducible refine wpList_copy_splice rfl (.tmp 32) (.tmp 33) 35 35 rfl 5 Try.underlying35 (by kernel_rfl) (some ⟨w2.heap.size, 0, none⟩) A 128 128 bn c rfl rfl w2.heap.size 0 zc128 5 hgz (bcells b) (by rw [bcells_len, ← HBN.out]; simp [Nat.min_def]; omega) (fun hp => ⟨rfl, bs_src (H3.out.below hb2) ((Below.refl _ w2).alloc (Nat.le_refl _) _) (by rw [bcells_len] at hp; exact hp)⟩) (by rw [bcells_len, ← HBN.out, zc128_len]; omega) (bcells_one b) w2.heap.size w2 ((Below.refl _ w2).alloc (Nat.le_refl _) _) (Nat.le_refl _) ?_; intro w4 hg4 hw4; have v0 := x0.below hw4 x0.lt; have v1 := x1.below hw4 x1.lt; have p0 := v0.cell 0; have p1 := v0.cell 1; have p2 := v0.cell 2; have p3 := v0.cell 3; simp only [List.getElem?_toArray, List.getElem?_cons_zero, List.getElem?_cons_succ] at p0 p1 p2 p3)
  have hb4 := hb2.trans (hw4.mono hb2.size)
  clear x0 x1 y0 y1 y2 y3 z0 z1 z2 z3 yf zf0 zf1 zf2 zf3 hgz
  go_at_call 77
  refine (KC w4 hb4).mono ?_
  rintro e w6 ⟨v6, rfl, hown6, hw6⟩
  obtain ⟨A6, c6, rfl, hc6⟩ := own_slice hown6
  have hb6 := hb4.trans (hw6.mono hb4.size)
  replace v0 := v0.below hw6 v0.lt
  replace v1 := v1.below hw6 v1.lt
  clear p0 p1 p2 p3
  have p0 := v0.cell 0
  have p1 := v0.cell 1
  have p2 := v0.cell 2
  have p3 := v0.cell 3
  simp only [List.getElem?_toArray, List.getElem?_cons_zero, List.getElem?_cons_succ] at p0 p1 p2 p3
  go_wp2_with (fail)
  go_at_call 76
  refine (KP A6 c6 w6 hc6).mono ?_
  rintro e w7 ⟨rfl, hw7⟩
  have hw7 := hw7.symm
  subst hw7
  have hA6 : A6 = none → pend.length = 0 ∧ pend.length = 0 := fun h => by
    subst h
    rcases hown6.2 with ⟨h1, _⟩ | ⟨g, cap, cur, hv, _⟩
    · injection h1 with _ h1 _
      exact ⟨h1, h1⟩
    · injection hv with hv _ _
      cases hv
  have hcl6 : ∀ b, A6 = some b → ∀ j u, (flatW pend vs)[j]? = some u → (w6.alloc (.cells #[.int .i64 at_, .slice (some ⟨w2.heap.size, 0, none⟩) 128 128] 90)).cell? (b.add j) = some u := fun b hb j u hu => by
    subst hb
    rcases hown6.2 with ⟨h1, _⟩ | ⟨g, cap, cur, hv, _, hh, _⟩
    · cases h1
    · have hbg : b = ⟨g, 0, none⟩ := by injection hv with hv _ _; injection hv
      subst hbg
      have := hown6.cells (g := g) rfl j u hu
      exact (World.cell?_alloc_some _ _ _ (by rw [this]; rfl)).trans this
  have HA6 := Lib.hid hA6
  have HC6 := Lib.hid hcl6
  have b7 : Below w6.heap.size w6 (w6.alloc (.cells #[.int .i64 at_, .slice (some ⟨w2.heap.size, 0, none⟩) 128 128] 90)) := (Below.refl _ _).alloc (Nat.le_refl _) _
  have hol : (flatW pend vs).length = pend.length * 2 := flatW_len _ _
  have HOL := Lib.hid hol
  clear hA6 hcl6 hol KP KC
  go_wp2_with (with_reducible refine wpList_append_grows _ rfl (.tmp 38) (.tmp 42) 23 rfl 90 i0 (.agg #[.int .i64 0, .slice none 0 0]) 2 32 Try.underlying23 hi0 hz0 hz1 hz2 rfl (by decide) A6 pend.length pend.length (flatW pend vs) rfl HA6.out HOL.out HC6.out ⟨w6.heap.size, 0, none⟩ 1 1 [.int .i64 at_, .slice (some ⟨w2.heap.size, 0, none⟩) 128 128] rfl rfl (cell_new2 w6 _ _ 90) (two_one _ _) (by omega) (by simp [maxLen]; omega) (by omega) ?_; intro v9 w9 hown9 hgrow9; obtain ⟨A9, c9, rfl, hc9⟩ := own_slice hown9; have b9 := b7.grown hgrow9 (by simp) (fun k hk => by cases hk); have r0 := v0.below b9 v0.lt; have r1 := v1.below b9 v1.lt; have p0 := r0.cell 0; have p1 := r0.cell 1; have p2 := r0.cell 2; have p3 := r0.cell 3; have s0 := r1.cell 0; have s1 := r1.cell 1; have s2 := r1.cell 2; have s3 := r1.cell 3; have rf := r0.frozen 1; have sf0 := r1.frozen 0; have sf1 := r1.frozen 1; have sf2 := r1.frozen 2; have sf3 := r1.frozen 3; simp only [List.getElem?_toArray, List.getElem?_cons_zero, List.getElem?_cons_succ] at p0 p1 p2 p3 s0 s1 s2 s3)
  refine bodyPost_ret (v := .tuple #[.agg #[.slice SA secs.length sc, .slice A9 (pend.length + 1) c9, .int .i64 lf, .bool st], .int .i64 0]) (by simp [results, Try.results32, go_sem, s0, s1, s2, s3]) rfl ?_
  rw [E.out]
  have hb9 := hb6.trans (b9.mono hb6.size)
  have hdat : Blk w4 w2.heap.size 5 (bcells (pad b)).toArray := by
    have := hg4.out
    rw [splice_pad (by rw [← HBN.out]; exact hb128)] at this
    exact this
  have hd9 := (hdat.below hw6 hdat.lt).below b9 (Nat.lt_of_lt_of_le hdat.lt hw6.size)
  have hsz2 := hb2.size
  have hsz6 := hb6.size
  have hk1 : ∀ k, (w6.alloc (.cells #[.int .i64 at_, .slice (some ⟨w2.heap.size, 0, none⟩) 128 128] 90)).heap.size ≤ k → ¬ (k = w.heap.size ∨ k = w.heap.size + 1) := fun k hk => by
    have l4 := hw4.size
    have l6 := hw6.size
    rw [World.size_alloc] at hk
    omega
  have hk2 : ¬ (w2.heap.size = w.heap.size ∨ w2.heap.size = w.heap.size + 1) ∧ ∀ r, r < w.heap.size → ¬ (r = w.heap.size ∨ r = w.heap.size + 1) := ⟨by omega, fun r hr => by omega⟩
  exact wr_end (may := fun r => r = w.heap.size ∨ r = w.heap.size + 1) (g := w2.heap.size) hc1 HH1.out HRW.out (by rw [← HBN.out]; exact hb128) hb9 hown9 hc9 hd9 hk1 hk2 (by repeat (first | refine Keep.setCell ?_ (fun _ => by simp) _ | exact Keep.refl _ _))
end Go.Proofs.Ytckeopidedoohaa
