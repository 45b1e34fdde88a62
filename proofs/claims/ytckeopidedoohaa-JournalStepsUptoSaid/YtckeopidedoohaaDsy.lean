/-
  Sync of a disk. Conditions: the disk lies as plain data.
-/
import Derived.Test.YtckeopidedoohaaDpf
import Derived.Deep.RegionWith
namespace Go.Proofs.Ytckeopidedoohaa
open Go.RowKit
variable {n₀ : Nat}
attribute [local go_sem] Oper.semAt_some

/-- A sector that was torn. -/
def tornB (old new : Bs) : Bs := new.take 64 ++ old.drop 64
/-- Sectors behind a sync that tore a write. -/
def tornL (secs : List Bs) (pend : List Wr) (k : Nat) : List Bs := (perfL secs (pend.take k)).set (pend.getD k wr0).at_.toNat (tornB ((perfL secs (pend.take k)).getD (pend.getD k wr0).at_.toNat []) (pend.getD k wr0).data)
open Classical in
/-- What Sync answers. -/
noncomputable def gSync (d : Dk) : Dk × Int :=
  if ¬ Runs d then (dk0, 40) else if 0 ≤ d.left ∧ d.left < d.pend.length then (⟨tornL d.secs d.pend d.left.toNat, [], 0, true⟩, 40) else (⟨perfL d.secs d.pend, [], if 0 ≤ d.left then d.left - d.pend.length else d.left, false⟩, 0)
theorem gSync_no {d : Dk} (h : ¬ Runs d) : gSync d = (dk0, 40) := by unfold gSync; rw [if_pos h]
theorem gSync_torn {d : Dk} (h : Runs d) (h1 : 0 ≤ d.left ∧ d.left < d.pend.length) : gSync d = (⟨tornL d.secs d.pend d.left.toNat, [], 0, true⟩, 40) := by unfold gSync; rw [if_neg (not_not_intro h), if_pos h1]
theorem gSync_ok {d : Dk} (h : Runs d) (h1 : ¬ (0 ≤ d.left ∧ d.left < d.pend.length)) : gSync d = (⟨perfL d.secs d.pend, [], if 0 ≤ d.left then d.left - d.pend.length else d.left, false⟩, 0) := by unfold gSync; rw [if_neg (not_not_intro h), if_neg h1]
theorem perfL_all {P : Bs → Prop} (rs : List Bs) (l : List Wr) (h : ∀ b ∈ rs, P b) (hl : ∀ x ∈ l, P x.data) : ∀ b ∈ perfL rs l, P b := by
  unfold perfL
  induction l generalizing rs with
  | nil => exact h
  | cons x l ih =>
    rw [List.foldl_cons]
    refine ih _ (fun b hb => ?_) (fun y hy => hl y (List.mem_cons_of_mem _ hy))
    rcases List.mem_or_eq_of_mem_set hb with h1 | rfl
    · exact h b h1
    · exact hl x List.mem_cons_self
theorem own_cur {w : World} {base : Nat} {e : TypeId} {g n c : Nat} {xs : List Value} (h : w.ownsRow base e 1 (.slice (some ⟨g, 0, none⟩) n c) n xs) : ∃ cur : List Value, w.heap[g]? = some (.cells cur.toArray e (0, 0)) ∧ cur.take n = xs ∧ n ≤ cur.length := by
  rcases h.2 with ⟨h1, _⟩ | ⟨g', cap, cur, hv, _, hh, h1, _, h2, h3⟩
  · cases h1
  · injection hv with e1 _ e3
    injection e1 with e1
    injection e1 with e1 _ _
    subst e1
    exact ⟨cur.toList, by rw [hh], by rw [Nat.mul_one] at h3; exact h3, by rw [Array.length_toList, h2]; omega⟩
theorem splice_torn {cur : List Value} {old new : Bs} (hcur : cur.take 128 = bcells old) (hn : new.length = 128) : (splice cur 0 (bcells (new.take 64))).take 128 = bcells (tornB old new) := by
  unfold splice tornB
  have e1 : (bcells (new.take 64)).length = 64 := by rw [bcells_len, List.length_take, hn]; rfl
  have e2 : (cur.drop 64).take 64 = bcells (old.drop 64) := by
    have := congrArg (List.drop 64) hcur
    rw [List.drop_take] at this
    rw [this]
    simp [bcells]
  rw [e1, List.take_zero, List.nil_append, List.take_append, e1, List.take_of_length_le (by rw [e1]; omega)]
  rw [Nat.zero_add, show 128 - 64 = 64 from rfl, e2]
  simp [bcells]
theorem splice_len {cur cs : List Value} (h : cs.length ≤ cur.length) : (splice cur 0 cs).length = cur.length := by
  unfold splice
  simp
  omega
theorem bs_src_take {w w' : World} {A : Option Addr} {bs : Bs} (h : BsAt n₀ w A bs) (hb : Below w.heap.size w w') (k : Nat) (h0 : 0 < bs.length) (_hk : 0 < k) : ∃ ad, A = some ad ∧ ∀ j u, (bcells (bs.take k))[j]? = some u → w'.cell? (ad.add j) = some u := by
  obtain ⟨ad, e, hc⟩ := bs_src h hb h0
  refine ⟨ad, e, fun j u hu => hc j u ?_⟩
  unfold bcells at hu ⊢
  rw [List.map_take, List.getElem?_take] at hu
  split at hu
  · exact hu
  · cases hu
theorem torn_end {w w11 W : World} {rs : List Bs} {tb : Bs} {vs cur : List Value} {c n B g gT a base cT : Nat} (hn : n = rs.length) (hc : n ≤ c) (hR : Rws n₀ w vs rs) (hown : w11.ownsRow base 35 1 (.slice (some ⟨g, 0, none⟩) n c) n vs) (hb11 : Below w.heap.size w w11) (hT : Blk w11 gT 5 cur.toArray) (ht : cur.take 128 = bcells tb) (htl : tb.length = 128) (hcT : 128 ≤ cT)
    (hk : Keep (fun r => r = B) (w11.setCell ⟨g, a, none⟩ (.slice (some ⟨gT, 0, none⟩) 128 cT)) W) (hB : w.heap.size ≤ B) (hBb : B < base) (hg : w.heap.size ≤ g) (hgT : g ≠ gT) (hBT : gT ≠ B) :
    DkIs n₀ w (⟨rs.set a tb, [], 0, true⟩, 40) (.returned (.tuple #[.agg #[.slice (some ⟨g, 0, none⟩) n c, .slice none 0 0, .int .i64 0, .bool true], .int .i64 40])) W := by
  subst hn
  have h12 : Below w.heap.size w (w11.setCell ⟨g, a, none⟩ (.slice (some ⟨gT, 0, none⟩) 128 cT)) := hb11.setCell hg _
  have hW : Below w.heap.size w W := h12.trans (hk.below h12.size (fun r hr h => by omega))
  have o12 := own_keep (hown.stored a (.slice (some ⟨gT, 0, none⟩) 128 cT)).1 hk (fun k h1 h2 => by omega)
  have hT2 := (hT.other (p := ⟨g, a, none⟩) (fun h => hgT h.symm) (.slice (some ⟨gT, 0, none⟩) 128 cT)).keep hk hBT
  have hbt : BsAt n₀ W (some ⟨gT, 0, none⟩) tb := fun _ => by
    refine ⟨gT, 0, rfl, .of_blk hT2 rfl, fun i hi => ?_⟩
    rw [Nat.zero_add, hT2.cell, List.getElem?_toArray, ← bcells_get tb i hi, ← ht, List.getElem?_take, if_pos (by omega)]
  exact ⟨_, rfl, ⟨_, c, none, 0, by rw [List.length_set]; rfl, by rw [List.length_set]; exact hc, Nat.le_refl _, ⟨_, (hR.below hW).set a ⟨_, cT, by rw [htl], by rw [htl]; exact hcT, hbt⟩, own_ValsAt o12 (by rw [List.length_set]; exact hR.1.symm)⟩, WrsAt.nil _ _⟩, hW⟩
theorem tornB_len {old new : Bs} (h1 : old.length = 128) (h2 : new.length = 128) : (tornB old new).length = 128 := by
  unfold tornB
  simp
  omega
theorem flatW_take (xs : List Wr) (vs : List Value) (k : Nat) (hl : vs.length = xs.length) : flatW (xs.take k) (vs.take k) = (flatW xs vs).take (k * 2) := by
  induction xs generalizing vs k with
  | nil => simp [flatW]
  | cons x xs ih =>
    cases vs with
    | nil => simp at hl
    | cons v vs =>
      cases k with
      | zero => simp [flatW]
      | succ k =>
        have := ih vs k (by simpa using hl)
        rw [show (k + 1) * 2 = k * 2 + 2 by omega]
        simp [flatW, this]
theorem WrsAt.take {w : World} {A : Option Addr} {xs : List Wr} (h : WrsAt n₀ w A xs) (k : Nat) : WrsAt n₀ w A (xs.take k) := by
  obtain ⟨vs, h1, h2⟩ := h
  have hl : vs.length = xs.length := by have := h1.1; simpa using this
  refine ⟨vs.take k, ⟨by simp [hl], fun i hi => ?_⟩, fun h0 => ?_⟩
  · simp at hi
    replace hi : i < k ∧ i < xs.length := by omega
    have e1 : (vs.take k).getD i undef = vs.getD i undef := by simp [List.getD, hi.1]
    have e2 : ((xs.take k).map Wr.data).getD i [] = (xs.map Wr.data).getD i [] := by simp [List.getD, hi.1]
    rw [e1, e2]
    exact h1.2 i (by simpa using hi.2)
  · simp at h0
    obtain ⟨b, o, e, hlt, hc⟩ := h2 (by omega)
    refine ⟨b, o, e, hlt, fun j hj => ?_⟩
    simp at hj
    rw [hc j (by omega)]
    rw [flatW_take xs vs k hl]
    rw [List.getElem?_take, if_pos (by omega)]
theorem sync_end {w w3 w7 W : World} {rs : List Bs} {vs : List Value} {V : Option Addr} {c n B : Nat} {lf : Int} {st : Bool} {e : Int} (hn : n = rs.length) (hc : n ≤ c) (hT : Rws n₀ w vs rs ∧ w7.ownsRow w3.heap.size 35 1 (.slice V n c) n vs ∧ Below w.heap.size w w7) (hk : Keep (fun r => r = B) w7 W) (hB : w.heap.size ≤ B) (hB3 : B < w3.heap.size) :
    DkIs n₀ w (⟨rs, [], lf, st⟩, e) (.returned (.tuple #[.agg #[.slice V n c, .slice none 0 0, .int .i64 lf, .bool st], .int .i64 e])) W := by
  subst hn
  obtain ⟨hR, hown, hb7⟩ := hT
  have hw9 : Below w.heap.size w W := hb7.trans (hk.below hb7.size (fun r hr h => by omega))
  exact ⟨_, rfl, ⟨V, c, none, 0, rfl, hc, Nat.le_refl _, ⟨vs, hR.below hw9, own_ValsAt (own_keep hown hk (fun k h1 h2 => by omega)) hR.1.symm⟩, WrsAt.nil _ _⟩, hw9⟩


set_option maxRecDepth 20000 in
set_option maxHeartbeats 4000000 in
theorem sync_t (SA PA : Option Addr) (sc pc : Nat) (d : Dk) (w : World) (hl1 : d.secs.length ≤ 140737488355328) (hl2 : d.pend.length ≤ 140737488355328) (hc2 : d.pend.length ≤ pc) (h1 : RowsAt n₀ w SA d.secs) (h2 : WrsAt n₀ w PA d.pend) :
    Calls Try.prog 36 #[.agg #[.slice SA d.secs.length sc, .slice PA d.pend.length pc, .int .i64 d.left, .bool d.stop]] w (DkIs n₀ w (gSync d)) := by
  obtain ⟨secs, pend, lf, st⟩ := d
  dsimp only at hl1 hl2 hc2 h1 h2 ⊢
  have HBx : Below w.heap.size w ((w.alloc (.cells #[.slice SA secs.length sc, .slice PA pend.length pc, .int .i64 lf, .bool st] 25)).alloc (.cells #[.slice none 0 0, .slice none 0 0, .int .i64 0, .bool false] 25)) := ((Below.refl _ w).alloc (Nat.le_refl _) _).alloc (by simp) _
  have b0 : Blk ((w.alloc (.cells #[.slice SA secs.length sc, .slice PA pend.length pc, .int .i64 lf, .bool st] 25)).alloc (.cells #[.slice none 0 0, .slice none 0 0, .int .i64 0, .bool false] 25)) w.heap.size 25 #[.slice SA secs.length sc, .slice PA pend.length pc, .int .i64 lf, .bool st] := (Blk.new w 25 _).alloc _
  have b1 : Blk ((w.alloc (.cells #[.slice SA secs.length sc, .slice PA pend.length pc, .int .i64 lf, .bool st] 25)).alloc (.cells #[.slice none 0 0, .slice none 0 0, .int .i64 0, .bool false] 25)) (w.heap.size + 1) 25 #[.slice none 0 0, .slice none 0 0, .int .i64 0, .bool false] := Blk.newAt (by simp) 25 _
  have K := runs_t SA PA sc pc (⟨secs, pend, lf, st⟩ : Dk) _ hl1 hl2 (h1.below HBx) (h2.below HBx)
  have hri := runs_iff (⟨secs, pend, lf, st⟩ : Dk)
  obtain ⟨y, hy⟩ : ∃ y, y = ((gChk (⟨secs, pend, lf, st⟩ : Dk) == 0) && !((⟨secs, pend, lf, st⟩ : Dk) : Dk).stop) := ⟨_, rfl⟩
  rw [← hy] at K hri
  dsimp only at K
  clear hy
  cases y
  case false =>
    have E := Lib.hid (gSync_no (d := (⟨secs, pend, lf, st⟩ : Dk)) (fun h => by have := hri.2 h; cases this))
    clear hri
    go_enter Try.func36, Try.ntmps36
    go_wp2_with (fail)
    go_at_call 74
    refine K.mono ?_
    rintro e w2 ⟨rfl, hw2⟩
    have hb2 := HBx.trans (hw2.mono (by simp <;> omega))
    have x0 := b0.below hw2 b0.lt
    have x1 := b1.below hw2 b1.lt
    clear HBx hw2 K b0 b1
    have y0 := x0.cell 0
    have y1 := x0.cell 1
    have y2 := x0.cell 2
    have y3 := x0.cell 3
    have z0 := x1.cell 0
    have z1 := x1.cell 1
    have z2 := x1.cell 2
    have z3 := x1.cell 3
    have zf0 := x1.frozen 0
    have zf1 := x1.frozen 1
    have zf2 := x1.frozen 2
    have zf3 := x1.frozen 3
    simp only [List.getElem?_toArray, List.getElem?_cons_zero, List.getElem?_cons_succ] at y0 y1 y2 y3 z0 z1 z2 z3
    have lx0 := x0.lt
    have lx1 := x1.lt
    go_wp2
    refine bodyPost_ret (v := .tuple #[.agg #[.slice none 0 0, .slice none 0 0, .int .i64 0, .bool false], .int .i64 40]) (by simp [results, Try.results36, go_sem, z0, z1, z2, z3]) rfl ?_
    rw [E.out]
    exact dk_end (fun W BB => dk0V W) (by repeat (first | refine Below.setCell ?_ (by simp <;> omega) _ | exact hb2))
  have hr : Runs (⟨secs, pend, lf, st⟩ : Dk) := hri.1 rfl
  have hpl : pend.length ≤ 4096 := hr.1.2.2.1
  have hsl : secs.length ≤ 4096 := hr.1.2.1
  have hsl1 : 1 ≤ secs.length := hr.1.1
  have hpe : ∀ x ∈ pend, 0 ≤ x.at_ ∧ x.at_ < secs.length ∧ x.data.length = 128 := hr.1.2.2.2.2.2.1
  have hse : ∀ b ∈ secs, b.length = 128 := hr.1.2.2.2.2.2.2
  have hlf : lf ≤ 65536 := hr.1.2.2.2.2.1
  have hlf1 : -1 ≤ lf := hr.1.2.2.2.1
  have HPE := Lib.hid hpe
  have HSE := Lib.hid hse
  clear hpe hse
  clear hri
  by_cases c1 : 0 ≤ lf ∧ lf < pend.length
  case neg =>
    have E := Lib.hid (gSync_ok (d := (⟨secs, pend, lf, st⟩ : Dk)) hr c1)
    clear hr
    by_cases c2 : 0 ≤ lf
    case pos =>
      have dl1 : decide (0 ≤ lf) = true := decide_eq_true c2
      have dl2 : decide (lf < (pend.length : Int)) = false := decide_eq_false (fun h => c1 ⟨c2, h⟩)
      have hge : (pend.length : Int) ≤ lf := by omega
      rw [show (if 0 ≤ (⟨secs, pend, lf, st⟩ : Dk).left then (⟨secs, pend, lf, st⟩ : Dk).left - ((⟨secs, pend, lf, st⟩ : Dk).pend.length : Int) else (⟨secs, pend, lf, st⟩ : Dk).left) = lf - pend.length from if_pos c2] at E
      clear c1 c2
      go_enter Try.func36, Try.ntmps36
      go_wp2_with (fail)
      go_at_call 74
      refine K.mono ?_
      rintro e w2 ⟨rfl, hw2⟩
      have hb2 := HBx.trans (hw2.mono (by simp <;> omega))
      have x0 := b0.below hw2 b0.lt
      have x1 := b1.below hw2 b1.lt
      clear HBx hw2 K b0 b1
      have y0 := x0.cell 0
      have y1 := x0.cell 1
      have y2 := x0.cell 2
      have y3 := x0.cell 3
      have z0 := x1.cell 0
      have z1 := x1.cell 1
      have z2 := x1.cell 2
      have z3 := x1.cell 3
      have zf0 := x1.frozen 0
      have zf1 := x1.frozen 1
      have zf2 := x1.frozen 2
      have zf3 := x1.frozen 3
      simp only [List.getElem?_toArray, List.getElem?_cons_zero, List.getElem?_cons_succ] at y0 y1 y2 y3 z0 z1 z2 z3
      have lx0 := x0.lt
      have lx1 := x1.lt
      have KP : Calls Try.prog 79 #[.slice SA secs.length sc, .slice PA pend.length pc] w2.drew (PfIs n₀ w w2.drew secs.length (perfL secs pend)) := perform_t SA PA sc pc secs pend w w2.drew hb2.drew (by omega) (by omega) (fun x hx => ⟨(HPE.out x hx).1, (HPE.out x hx).2.1⟩) h1 h2
      go_wp2_with (fail)
      refine wp_region_held_drew (S := (fun W => W.cell? ⟨w.heap.size, 0, none⟩ = some (.slice SA secs.length sc) ∧ W.cell? ⟨w.heap.size, 1, none⟩ = some (.slice PA pend.length pc) ∧ W.cell? ⟨w.heap.size, 2, none⟩ = some (.int .i64 lf))) (by kernel_rfl) ?_ (fun hHeld => ?_)
      · exact ⟨y0, y1, y2⟩
      try dsimp only at hHeld
      refine wpAnyH_take (i := 0) (oi := { dst := some 61, op := Op.fieldAddr 25 (Operand.tmp 1) 0, type := 0, pos := "disk.go:97", after := #[], guard := none }) (v := ?_) rfl (by kernel_rfl) (by kernel_rfl) (by kernel_rfl) (fun _ _ _ h => h) (Or.inl ⟨by rfl, ?_⟩) (by assumption) ?_
      rotate_left
      · intro wS hSw; go_split_ands; go_simp; first | done | with_reducible rfl
      simp only [Act.put, List.setIfInBounds_toArray, List.set_cons_zero, List.set_cons_succ]
      refine wpAnyH_take (i := 1) (oi := { dst := some 62, op := Op.load 22 (Operand.tmp 61), type := 22, pos := "disk.go:97", after := #[{ on := 0, ground := Ground.data }], guard := none }) (v := ?_) rfl (by kernel_rfl) (by kernel_rfl) (by kernel_rfl) (fun _ _ _ h => h) (Or.inl ⟨by rfl, ?_⟩) (by assumption) ?_
      rotate_left
      · intro wS hSw; go_split_ands; go_simp; first | done | with_reducible rfl
      simp only [Act.put, List.setIfInBounds_toArray, List.set_cons_zero, List.set_cons_succ]
      refine wpAnyH_take (i := 2) (oi := { dst := some 63, op := Op.fieldAddr 25 (Operand.tmp 1) 1, type := 0, pos := "disk.go:97", after := #[], guard := none }) (v := ?_) rfl (by kernel_rfl) (by kernel_rfl) (by kernel_rfl) (fun _ _ _ h => h) (Or.inl ⟨by rfl, ?_⟩) (by assumption) ?_
      rotate_left
      · intro wS hSw; go_split_ands; go_simp; first | done | with_reducible rfl
      simp only [Act.put, List.setIfInBounds_toArray, List.set_cons_zero, List.set_cons_succ]
      refine wpAnyH_take (i := 3) (oi := { dst := some 64, op := Op.load 23 (Operand.tmp 63), type := 23, pos := "disk.go:97", after := #[{ on := 2, ground := Ground.data }], guard := none }) (v := ?_) rfl (by kernel_rfl) (by kernel_rfl) (by kernel_rfl) (fun _ _ _ h => h) (Or.inl ⟨by rfl, ?_⟩) (by assumption) ?_
      rotate_left
      · intro wS hSw; go_split_ands; go_simp; first | done | with_reducible rfl
      simp only [Act.put, List.setIfInBounds_toArray, List.set_cons_zero, List.set_cons_succ]
      refine wpAnyH_take (i := 5) (oi := { dst := some 66, op := Op.fieldAddr 25 (Operand.tmp 1) 2, type := 0, pos := "disk.go:97", after := #[], guard := none }) (v := ?_) rfl (by kernel_rfl) (by kernel_rfl) (by kernel_rfl) (fun _ _ _ h => h) (Or.inl ⟨by rfl, ?_⟩) (by assumption) ?_
      rotate_left
      · intro wS hSw; go_split_ands; go_simp; first | done | with_reducible rfl
      simp only [Act.put, List.setIfInBounds_toArray, List.set_cons_zero, List.set_cons_succ]
      refine wpAnyH_take (i := 6) (oi := { dst := some 67, op := Op.load 3 (Operand.tmp 66), type := 3, pos := "disk.go:97", after := #[{ on := 5, ground := Ground.data }], guard := none }) (v := ?_) rfl (by kernel_rfl) (by kernel_rfl) (by kernel_rfl) (fun _ _ _ h => h) (Or.inl ⟨by rfl, ?_⟩) (by assumption) ?_
      rotate_left
      · intro wS hSw; go_split_ands; go_simp; first | done | with_reducible rfl
      simp only [Act.put, List.setIfInBounds_toArray, List.set_cons_zero, List.set_cons_succ]
      refine wpAnyH_ready (rs := [4]) (by kernel_rfl) (by simp) ?_
      refine AllReadyH.cons (o := { dst := some 65, op := Op.call { callee := Callee.value (Operand.func 79), args := #[Operand.tmp 62, Operand.tmp 64], argTypes := #[22, 23] }, type := 22, pos := "disk.go:97", after := #[{ on := 1, ground := Ground.data }, { on := 3, ground := Ground.data }], guard := none }) rfl (fun K hK => ?_) AllReadyH.nil
      go_simp
      go_at_call 79; refine KP.mono ?_; rintro e w7 ⟨V, vs, rfl, hR, hown, hw7⟩; obtain ⟨A7, c7, rfl, hc7⟩ := own_slice hown; have t0 := Blk.below (W := w2.drew) x0 hw7 lx0; have t1 := Blk.below (W := w2.drew) x1 hw7 lx1; have u0 := t0.cell 0; have u1 := t0.cell 1; have u2 := t0.cell 2; have v0 := t1.cell 0; have v1 := t1.cell 1; have v2 := t1.cell 2; have v3 := t1.cell 3; have vf0 := t1.frozen 0; have vf2 := t1.frozen 2; have vf1 := t1.frozen 1; have vf3 := t1.frozen 3; simp only [List.getElem?_toArray, List.getElem?_cons_zero, List.getElem?_cons_succ] at u0 u1 u2 v0 v1 v2 v3; have lt1 := t1.lt
      refine hK.out _ _ ?_ (fun hHeld => ?_)
      · first | exact ⟨u0, u1, u2⟩ | go_keep
      clear hK K
      try simp only [Act.put, List.setIfInBounds_toArray, List.set_cons_zero, List.set_cons_succ]
      refine wpAnyH_take (i := 7) (oi := { dst := some 68, op := Op.build 25 #[(0, Operand.tmp 65), (2, Operand.tmp 67)], type := 25, pos := "disk.go:97", after := #[{ on := 4, ground := Ground.data }, { on := 6, ground := Ground.data }], guard := none }) (v := ?_) rfl (by kernel_rfl) (by kernel_rfl) (by kernel_rfl) (fun _ _ _ h => h) (Or.inl ⟨by rfl, ?_⟩) (by assumption) ?_
      rotate_left
      · intro wS hSw; go_split_ands; go_simp; first | done | with_reducible rfl
      simp only [Act.put, List.setIfInBounds_toArray, List.set_cons_zero, List.set_cons_succ]
      refine wpAnyH_ready (rs := [8]) (by kernel_rfl) (by simp) ?_
      refine AllReadyH.cons (o := { dst := none, op := Op.store 25 (Operand.tmp 2) (Operand.tmp 68), type := 0, pos := "disk.go:97", after := #[{ on := 7, ground := Ground.data }, { on := 4, ground := Ground.chain }, { on := 0, ground := Ground.phase }, { on := 1, ground := Ground.phase }, { on := 2, ground := Ground.phase }, { on := 3, ground := Ground.phase }, { on := 4, ground := Ground.phase }, { on := 5, ground := Ground.phase }, { on := 6, ground := Ground.phase }, { on := 7, ground := Ground.phase }], guard := none }) rfl (fun K hK => ?_) AllReadyH.nil
      go_simp
      refine hK.out _ _ ?_ (fun hHeld => ?_)
      · first | exact ⟨u0, u1, u2⟩ | go_keep
      clear hK K
      try simp only [Act.put, List.setIfInBounds_toArray, List.set_cons_zero, List.set_cons_succ]
      refine wpAnyH_done (by kernel_rfl) ?_ _
      clear hHeld
      have hb7 := hb2.trans ((Below.refl w2.heap.size w2).drew.trans hw7 |>.mono hb2.size)
      obtain ⟨W9, hW9⟩ : ∃ W, W = (((w7.setCell ⟨w.heap.size + 1, 0, none⟩ (.slice A7 secs.length c7)).setCell ⟨w.heap.size + 1, 1, none⟩ (.slice none 0 0)).setCell ⟨w.heap.size + 1, 2, none⟩ (.int .i64 lf)).setCell ⟨w.heap.size + 1, 3, none⟩ (.bool false) := ⟨_, rfl⟩
      rw [← hW9]
      have t9 : Blk W9 (w.heap.size + 1) 25 #[.slice A7 secs.length c7, .slice none 0 0, .int .i64 lf, .bool false] := by rw [hW9]; exact (((t1.set 0 _).set 1 _).set 2 _).set 3 _
      have k9 : Keep (fun r => r = w.heap.size + 1) w7 W9 := by rw [hW9]; repeat (first | refine Keep.setCell ?_ (fun _ => by simp) _ | exact Keep.refl _ _)
      have T9 := Lib.hid (show Rws n₀ w vs (perfL secs pend) ∧ w7.ownsRow w2.drew.heap.size 35 1 (Value.slice A7 secs.length c7) secs.length vs ∧ Below w.heap.size w w7 from ⟨hR, hown, hb7⟩)
      have K9 := Lib.hid k9
      have v0 := t9.cell 0
      have v1 := t9.cell 1
      have v2 := t9.cell 2
      have v3 := t9.cell 3
      have vf0 := t9.frozen 0
      have vf1 := t9.frozen 1
      have vf2 := t9.frozen 2
      have vf3 := t9.frozen 3
      simp only [List.getElem?_toArray, List.getElem?_cons_zero, List.getElem?_cons_succ] at v0 v1 v2 v3
      have lt9 := t9.lt
      have hs2 : w2.drew.heap.size = w2.heap.size := rfl
      clear hR hown hb7 k9 hW9 t1 t0 u0 u1 u2 hw7 h1 h2 KP y0 y1 y2 y3 z0 z1 z2 z3 zf0 zf1 zf2 zf3 x0 x1 lt1
      go_wp2
      refine bodyPost_ret (v := .tuple #[.agg #[.slice A7 secs.length c7, .slice none 0 0, .int .i64 (lf - pend.length), .bool false], .int .i64 0]) (by simp [results, Try.results36, go_sem, v0, v1, v2, v3]) rfl ?_
      rw [E.out]
      exact sync_end (w3 := w2.drew) (perfL_len _ _).symm hc7 T9.out (K9.out.trans (by repeat (first | refine Keep.setCell ?_ (fun _ => by simp) _ | exact Keep.refl _ _))) (Nat.le_succ _) (by rw [hs2]; exact lx1)
    case neg =>
      have dl1 : decide (0 ≤ lf) = false := decide_eq_false c2
      rw [show (if 0 ≤ (⟨secs, pend, lf, st⟩ : Dk).left then (⟨secs, pend, lf, st⟩ : Dk).left - ((⟨secs, pend, lf, st⟩ : Dk).pend.length : Int) else (⟨secs, pend, lf, st⟩ : Dk).left) = lf from if_neg c2] at E
      clear c1 c2
      go_enter Try.func36, Try.ntmps36
      go_wp2_with (fail)
      go_at_call 74
      refine K.mono ?_
      rintro e w2 ⟨rfl, hw2⟩
      have hb2 := HBx.trans (hw2.mono (by simp <;> omega))
      have x0 := b0.below hw2 b0.lt
      have x1 := b1.below hw2 b1.lt
      clear HBx hw2 K b0 b1
      have y0 := x0.cell 0
      have y1 := x0.cell 1
      have y2 := x0.cell 2
      have y3 := x0.cell 3
      have z0 := x1.cell 0
      have z1 := x1.cell 1
      have z2 := x1.cell 2
      have z3 := x1.cell 3
      have zf0 := x1.frozen 0
      have zf1 := x1.frozen 1
      have zf2 := x1.frozen 2
      have zf3 := x1.frozen 3
      simp only [List.getElem?_toArray, List.getElem?_cons_zero, List.getElem?_cons_succ] at y0 y1 y2 y3 z0 z1 z2 z3
      have lx0 := x0.lt
      have lx1 := x1.lt
      have KP : Calls Try.prog 79 #[.slice SA secs.length sc, .slice PA pend.length pc] w2.drew (PfIs n₀ w w2.drew secs.length (perfL secs pend)) := perform_t SA PA sc pc secs pend w w2.drew hb2.drew (by omega) (by omega) (fun x hx => ⟨(HPE.out x hx).1, (HPE.out x hx).2.1⟩) h1 h2
      go_wp2_with (fail)
      refine wp_region_held_drew (S := (fun W => W.cell? ⟨w.heap.size, 0, none⟩ = some (.slice SA secs.length sc) ∧ W.cell? ⟨w.heap.size, 1, none⟩ = some (.slice PA pend.length pc) ∧ W.cell? ⟨w.heap.size, 2, none⟩ = some (.int .i64 lf))) (by kernel_rfl) ?_ (fun hHeld => ?_)
      · exact ⟨y0, y1, y2⟩
      try dsimp only at hHeld
      refine wpAnyH_take (i := 0) (oi := { dst := some 61, op := Op.fieldAddr 25 (Operand.tmp 1) 0, type := 0, pos := "disk.go:97", after := #[], guard := none }) (v := ?_) rfl (by kernel_rfl) (by kernel_rfl) (by kernel_rfl) (fun _ _ _ h => h) (Or.inl ⟨by rfl, ?_⟩) (by assumption) ?_
      rotate_left
      · intro wS hSw; go_split_ands; go_simp; first | done | with_reducible rfl
      simp only [Act.put, List.setIfInBounds_toArray, List.set_cons_zero, List.set_cons_succ]
      refine wpAnyH_take (i := 1) (oi := { dst := some 62, op := Op.load 22 (Operand.tmp 61), type := 22, pos := "disk.go:97", after := #[{ on := 0, ground := Ground.data }], guard := none }) (v := ?_) rfl (by kernel_rfl) (by kernel_rfl) (by kernel_rfl) (fun _ _ _ h => h) (Or.inl ⟨by rfl, ?_⟩) (by assumption) ?_
      rotate_left
      · intro wS hSw; go_split_ands; go_simp; first | done | with_reducible rfl
      simp only [Act.put, List.setIfInBounds_toArray, List.set_cons_zero, List.set_cons_succ]
      refine wpAnyH_take (i := 2) (oi := { dst := some 63, op := Op.fieldAddr 25 (Operand.tmp 1) 1, type := 0, pos := "disk.go:97", after := #[], guard := none }) (v := ?_) rfl (by kernel_rfl) (by kernel_rfl) (by kernel_rfl) (fun _ _ _ h => h) (Or.inl ⟨by rfl, ?_⟩) (by assumption) ?_
      rotate_left
      · intro wS hSw; go_split_ands; go_simp; first | done | with_reducible rfl
      simp only [Act.put, List.setIfInBounds_toArray, List.set_cons_zero, List.set_cons_succ]
      refine wpAnyH_take (i := 3) (oi := { dst := some 64, op := Op.load 23 (Operand.tmp 63), type := 23, pos := "disk.go:97", after := #[{ on := 2, ground := Ground.data }], guard := none }) (v := ?_) rfl (by kernel_rfl) (by kernel_rfl) (by kernel_rfl) (fun _ _ _ h => h) (Or.inl ⟨by rfl, ?_⟩) (by assumption) ?_
      rotate_left
      · intro wS hSw; go_split_ands; go_simp; first | done | with_reducible rfl
      simp only [Act.put, List.setIfInBounds_toArray, List.set_cons_zero, List.set_cons_succ]
      refine wpAnyH_take (i := 5) (oi := { dst := some 66, op := Op.fieldAddr 25 (Operand.tmp 1) 2, type := 0, pos := "disk.go:97", after := #[], guard := none }) (v := ?_) rfl (by kernel_rfl) (by kernel_rfl) (by kernel_rfl) (fun _ _ _ h => h) (Or.inl ⟨by rfl, ?_⟩) (by assumption) ?_
      rotate_left
      · intro wS hSw; go_split_ands; go_simp; first | done | with_reducible rfl
      simp only [Act.put, List.setIfInBounds_toArray, List.set_cons_zero, List.set_cons_succ]
      refine wpAnyH_take (i := 6) (oi := { dst := some 67, op := Op.load 3 (Operand.tmp 66), type := 3, pos := "disk.go:97", after := #[{ on := 5, ground := Ground.data }], guard := none }) (v := ?_) rfl (by kernel_rfl) (by kernel_rfl) (by kernel_rfl) (fun _ _ _ h => h) (Or.inl ⟨by rfl, ?_⟩) (by assumption) ?_
      rotate_left
      · intro wS hSw; go_split_ands; go_simp; first | done | with_reducible rfl
      simp only [Act.put, List.setIfInBounds_toArray, List.set_cons_zero, List.set_cons_succ]
      refine wpAnyH_ready (rs := [4]) (by kernel_rfl) (by simp) ?_
      refine AllReadyH.cons (o := { dst := some 65, op := Op.call { callee := Callee.value (Operand.func 79), args := #[Operand.tmp 62, Operand.tmp 64], argTypes := #[22, 23] }, type := 22, pos := "disk.go:97", after := #[{ on := 1, ground := Ground.data }, { on := 3, ground := Ground.data }], guard := none }) rfl (fun K hK => ?_) AllReadyH.nil
      go_simp
      go_at_call 79; refine KP.mono ?_; rintro e w7 ⟨V, vs, rfl, hR, hown, hw7⟩; obtain ⟨A7, c7, rfl, hc7⟩ := own_slice hown; have t0 := Blk.below (W := w2.drew) x0 hw7 lx0; have t1 := Blk.below (W := w2.drew) x1 hw7 lx1; have u0 := t0.cell 0; have u1 := t0.cell 1; have u2 := t0.cell 2; have v0 := t1.cell 0; have v1 := t1.cell 1; have v2 := t1.cell 2; have v3 := t1.cell 3; have vf0 := t1.frozen 0; have vf2 := t1.frozen 2; have vf1 := t1.frozen 1; have vf3 := t1.frozen 3; simp only [List.getElem?_toArray, List.getElem?_cons_zero, List.getElem?_cons_succ] at u0 u1 u2 v0 v1 v2 v3; have lt1 := t1.lt
      refine hK.out _ _ ?_ (fun hHeld => ?_)
      · first | exact ⟨u0, u1, u2⟩ | go_keep
      clear hK K
      try simp only [Act.put, List.setIfInBounds_toArray, List.set_cons_zero, List.set_cons_succ]
      refine wpAnyH_take (i := 7) (oi := { dst := some 68, op := Op.build 25 #[(0, Operand.tmp 65), (2, Operand.tmp 67)], type := 25, pos := "disk.go:97", after := #[{ on := 4, ground := Ground.data }, { on := 6, ground := Ground.data }], guard := none }) (v := ?_) rfl (by kernel_rfl) (by kernel_rfl) (by kernel_rfl) (fun _ _ _ h => h) (Or.inl ⟨by rfl, ?_⟩) (by assumption) ?_
      rotate_left
      · intro wS hSw; go_split_ands; go_simp; first | done | with_reducible rfl
      simp only [Act.put, List.setIfInBounds_toArray, List.set_cons_zero, List.set_cons_succ]
      refine wpAnyH_ready (rs := [8]) (by kernel_rfl) (by simp) ?_
      refine AllReadyH.cons (o := { dst := none, op := Op.store 25 (Operand.tmp 2) (Operand.tmp 68), type := 0, pos := "disk.go:97", after := #[{ on := 7, ground := Ground.data }, { on := 4, ground := Ground.chain }, { on := 0, ground := Ground.phase }, { on := 1, ground := Ground.phase }, { on := 2, ground := Ground.phase }, { on := 3, ground := Ground.phase }, { on := 4, ground := Ground.phase }, { on := 5, ground := Ground.phase }, { on := 6, ground := Ground.phase }, { on := 7, ground := Ground.phase }], guard := none }) rfl (fun K hK => ?_) AllReadyH.nil
      go_simp
      refine hK.out _ _ ?_ (fun hHeld => ?_)
      · first | exact ⟨u0, u1, u2⟩ | go_keep
      clear hK K
      try simp only [Act.put, List.setIfInBounds_toArray, List.set_cons_zero, List.set_cons_succ]
      refine wpAnyH_done (by kernel_rfl) ?_ _
      clear hHeld
      have hb7 := hb2.trans ((Below.refl w2.heap.size w2).drew.trans hw7 |>.mono hb2.size)
      obtain ⟨W9, hW9⟩ : ∃ W, W = (((w7.setCell ⟨w.heap.size + 1, 0, none⟩ (.slice A7 secs.length c7)).setCell ⟨w.heap.size + 1, 1, none⟩ (.slice none 0 0)).setCell ⟨w.heap.size + 1, 2, none⟩ (.int .i64 lf)).setCell ⟨w.heap.size + 1, 3, none⟩ (.bool false) := ⟨_, rfl⟩
      rw [← hW9]
      have t9 : Blk W9 (w.heap.size + 1) 25 #[.slice A7 secs.length c7, .slice none 0 0, .int .i64 lf, .bool false] := by rw [hW9]; exact (((t1.set 0 _).set 1 _).set 2 _).set 3 _
      have k9 : Keep (fun r => r = w.heap.size + 1) w7 W9 := by rw [hW9]; repeat (first | refine Keep.setCell ?_ (fun _ => by simp) _ | exact Keep.refl _ _)
      have T9 := Lib.hid (show Rws n₀ w vs (perfL secs pend) ∧ w7.ownsRow w2.drew.heap.size 35 1 (Value.slice A7 secs.length c7) secs.length vs ∧ Below w.heap.size w w7 from ⟨hR, hown, hb7⟩)
      have K9 := Lib.hid k9
      have v0 := t9.cell 0
      have v1 := t9.cell 1
      have v2 := t9.cell 2
      have v3 := t9.cell 3
      have vf0 := t9.frozen 0
      have vf1 := t9.frozen 1
      have vf2 := t9.frozen 2
      have vf3 := t9.frozen 3
      simp only [List.getElem?_toArray, List.getElem?_cons_zero, List.getElem?_cons_succ] at v0 v1 v2 v3
      have lt9 := t9.lt
      have hs2 : w2.drew.heap.size = w2.heap.size := rfl
      clear hR hown hb7 k9 hW9 t1 t0 u0 u1 u2 hw7 h1 h2 KP y0 y1 y2 y3 z0 z1 z2 z3 zf0 zf1 zf2 zf3 x0 x1 lt1
      go_wp2
      refine bodyPost_ret (v := .tuple #[.agg #[.slice A7 secs.length c7, .slice none 0 0, .int .i64 lf, .bool false], .int .i64 0]) (by simp [results, Try.results36, go_sem, v0, v1, v2, v3]) rfl ?_
      rw [E.out]
      exact sync_end (w3 := w2.drew) (perfL_len _ _).symm hc7 T9.out (K9.out.trans (by repeat (first | refine Keep.setCell ?_ (fun _ => by simp) _ | exact Keep.refl _ _))) (Nat.le_succ _) (by rw [hs2]; exact lx1)
  case pos =>
    obtain ⟨k, rfl⟩ : ∃ k : Nat, lf = k := ⟨lf.toNat, by omega⟩
    have hk : k < pend.length := by omega
    have dl1 : decide (0 ≤ (k : Int)) = true := decide_eq_true (by omega)
    have dl2 : decide ((k : Int) < (pend.length : Int)) = true := decide_eq_true (by omega)
    have E := Lib.hid (gSync_torn (d := (⟨secs, pend, (k : Int), st⟩ : Dk)) hr c1)
    obtain ⟨b, o, rfl, hbp, hcp⟩ := h2.get (by omega)
    obtain ⟨g0, UA, uc, g1, hcu, hbu⟩ := hcp k hk
    have hmem : pend.getD k wr0 ∈ pend := by rw [List.getD_eq_getElem?_getD, List.getElem?_eq_getElem hk]; exact List.getElem_mem hk
    obtain ⟨ha0, ha1, ha2⟩ := HPE.out _ hmem
    have hst : tornL secs pend (k : Int).toNat = (perfL secs (pend.take k)).set (pend.getD k wr0).at_.toNat (tornB ((perfL secs (pend.take k)).getD (pend.getD k wr0).at_.toNat []) (pend.getD k wr0).data) := by rw [Int.toNat_natCast]; rfl
    obtain ⟨⟨xa, xd⟩, hx⟩ : ∃ x, x = pend.getD k wr0 := ⟨_, rfl⟩
    rw [← hx] at g0 g1 hcu hbu ha0 ha1 ha2 hst
    dsimp only at g0 g1 hcu hbu ha0 ha1 ha2 hst
    obtain ⟨a, rfl⟩ : ∃ a : Nat, xa = a := ⟨xa.toNat, by omega⟩
    rw [Int.toNat_natCast] at hst
    rw [ha2] at g1 hcu
    have HST := Lib.hid hst
    have HBU := Lib.hid hbu
    have HXD := Lib.hid ha2
    have has : a < secs.length := by omega
    clear hcp hmem hx hst hbu ha2 hr c1
    go_enter Try.func36, Try.ntmps36
    go_wp2_with (fail)
    go_at_call 74
    refine K.mono ?_
    rintro e w2 ⟨rfl, hw2⟩
    have hb2 := HBx.trans (hw2.mono (by simp <;> omega))
    have x0 := b0.below hw2 b0.lt
    have x1 := b1.below hw2 b1.lt
    clear HBx hw2 K b0 b1
    have y0 := x0.cell 0
    have y1 := x0.cell 1
    have y2 := x0.cell 2
    have y3 := x0.cell 3
    have z0 := x1.cell 0
    have z1 := x1.cell 1
    have z2 := x1.cell 2
    have z3 := x1.cell 3
    have zf0 := x1.frozen 0
    have zf1 := x1.frozen 1
    have zf2 := x1.frozen 2
    have zf3 := x1.frozen 3
    simp only [List.getElem?_toArray, List.getElem?_cons_zero, List.getElem?_cons_succ] at y0 y1 y2 y3 z0 z1 z2 z3
    have lx0 := x0.lt
    have lx1 := x1.lt
    have KP := perform_t SA (some ⟨b, o, none⟩) sc k secs (pend.take k) w w2 hb2 (by omega) (by rw [List.length_take]; omega) (fun x hx => ⟨(HPE.out x (List.mem_of_mem_take hx)).1, (HPE.out x (List.mem_of_mem_take hx)).2.1⟩) h1 (h2.take k)
    rw [List.length_take, Nat.min_eq_left (Nat.le_of_lt hk)] at KP
    have HLK := Lib.hid (perfL_len secs (pend.take k))
    have hkpc : k ≤ pc := by omega
    clear h1 h2
    have HSL := Lib.hid (show ∀ rs : List Bs, (∀ x ∈ rs, x.length = 128) → ∀ i, i < rs.length → (rs.getD i []).length = 128 from fun rs h i hi => by rw [List.getD_eq_getElem?_getD, List.getElem?_eq_getElem hi]; exact h _ (List.getElem_mem hi))
    have HPL := Lib.hid (perfL_all (P := fun b => b.length = 128) secs (pend.take k) HSE.out (fun x hx => (HPE.out x (List.mem_of_mem_take hx)).2.2))
    go_wp2_with (fail)
    go_at_call 79
    refine KP.mono ?_
    rintro e w7 ⟨V, vs, rfl, hR, hown, hw7⟩
    obtain ⟨A7, c7, rfl, hc7⟩ := own_slice hown
    obtain ⟨g, rfl, hg1, hg2⟩ := own_some hown (by omega)
    have hgn : g ≠ w.heap.size + 1 := by omega
    obtain ⟨A8, c8, e8, hc8, hb8⟩ := hR.2 a (by rw [HLK.out]; exact has)
    have hal8 := HSL.out _ HPL.out a (by rw [HLK.out]; exact has)
    rw [hal8] at e8 hc8
    have q8 : w7.cell? ⟨g, a, none⟩ = some (.slice A8 128 c8) := by
      rw [hown.cellAt a (by omega), ← e8]
      have hvl := hown.1
      rw [List.getD_eq_getElem?_getD, List.getElem?_eq_getElem (by omega)]
      rfl
    have t1 := x1.below hw7 lx1
    have v0 := t1.cell 0
    have v1 := t1.cell 1
    have v2 := t1.cell 2
    have v3 := t1.cell 3
    have vf0 := t1.frozen 0
    have vf1 := t1.frozen 1
    have vf2 := t1.frozen 2
    have vf3 := t1.frozen 3
    have t0 := x0.below hw7 lx0
    have u1 := t0.cell 1
    have u2 := t0.cell 2
    simp only [List.getElem?_toArray, List.getElem?_cons_zero, List.getElem?_cons_succ] at u1 u2 v0 v1 v2 v3
    have lt1 := t1.lt
    have hb7 := hb2.trans (hw7.mono hb2.size)
    replace g0 := (hb7.cell (p := ⟨b, _, none⟩) hbp).trans g0
    replace g1 := (hb7.cell (p := ⟨b, _, none⟩) hbp).trans g1
    have hbn : b ≠ w.heap.size + 1 := by omega
    have HR := Lib.hid hR
    have HO := Lib.hid hown
    have H8 := Lib.hid hb8
    clear hR hown hb8 KP
    go_wp2_with (fail)
    obtain ⟨W9, hW9⟩ : ∃ W, W = ((((w7.setCell ⟨w.heap.size + 1, 0, none⟩ (.slice (some ⟨g, 0, none⟩) secs.length c7)).setCell ⟨w.heap.size + 1, 1, none⟩ (.slice none 0 0)).setCell ⟨w.heap.size + 1, 2, none⟩ (.int .i64 0)).setCell ⟨w.heap.size + 1, 3, none⟩ (.bool true)).alloc (.cells #[.int .i64 a, .slice UA 128 uc] 90) := ⟨_, rfl⟩
    rw [← hW9]
    have t9 : Blk W9 (w.heap.size + 1) 25 #[.slice (some ⟨g, 0, none⟩) secs.length c7, .slice none 0 0, .int .i64 0, .bool true] := by rw [hW9]; exact ((((t1.set 0 _).set 1 _).set 2 _).set 3 _).alloc _
    have bx : Blk W9 w7.heap.size 90 #[.int .i64 a, .slice UA 128 uc] := by rw [hW9]; exact Blk.newAt (by simp) 90 _
    have k9 : Keep (fun r => r = w.heap.size + 1) w7 W9 := by rw [hW9]; exact Keep.alloc (by repeat (first | refine Keep.setCell ?_ (fun _ => by simp) _ | exact Keep.refl _ _)) _
    have o9 := own_keep HO.out k9 (fun k h1 h2 => by omega)
    have hb9 : Below w.heap.size w W9 := hb7.trans (k9.below hb7.size (fun r hr h => by omega))
    have hs9 := k9.size
    obtain ⟨old, hold⟩ : ∃ l, l = (perfL secs (pend.take k)).getD a [] := ⟨_, rfl⟩
    rw [← hold] at H8 hal8
    have HOLD := Lib.hid hold
    have KC := cloneB_t A8 128 c8 old W9 hal8.symm (H8.out.below hb9) (by omega)
    have HAL := Lib.hid hal8
    clear hW9 v0 v1 v2 v3 vf0 vf1 vf2 vf3 u1 u2 y0 y1 y2 y3 z0 z1 z2 z3 zf0 zf1 zf2 zf3 g0 g1 t1 t0 x0 x1 hold hal8 q8 HSL HPL
    have lt9 := t9.lt
    have ltb := bx.lt
    have ltg : g < W9.heap.size := Nat.lt_of_lt_of_le hg2 hs9
    go_wp2_with (fail)
    go_at_call 80
    refine KC.mono ?_
    rintro e w10 ⟨VT, rfl, hownT, hw10⟩
    obtain ⟨AT, cT, rfl, hcT⟩ := own_slice hownT
    obtain ⟨gT, rfl, hgT, hgT2⟩ := own_some hownT (by omega)
    have t10 := t9.below hw10 lt9
    have bx10 := bx.below hw10 ltb
    have h64 : (64 : Int) ≤ cT := by omega
    obtain ⟨cur, hcu1, hcu2, hcu3⟩ := own_cur hownT
    have v0 := t10.cell 0
    have v1 := t10.cell 1
    have v2 := t10.cell 2
    have v3 := t10.cell 3
    have u0 := bx10.cell 0
    have u1 := bx10.cell 1
    simp only [List.getElem?_toArray, List.getElem?_cons_zero, List.getElem?_cons_succ] at v0 v1 v2 v3 u0 u1
    have HC1 := Lib.hid hcu1
    have HC2 := Lib.hid hcu2
    have HB9 := Lib.hid hb9
    have HW10 := Lib.hid hw10
    have HSR := Lib.hid (bs_src_take HBU.out (hb9.trans (hw10.mono hb9.size)).drew 64 (by rw [HXD.out]; omega) (by omega))
    have HHC := Lib.hid hcu3
    have HTN := Lib.hid (splice_torn hcu2 HXD.out)
    have HSPL := Lib.hid (splice_len (cur := cur) (cs := bcells (xd.take 64)) (by rw [bcells_len, List.length_take]; omega))
    clear hcu1 hcu2 hcu3 hownT KC hb9 hw10
    go_wp2_with (fail)
    refine wp_region_held_drew (S := (fun W => W.cell? ⟨w7.heap.size, 1, none⟩ = some (.slice UA 128 uc))) (by kernel_rfl) ?_ (fun hHeld => ?_)
    · exact u1
    try dsimp only at hHeld
    refine wpAnyH_take (i := 0) (oi := { dst := some 49, op := Op.move (Operand.tmp 7), type := 35, pos := "disk.go:93", after := #[], guard := none }) (v := ?_) rfl (by kernel_rfl) (by kernel_rfl) (by kernel_rfl) (fun _ _ _ h => h) (Or.inl ⟨by rfl, ?_⟩) (by assumption) ?_
    rotate_left
    · intro wS hSw; go_split_ands; go_simp; first | done | with_reducible rfl
    simp only [Act.put, List.setIfInBounds_toArray, List.set_cons_zero, List.set_cons_succ]
    refine wpAnyH_take (i := 1) (oi := { dst := some 50, op := Op.slice 35 (Operand.tmp 49) none (some (Operand.const (Value.int IntKind.i64 64))) none, type := 35, pos := "disk.go:93", after := #[{ on := 0, ground := Ground.data }], guard := none }) (v := ?_) rfl (by kernel_rfl) (by kernel_rfl) (by kernel_rfl) (fun _ _ _ h => h) (Or.inl ⟨by rfl, ?_⟩) (by assumption) ?_
    rotate_left
    · intro wS hSw; go_split_ands; go_simp; first | done | with_reducible rfl
    simp only [Act.put, List.setIfInBounds_toArray, List.set_cons_zero, List.set_cons_succ]
    refine wpAnyH_take (i := 2) (oi := { dst := some 51, op := Op.fieldAddr 90 (Operand.tmp 6) 1, type := 0, pos := "disk.go:93", after := #[], guard := none }) (v := ?_) rfl (by kernel_rfl) (by kernel_rfl) (by kernel_rfl) (fun _ _ _ h => h) (Or.inl ⟨by rfl, ?_⟩) (by assumption) ?_
    rotate_left
    · intro wS hSw; go_split_ands; go_simp; first | done | with_reducible rfl
    simp only [Act.put, List.setIfInBounds_toArray, List.set_cons_zero, List.set_cons_succ]
    refine wpAnyH_take (i := 3) (oi := { dst := some 52, op := Op.load 35 (Operand.tmp 51), type := 35, pos := "disk.go:93", after := #[{ on := 2, ground := Ground.data }], guard := none }) (v := ?_) rfl (by kernel_rfl) (by kernel_rfl) (by kernel_rfl) (fun _ _ _ h => h) (Or.inl ⟨by rfl, ?_⟩) (by assumption) ?_
    rotate_left
    · intro wS hSw; go_split_ands; go_simp; first | done | with_reducible rfl
    simp only [Act.put, List.setIfInBounds_toArray, List.set_cons_zero, List.set_cons_succ]
    refine wpAnyH_ready (rs := [4]) (by kernel_rfl) (by simp) ?_
    refine AllReadyH.cons (o := { dst := some 53, op := Op.call { callee := Callee.builtin Builtin.copy, args := #[Operand.tmp 50, Operand.tmp 52], argTypes := #[35, 35] }, type := 3, pos := "disk.go:93", after := #[{ on := 1, ground := Ground.data }, { on := 3, ground := Ground.data }], guard := none }) rfl (fun K hK => ?_) AllReadyH.nil
    refine step_copy_splice rfl (.tmp 50) (.tmp 52) 35 35 rfl 5 Try.underlying35 (by kernel_rfl) (some ⟨gT, 0, none⟩) UA 64 cT 128 uc (by first | rfl | simp [Act.eval]) (by first | rfl | simp [Act.eval]) gT 0 cur 5 HC1.out (bcells (xd.take 64)) (by rw [bcells_len, List.length_take, HXD.out]; rfl) (fun _ => ⟨rfl, HSR.out⟩) (by have := HHC.out; rw [bcells_len, List.length_take]; omega) (bcells_one _) W9.heap.size W9 HW10.out.drew hgT ?_
    intro w11 hg11 hb11
    refine hK.out _ _ ?_ (fun hHeld => ?_)
    · (have bx11 := bx.below hb11 ltb; have u11 := bx11.cell 1; simp only [List.getElem?_toArray, List.getElem?_cons_zero, List.getElem?_cons_succ] at u11; exact u11)
    clear hK K
    try simp only [Act.put, List.setIfInBounds_toArray, List.set_cons_zero, List.set_cons_succ]
    refine wpAnyH_done (by kernel_rfl) ?_ _
    clear hHeld v0 v1 v2 v3 u0 u1 t10 bx10
    have t11 := t9.below hb11 lt9
    have bx11 := bx.below hb11 ltb
    have o11 := row_keep o9 hb11
    have v0 := t11.cell 0
    have v1 := t11.cell 1
    have v2 := t11.cell 2
    have v3 := t11.cell 3
    have vf0 := t11.frozen 0
    have vf1 := t11.frozen 1
    have vf2 := t11.frozen 2
    have vf3 := t11.frozen 3
    have u0 := bx11.cell 0
    have u1 := bx11.cell 1
    simp only [List.getElem?_toArray, List.getElem?_cons_zero, List.getElem?_cons_succ] at v0 v1 v2 v3 u0 u1
    have f0 : w11.frozen? ⟨g, a, none⟩ = false := o11.frozenAt a
    obtain ⟨cv, hcv⟩ : ∃ cv, w11.cell? ⟨g, a, none⟩ = some cv := by
      rw [o11.cellAt a (by omega)]
      exact ⟨vs[a]'(by have := o11.1; omega), List.getElem?_eq_getElem _⟩
    have O11 := Lib.hid o11
    have H11 := Lib.hid hb11
    have lt11 := t11.lt
    have ltb11 := bx11.lt
    have hbs := H11.out.size
    clear o11 hb11 t9 bx o9 t11 bx11
    go_wp2
    refine bodyPost_ret (v := .tuple #[.agg #[.slice (some ⟨g, 0, none⟩) secs.length c7, .slice none 0 0, .int .i64 0, .bool true], .int .i64 40]) (by simp [results, Try.results36, go_sem, v0, v1, v2, v3]) rfl ?_
    rw [E.out]
    rw [Int.toNat_natCast, HST.out, Int.toNat_natCast, ← HOLD.out]
    exact torn_end HLK.out.symm hc7 HR.out O11.out (HB9.out.trans (H11.out.mono HB9.out.size)) hg11.out HTN.out (tornB_len HAL.out HXD.out) hcT (by repeat (first | with_reducible exact Keep.refl _ _ | refine Keep.setCell ?_ (fun _ => by simp) _)) (Nat.le_succ _) lx1 (by omega) (by omega) (by omega)
end Go.Proofs.Ytckeopidedoohaa
