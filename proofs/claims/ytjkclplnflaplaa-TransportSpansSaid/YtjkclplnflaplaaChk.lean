/-
  The program's Check and the reference's Check of orders. Conditions: the orders lie as a list.
-/
import Derived.Test.YtjkclplnflaplaaRight
import Derived.Deep.RegionHeld3
namespace Go.Proofs.Ytjkclplnflaplaa
open Go.RowKit

def o0 : Ord := ⟨0, 0, 0, 0⟩
def oT (l : List Ord) (i : Nat) : Int := (l.getD i o0).at_
def oK (l : List Ord) (i : Nat) : Int := (l.getD i o0).kind
def oA (l : List Ord) (i : Nat) : Int := (l.getD i o0).a
def oB (l : List Ord) (i : Nat) : Int := (l.getD i o0).b
theorem o_eta (l : List Ord) (i : Nat) : (⟨oT l i, oK l i, oA l i, oB l i⟩ : Ord) = l.getD i o0 := rfl

/-- A block and an offset at which orders lie. -/
structure OrdAt (w : World) (b o : Nat) (l : List Ord) : Prop where
  lt : b < w.heap.size
  c0 : ∀ i, i < l.length → w.cell? ⟨b, o + i * 4, none⟩ = some (.int .i64 (oT l i))
  c1 : ∀ i, i < l.length → w.cell? ⟨b, o + i * 4 + 1, none⟩ = some (.int .i64 (oK l i))
  c2 : ∀ i, i < l.length → w.cell? ⟨b, o + i * 4 + 2, none⟩ = some (.int .i64 (oA l i))
  c3 : ∀ i, i < l.length → w.cell? ⟨b, o + i * 4 + 3, none⟩ = some (.int .i64 (oB l i))
theorem OrdAt.below {w w' : World} {b o : Nat} {l : List Ord} (h : OrdAt w b o l) (hb : Below w.heap.size w w') : OrdAt w' b o l :=
  ⟨Nat.lt_of_lt_of_le h.lt hb.size, fun i hi => (hb.cell (p := ⟨b, _, none⟩) h.lt).trans (h.c0 i hi), fun i hi => (hb.cell (p := ⟨b, _, none⟩) h.lt).trans (h.c1 i hi), fun i hi => (hb.cell (p := ⟨b, _, none⟩) h.lt).trans (h.c2 i hi), fun i hi => (hb.cell (p := ⟨b, _, none⟩) h.lt).trans (h.c3 i hi)⟩
/-- What a slice of orders holds. -/
def SlAt (w : World) (A : Option Addr) (l : List Ord) : Prop := 0 < l.length → ∃ b o, A = some ⟨b, o, none⟩ ∧ OrdAt w b o l
theorem SlAt.below {w w' : World} {A : Option Addr} {l : List Ord} (h : SlAt w A l) (hb : Below w.heap.size w w') : SlAt w' A l := fun hp => by
  obtain ⟨b, o, e, hm⟩ := h hp
  exact ⟨b, o, e, hm.below hb⟩

/-- The first k orders are fine, each behind the one before it. -/
def GoodTo (l : List Ord) (k : Nat) : Prop := (∀ i, i < k → Right (l.getD i o0)) ∧ ∀ i, i + 1 < k → oT l i ≤ oT l (i + 1)
theorem GoodTo.step {l : List Ord} {k : Nat} : GoodTo l (k + 1) ↔ GoodTo l k ∧ Right (l.getD k o0) ∧ (∀ j, k = j + 1 → oT l j ≤ oT l k) := by
  constructor
  · intro h
    exact ⟨⟨fun i hi => h.1 i (by omega), fun i hi => h.2 i (by omega)⟩, h.1 k (by omega), fun j hj => by subst hj; exact h.2 j (by omega)⟩
  · rintro ⟨h, hr, hs⟩
    refine ⟨fun i hi => ?_, fun i hi => ?_⟩
    · rcases Nat.lt_or_ge i k with h' | h'
      · exact h.1 i h'
      · obtain rfl : i = k := by omega
        exact hr
    · rcases Nat.lt_or_ge (i + 1) k with h' | h'
      · exact h.2 i h'
      · exact (show k = i + 1 by omega) ▸ hs i (by omega)
theorem GoodTo.mono {l : List Ord} {k j : Nat} (h : GoodTo l k) (hj : j ≤ k) : GoodTo l j := ⟨fun i hi => h.1 i (by omega), fun i hi => h.2 i (by omega)⟩
open Classical in
noncomputable def gCheck (l : List Ord) : Int := if 256 < l.length then 2 else if GoodTo l l.length then 0 else 510

set_option maxHeartbeats 2000000 in
theorem pcheck_t (A : Option Addr) (c : Nat) (l : List Ord) (w : World) (hn : l.length ≤ 1000000000) (h : SlAt w A l) :
    Calls Try.prog 12 #[.slice A l.length c] w fun e w' => e = .returned (.int .i64 (gCheck l)) ∧ Below w.heap.size w w' := by
  by_cases hl : 256 < l.length
  · have E := Lib.hid (show gCheck l = 2 by unfold gCheck; rw [if_pos hl])
    have d : decide (256 < (l.length : Int)) = true := decide_eq_true (by omega)
    go_enter Try.func12, Try.ntmps12
    go_wp2
    go_ret
    exact ⟨by rw [E.out]; rfl, Below.refl _ _⟩
  have d : decide (256 < (l.length : Int)) = false := decide_eq_false (by omega)
  have HL := Lib.hid hl
  have bad : ¬ GoodTo l l.length → gCheck l = 510 := fun hg => by unfold gCheck; rw [if_neg hl, if_neg hg]
  have good : GoodTo l l.length → gCheck l = 0 := fun hg => by unfold gCheck; rw [if_neg hl, if_pos hg]
  have HBAD := Lib.hid bad
  have HGOOD := Lib.hid good
  clear bad good
  go_enter Try.func12, Try.ntmps12
  go_wp2
  go_loopw [10] (fun i wr => ∃ k : Nat, k ≤ l.length ∧ i = .int .i64 k ∧ Hid (GoodTo l k) ∧ Below w.heap.size w wr) (fun i _ => l.length - (intOf i).toNat)
  case atStart => exact ⟨0, by omega, rfl, Lib.hid ⟨fun i hi => by omega, fun i hi => by omega⟩, Below.refl _ _⟩
  case round =>
    obtain ⟨k, hk, rfl, hg, hwr⟩ := hrel
    by_cases hlt : k < l.length
    case neg =>
      obtain rfl : k = l.length := by omega
      have E := Lib.hid (HGOOD.out hg.out)
      go_wp2
      go_ret
      exact ⟨by rw [E.out]; rfl, hwr⟩
    obtain ⟨b, o, rfl, hm0⟩ := h (by omega)
    have hm := hm0.below hwr
    have hb := hm.lt
    have g0 := hm.c0 k hlt
    have g1 := hm.c1 k hlt
    have g2 := hm.c2 k hlt
    have g3 := hm.c3 k hlt
    obtain ⟨t, ht⟩ : ∃ x, x = oT l k := ⟨_, rfl⟩
    obtain ⟨kd, hkd⟩ : ∃ x, x = oK l k := ⟨_, rfl⟩
    obtain ⟨xa, hxa⟩ : ∃ x, x = oA l k := ⟨_, rfl⟩
    obtain ⟨xb, hxb⟩ : ∃ x, x = oB l k := ⟨_, rfl⟩
    rw [← ht] at g0
    rw [← hkd] at g1
    rw [← hxa] at g2
    rw [← hxb] at g3
    have hx : l.getD k o0 = ⟨t, kd, xa, xb⟩ := by rw [ht, hkd, hxa, hxb]; rfl
    have HX := Lib.hid hx
    have HT := Lib.hid ht
    clear hx ht hkd hxa hxb hm0
    have KR := fun W => right_t t kd xa xb W
    by_cases hR : Right ⟨t, kd, xa, xb⟩
    case neg =>
      rw [show rightB ⟨t, kd, xa, xb⟩ = false from decide_eq_false hR] at KR
      have E := Lib.hid (HBAD.out fun hG => hR (by have := hG.1 k hlt; rwa [HX.out] at this))
      clear hR
      go_wp2_with fail
      have hsz := hwr.size
      refine wp_region_held_drew (S := (fun W => W.cell? ⟨wr.heap.size, 0, none⟩ = some (.int .i64 t) ∧ W.cell? ⟨wr.heap.size, 1, none⟩ = some (.int .i64 kd) ∧ W.cell? ⟨wr.heap.size, 2, none⟩ = some (.int .i64 xa) ∧ W.cell? ⟨wr.heap.size, 3, none⟩ = some (.int .i64 xb))) (by kernel_rfl) ?_ (fun hHeld => ?_)
      · go_keep
      try dsimp only at hHeld
      refine wpAnyH_take (i := 0) (oi := { dst := some 15, op := Op.load 40 (Operand.tmp 4), type := 40, pos := "transport.go:78", after := #[], guard := none }) (v := ?_) rfl (by kernel_rfl) (by kernel_rfl) (by kernel_rfl) (fun _ _ _ h => h) (Or.inl ⟨by rfl, ?_⟩) (by assumption) ?_
      rotate_left
      · intro wS hSw; go_split_ands; go_simp; first | done | with_reducible rfl
      simp only [Act.put, List.setIfInBounds_toArray, List.set_cons_zero, List.set_cons_succ]
      refine wpAnyH_ready (rs := [1]) (by kernel_rfl) (by simp) ?_
      refine AllReadyH.cons (o := { dst := some 16, op := Op.call { callee := Callee.value (Operand.func 19), args := #[Operand.tmp 15], argTypes := #[40] }, type := 4, pos := "transport.go:78", after := #[{ on := 0, ground := Ground.data }], guard := none }) rfl (fun K hK => ?_) AllReadyH.nil
      go_simp
      go_at_call 19; refine (KR _).mono ?_; rintro e w2 ⟨rfl, hb2⟩
      refine hK.out _ _ ?_ (fun hHeld => ?_)
      · exact ⟨(hb2.cell (p := ⟨wr.heap.size, 0, none⟩) (by simp <;> omega)).trans (by go_keep), (hb2.cell (p := ⟨wr.heap.size, 1, none⟩) (by simp <;> omega)).trans (by go_keep), (hb2.cell (p := ⟨wr.heap.size, 2, none⟩) (by simp <;> omega)).trans (by go_keep), (hb2.cell (p := ⟨wr.heap.size, 3, none⟩) (by simp <;> omega)).trans (by go_keep)⟩
      clear hK K
      try simp only [Act.put, List.setIfInBounds_toArray, List.set_cons_zero, List.set_cons_succ]
      refine wpAnyH_take (i := 2) (oi := { dst := some 17, op := Op.unOp UnOp.not 4 (Operand.tmp 16), type := 4, pos := "transport.go:78", after := #[{ on := 1, ground := Ground.data }], guard := none }) (v := ?_) rfl (by kernel_rfl) (by kernel_rfl) (by kernel_rfl) (fun _ _ _ h => h) (Or.inl ⟨by rfl, ?_⟩) (by assumption) ?_
      rotate_left
      · intro wS hSw; go_split_ands; go_simp; first | done | with_reducible rfl
      simp only [Act.put, List.setIfInBounds_toArray, List.set_cons_zero, List.set_cons_succ]
      refine wpAnyH_take (i := 3) (oi := { dst := some 18, op := Op.move (Operand.tmp 17), type := 4, pos := "transport.go:78", after := #[{ on := 2, ground := Ground.data }, { on := 1, ground := Ground.chain }], guard := none }) (v := ?_) rfl (by kernel_rfl) (by kernel_rfl) (by kernel_rfl) (fun _ _ _ h => h) (Or.inl ⟨by rfl, ?_⟩) (by assumption) ?_
      rotate_left
      · intro wS hSw; go_split_ands; go_simp; first | done | with_reducible rfl
      simp only [Act.put, List.setIfInBounds_toArray, List.set_cons_zero, List.set_cons_succ]
      refine wpAnyH_take (i := 4) (oi := { dst := some 19, op := Op.move (Operand.tmp 3), type := 3, pos := "transport.go:78", after := #[{ on := 3, ground := Ground.guard }], guard := some (3, false) }) (v := undef) rfl (by kernel_rfl) (by kernel_rfl) (by kernel_rfl) (fun _ _ _ h => h) (Or.inr ⟨by rfl, rfl⟩) (by assumption) ?_
      simp only [Act.put, List.setIfInBounds_toArray, List.set_cons_zero, List.set_cons_succ]
      refine wpAnyH_take (i := 5) (oi := { dst := some 20, op := Op.binOp BinOp.gtr 3 (Operand.tmp 19) (Operand.const (Value.int IntKind.i64 0)) 3, type := 4, pos := "transport.go:78", after := #[{ on := 4, ground := Ground.data }, { on := 3, ground := Ground.guard }], guard := some (3, false) }) (v := undef) rfl (by kernel_rfl) (by kernel_rfl) (by kernel_rfl) (fun _ _ _ h => h) (Or.inr ⟨by rfl, rfl⟩) (by assumption) ?_
      simp only [Act.put, List.setIfInBounds_toArray, List.set_cons_zero, List.set_cons_succ]
      refine wpAnyH_take (i := 6) (oi := { dst := some 21, op := Op.move (Operand.tmp 20), type := 4, pos := "transport.go:78", after := #[{ on := 5, ground := Ground.data }, { on := 3, ground := Ground.chain }, { on := 3, ground := Ground.guard }], guard := some (3, false) }) (v := undef) rfl (by kernel_rfl) (by kernel_rfl) (by kernel_rfl) (fun _ _ _ h => h) (Or.inr ⟨by rfl, rfl⟩) (by assumption) ?_
      simp only [Act.put, List.setIfInBounds_toArray, List.set_cons_zero, List.set_cons_succ]
      refine wpAnyH_take (i := 7) (oi := { dst := some 22, op := Op.move (Operand.tmp 0), type := 22, pos := "transport.go:78", after := #[{ on := 6, ground := Ground.guard }], guard := some (6, true) }) (v := undef) rfl (by kernel_rfl) (by kernel_rfl) (by kernel_rfl) (fun _ _ _ h => h) (Or.inr ⟨by rfl, rfl⟩) (by assumption) ?_
      simp only [Act.put, List.setIfInBounds_toArray, List.set_cons_zero, List.set_cons_succ]
      refine wpAnyH_take (i := 8) (oi := { dst := some 23, op := Op.move (Operand.tmp 3), type := 3, pos := "transport.go:78", after := #[{ on := 6, ground := Ground.guard }], guard := some (6, true) }) (v := undef) rfl (by kernel_rfl) (by kernel_rfl) (by kernel_rfl) (fun _ _ _ h => h) (Or.inr ⟨by rfl, rfl⟩) (by assumption) ?_
      simp only [Act.put, List.setIfInBounds_toArray, List.set_cons_zero, List.set_cons_succ]
      refine wpAnyH_take (i := 9) (oi := { dst := some 24, op := Op.binOp BinOp.sub 3 (Operand.tmp 23) (Operand.const (Value.int IntKind.i64 1)) 3, type := 3, pos := "transport.go:78", after := #[{ on := 8, ground := Ground.data }, { on := 6, ground := Ground.guard }], guard := some (6, true) }) (v := undef) rfl (by kernel_rfl) (by kernel_rfl) (by kernel_rfl) (fun _ _ _ h => h) (Or.inr ⟨by rfl, rfl⟩) (by assumption) ?_
      simp only [Act.put, List.setIfInBounds_toArray, List.set_cons_zero, List.set_cons_succ]
      refine wpAnyH_take (i := 10) (oi := { dst := some 25, op := Op.indexAddr 22 (Operand.tmp 22) (Operand.tmp 24), type := 0, pos := "transport.go:78", after := #[{ on := 7, ground := Ground.data }, { on := 9, ground := Ground.data }, { on := 6, ground := Ground.guard }], guard := some (6, true) }) (v := undef) rfl (by kernel_rfl) (by kernel_rfl) (by kernel_rfl) (fun _ _ _ h => h) (Or.inr ⟨by rfl, rfl⟩) (by assumption) ?_
      simp only [Act.put, List.setIfInBounds_toArray, List.set_cons_zero, List.set_cons_succ]
      refine wpAnyH_take (i := 11) (oi := { dst := some 26, op := Op.fieldAddr 40 (Operand.tmp 25) 0, type := 0, pos := "transport.go:78", after := #[{ on := 10, ground := Ground.data }, { on := 6, ground := Ground.guard }], guard := some (6, true) }) (v := undef) rfl (by kernel_rfl) (by kernel_rfl) (by kernel_rfl) (fun _ _ _ h => h) (Or.inr ⟨by rfl, rfl⟩) (by assumption) ?_
      simp only [Act.put, List.setIfInBounds_toArray, List.set_cons_zero, List.set_cons_succ]
      refine wpAnyH_take (i := 12) (oi := { dst := some 27, op := Op.load 3 (Operand.tmp 26), type := 3, pos := "transport.go:78", after := #[{ on := 11, ground := Ground.data }, { on := 6, ground := Ground.guard }], guard := some (6, true) }) (v := undef) rfl (by kernel_rfl) (by kernel_rfl) (by kernel_rfl) (fun _ _ _ h => h) (Or.inr ⟨by rfl, rfl⟩) (by assumption) ?_
      simp only [Act.put, List.setIfInBounds_toArray, List.set_cons_zero, List.set_cons_succ]
      refine wpAnyH_take (i := 13) (oi := { dst := some 28, op := Op.fieldAddr 40 (Operand.tmp 4) 0, type := 0, pos := "transport.go:78", after := #[{ on := 6, ground := Ground.guard }], guard := some (6, true) }) (v := undef) rfl (by kernel_rfl) (by kernel_rfl) (by kernel_rfl) (fun _ _ _ h => h) (Or.inr ⟨by rfl, rfl⟩) (by assumption) ?_
      simp only [Act.put, List.setIfInBounds_toArray, List.set_cons_zero, List.set_cons_succ]
      refine wpAnyH_take (i := 14) (oi := { dst := some 29, op := Op.load 3 (Operand.tmp 28), type := 3, pos := "transport.go:78", after := #[{ on := 13, ground := Ground.data }, { on := 6, ground := Ground.guard }], guard := some (6, true) }) (v := undef) rfl (by kernel_rfl) (by kernel_rfl) (by kernel_rfl) (fun _ _ _ h => h) (Or.inr ⟨by rfl, rfl⟩) (by assumption) ?_
      simp only [Act.put, List.setIfInBounds_toArray, List.set_cons_zero, List.set_cons_succ]
      refine wpAnyH_take (i := 15) (oi := { dst := some 30, op := Op.binOp BinOp.gtr 3 (Operand.tmp 27) (Operand.tmp 29) 3, type := 4, pos := "transport.go:78", after := #[{ on := 12, ground := Ground.data }, { on := 14, ground := Ground.data }, { on := 6, ground := Ground.guard }], guard := some (6, true) }) (v := undef) rfl (by kernel_rfl) (by kernel_rfl) (by kernel_rfl) (fun _ _ _ h => h) (Or.inr ⟨by rfl, rfl⟩) (by assumption) ?_
      simp only [Act.put, List.setIfInBounds_toArray, List.set_cons_zero, List.set_cons_succ]
      refine wpAnyH_take (i := 16) (oi := { dst := some 31, op := Op.pick (Operand.tmp 21) (Operand.tmp 30) (Operand.const (Value.bool false)), type := 4, pos := "transport.go:78", after := #[{ on := 6, ground := Ground.data }, { on := 15, ground := Ground.data }, { on := 3, ground := Ground.guard }], guard := some (3, false) }) (v := undef) rfl (by kernel_rfl) (by kernel_rfl) (by kernel_rfl) (fun _ _ _ h => h) (Or.inr ⟨by rfl, rfl⟩) (by assumption) ?_
      simp only [Act.put, List.setIfInBounds_toArray, List.set_cons_zero, List.set_cons_succ]
      refine wpAnyH_take (i := 17) (oi := { dst := some 32, op := Op.pick (Operand.tmp 18) (Operand.const (Value.bool true)) (Operand.tmp 31), type := 4, pos := "transport.go:78", after := #[{ on := 3, ground := Ground.data }, { on := 16, ground := Ground.data }], guard := none }) (v := ?_) rfl (by kernel_rfl) (by kernel_rfl) (by kernel_rfl) (fun _ _ _ h => h) (Or.inl ⟨by rfl, ?_⟩) (by assumption) ?_
      rotate_left
      · intro wS hSw; go_split_ands; go_simp; first | done | with_reducible rfl
      simp only [Act.put, List.setIfInBounds_toArray, List.set_cons_zero, List.set_cons_succ]
      refine wpAnyH_done (by kernel_rfl) ?_ _
      have b5 : Below w.heap.size w w2 := (below_drewN (show Below w.heap.size w (wr.alloc (.cells #[.int .i64 t, .int .i64 kd, .int .i64 xa, .int .i64 xb] 40)) from hwr.alloc hwr.size _) 1).trans (hb2.mono (by simp; omega))
      go_wp2
      go_ret
      exact ⟨by rw [E.out]; rfl, b5⟩
    rw [show rightB ⟨t, kd, xa, xb⟩ = true from decide_eq_true hR] at KR
    have HR := Lib.hid hR
    clear hR
    by_cases hk0 : k = 0
    · have d1 : decide (0 < (k : Int)) = false := decide_eq_false (by omega)
      have d2 : decide (0 < k) = false := decide_eq_false (by omega)
      have HK := Lib.hid hk0
      clear hk0
      go_wp2_with fail
      have hsz := hwr.size
      refine wp_region_held_drew (S := (fun W => W.cell? ⟨wr.heap.size, 0, none⟩ = some (.int .i64 t) ∧ W.cell? ⟨wr.heap.size, 1, none⟩ = some (.int .i64 kd) ∧ W.cell? ⟨wr.heap.size, 2, none⟩ = some (.int .i64 xa) ∧ W.cell? ⟨wr.heap.size, 3, none⟩ = some (.int .i64 xb))) (by kernel_rfl) ?_ (fun hHeld => ?_)
      · go_keep
      try dsimp only at hHeld
      refine wpAnyH_take (i := 0) (oi := { dst := some 15, op := Op.load 40 (Operand.tmp 4), type := 40, pos := "transport.go:78", after := #[], guard := none }) (v := ?_) rfl (by kernel_rfl) (by kernel_rfl) (by kernel_rfl) (fun _ _ _ h => h) (Or.inl ⟨by rfl, ?_⟩) (by assumption) ?_
      rotate_left
      · intro wS hSw; go_split_ands; go_simp; first | done | with_reducible rfl
      simp only [Act.put, List.setIfInBounds_toArray, List.set_cons_zero, List.set_cons_succ]
      refine wpAnyH_ready (rs := [1]) (by kernel_rfl) (by simp) ?_
      refine AllReadyH.cons (o := { dst := some 16, op := Op.call { callee := Callee.value (Operand.func 19), args := #[Operand.tmp 15], argTypes := #[40] }, type := 4, pos := "transport.go:78", after := #[{ on := 0, ground := Ground.data }], guard := none }) rfl (fun K hK => ?_) AllReadyH.nil
      go_simp
      go_at_call 19; refine (KR _).mono ?_; rintro e w2 ⟨rfl, hb2⟩
      refine hK.out _ _ ?_ (fun hHeld => ?_)
      · exact ⟨(hb2.cell (p := ⟨wr.heap.size, 0, none⟩) (by simp <;> omega)).trans (by go_keep), (hb2.cell (p := ⟨wr.heap.size, 1, none⟩) (by simp <;> omega)).trans (by go_keep), (hb2.cell (p := ⟨wr.heap.size, 2, none⟩) (by simp <;> omega)).trans (by go_keep), (hb2.cell (p := ⟨wr.heap.size, 3, none⟩) (by simp <;> omega)).trans (by go_keep)⟩
      clear hK K
      try simp only [Act.put, List.setIfInBounds_toArray, List.set_cons_zero, List.set_cons_succ]
      refine wpAnyH_take (i := 2) (oi := { dst := some 17, op := Op.unOp UnOp.not 4 (Operand.tmp 16), type := 4, pos := "transport.go:78", after := #[{ on := 1, ground := Ground.data }], guard := none }) (v := ?_) rfl (by kernel_rfl) (by kernel_rfl) (by kernel_rfl) (fun _ _ _ h => h) (Or.inl ⟨by rfl, ?_⟩) (by assumption) ?_
      rotate_left
      · intro wS hSw; go_split_ands; go_simp; first | done | with_reducible rfl
      simp only [Act.put, List.setIfInBounds_toArray, List.set_cons_zero, List.set_cons_succ]
      refine wpAnyH_take (i := 3) (oi := { dst := some 18, op := Op.move (Operand.tmp 17), type := 4, pos := "transport.go:78", after := #[{ on := 2, ground := Ground.data }, { on := 1, ground := Ground.chain }], guard := none }) (v := ?_) rfl (by kernel_rfl) (by kernel_rfl) (by kernel_rfl) (fun _ _ _ h => h) (Or.inl ⟨by rfl, ?_⟩) (by assumption) ?_
      rotate_left
      · intro wS hSw; go_split_ands; go_simp; first | done | with_reducible rfl
      simp only [Act.put, List.setIfInBounds_toArray, List.set_cons_zero, List.set_cons_succ]
      refine wpAnyH_take (i := 4) (oi := { dst := some 19, op := Op.move (Operand.tmp 3), type := 3, pos := "transport.go:78", after := #[{ on := 3, ground := Ground.guard }], guard := some (3, false) }) (v := ?_) rfl (by kernel_rfl) (by kernel_rfl) (by kernel_rfl) (fun _ _ _ h => h) (Or.inl ⟨by rfl, ?_⟩) (by assumption) ?_
      rotate_left
      · intro wS hSw; go_split_ands; go_simp; first | done | with_reducible rfl
      simp only [Act.put, List.setIfInBounds_toArray, List.set_cons_zero, List.set_cons_succ]
      refine wpAnyH_take (i := 5) (oi := { dst := some 20, op := Op.binOp BinOp.gtr 3 (Operand.tmp 19) (Operand.const (Value.int IntKind.i64 0)) 3, type := 4, pos := "transport.go:78", after := #[{ on := 4, ground := Ground.data }, { on := 3, ground := Ground.guard }], guard := some (3, false) }) (v := ?_) rfl (by kernel_rfl) (by kernel_rfl) (by kernel_rfl) (fun _ _ _ h => h) (Or.inl ⟨by rfl, ?_⟩) (by assumption) ?_
      rotate_left
      · intro wS hSw; go_split_ands; go_simp; first | done | with_reducible rfl
      simp only [Act.put, List.setIfInBounds_toArray, List.set_cons_zero, List.set_cons_succ]
      refine wpAnyH_take (i := 6) (oi := { dst := some 21, op := Op.move (Operand.tmp 20), type := 4, pos := "transport.go:78", after := #[{ on := 5, ground := Ground.data }, { on := 3, ground := Ground.chain }, { on := 3, ground := Ground.guard }], guard := some (3, false) }) (v := ?_) rfl (by kernel_rfl) (by kernel_rfl) (by kernel_rfl) (fun _ _ _ h => h) (Or.inl ⟨by rfl, ?_⟩) (by assumption) ?_
      rotate_left
      · intro wS hSw; go_split_ands; go_simp; first | done | with_reducible rfl
      simp only [Act.put, List.setIfInBounds_toArray, List.set_cons_zero, List.set_cons_succ]
      refine wpAnyH_take (i := 7) (oi := { dst := some 22, op := Op.move (Operand.tmp 0), type := 22, pos := "transport.go:78", after := #[{ on := 6, ground := Ground.guard }], guard := some (6, true) }) (v := undef) rfl (by kernel_rfl) (by kernel_rfl) (by kernel_rfl) (fun _ _ _ h => h) (Or.inr ⟨by rfl, rfl⟩) (by assumption) ?_
      simp only [Act.put, List.setIfInBounds_toArray, List.set_cons_zero, List.set_cons_succ]
      refine wpAnyH_take (i := 8) (oi := { dst := some 23, op := Op.move (Operand.tmp 3), type := 3, pos := "transport.go:78", after := #[{ on := 6, ground := Ground.guard }], guard := some (6, true) }) (v := undef) rfl (by kernel_rfl) (by kernel_rfl) (by kernel_rfl) (fun _ _ _ h => h) (Or.inr ⟨by rfl, rfl⟩) (by assumption) ?_
      simp only [Act.put, List.setIfInBounds_toArray, List.set_cons_zero, List.set_cons_succ]
      refine wpAnyH_take (i := 9) (oi := { dst := some 24, op := Op.binOp BinOp.sub 3 (Operand.tmp 23) (Operand.const (Value.int IntKind.i64 1)) 3, type := 3, pos := "transport.go:78", after := #[{ on := 8, ground := Ground.data }, { on := 6, ground := Ground.guard }], guard := some (6, true) }) (v := undef) rfl (by kernel_rfl) (by kernel_rfl) (by kernel_rfl) (fun _ _ _ h => h) (Or.inr ⟨by rfl, rfl⟩) (by assumption) ?_
      simp only [Act.put, List.setIfInBounds_toArray, List.set_cons_zero, List.set_cons_succ]
      refine wpAnyH_take (i := 10) (oi := { dst := some 25, op := Op.indexAddr 22 (Operand.tmp 22) (Operand.tmp 24), type := 0, pos := "transport.go:78", after := #[{ on := 7, ground := Ground.data }, { on := 9, ground := Ground.data }, { on := 6, ground := Ground.guard }], guard := some (6, true) }) (v := undef) rfl (by kernel_rfl) (by kernel_rfl) (by kernel_rfl) (fun _ _ _ h => h) (Or.inr ⟨by rfl, rfl⟩) (by assumption) ?_
      simp only [Act.put, List.setIfInBounds_toArray, List.set_cons_zero, List.set_cons_succ]
      refine wpAnyH_take (i := 11) (oi := { dst := some 26, op := Op.fieldAddr 40 (Operand.tmp 25) 0, type := 0, pos := "transport.go:78", after := #[{ on := 10, ground := Ground.data }, { on := 6, ground := Ground.guard }], guard := some (6, true) }) (v := undef) rfl (by kernel_rfl) (by kernel_rfl) (by kernel_rfl) (fun _ _ _ h => h) (Or.inr ⟨by rfl, rfl⟩) (by assumption) ?_
      simp only [Act.put, List.setIfInBounds_toArray, List.set_cons_zero, List.set_cons_succ]
      refine wpAnyH_take (i := 12) (oi := { dst := some 27, op := Op.load 3 (Operand.tmp 26), type := 3, pos := "transport.go:78", after := #[{ on := 11, ground := Ground.data }, { on := 6, ground := Ground.guard }], guard := some (6, true) }) (v := undef) rfl (by kernel_rfl) (by kernel_rfl) (by kernel_rfl) (fun _ _ _ h => h) (Or.inr ⟨by rfl, rfl⟩) (by assumption) ?_
      simp only [Act.put, List.setIfInBounds_toArray, List.set_cons_zero, List.set_cons_succ]
      refine wpAnyH_take (i := 13) (oi := { dst := some 28, op := Op.fieldAddr 40 (Operand.tmp 4) 0, type := 0, pos := "transport.go:78", after := #[{ on := 6, ground := Ground.guard }], guard := some (6, true) }) (v := undef) rfl (by kernel_rfl) (by kernel_rfl) (by kernel_rfl) (fun _ _ _ h => h) (Or.inr ⟨by rfl, rfl⟩) (by assumption) ?_
      simp only [Act.put, List.setIfInBounds_toArray, List.set_cons_zero, List.set_cons_succ]
      refine wpAnyH_take (i := 14) (oi := { dst := some 29, op := Op.load 3 (Operand.tmp 28), type := 3, pos := "transport.go:78", after := #[{ on := 13, ground := Ground.data }, { on := 6, ground := Ground.guard }], guard := some (6, true) }) (v := undef) rfl (by kernel_rfl) (by kernel_rfl) (by kernel_rfl) (fun _ _ _ h => h) (Or.inr ⟨by rfl, rfl⟩) (by assumption) ?_
      simp only [Act.put, List.setIfInBounds_toArray, List.set_cons_zero, List.set_cons_succ]
      refine wpAnyH_take (i := 15) (oi := { dst := some 30, op := Op.binOp BinOp.gtr 3 (Operand.tmp 27) (Operand.tmp 29) 3, type := 4, pos := "transport.go:78", after := #[{ on := 12, ground := Ground.data }, { on := 14, ground := Ground.data }, { on := 6, ground := Ground.guard }], guard := some (6, true) }) (v := undef) rfl (by kernel_rfl) (by kernel_rfl) (by kernel_rfl) (fun _ _ _ h => h) (Or.inr ⟨by rfl, rfl⟩) (by assumption) ?_
      simp only [Act.put, List.setIfInBounds_toArray, List.set_cons_zero, List.set_cons_succ]
      refine wpAnyH_take (i := 16) (oi := { dst := some 31, op := Op.pick (Operand.tmp 21) (Operand.tmp 30) (Operand.const (Value.bool false)), type := 4, pos := "transport.go:78", after := #[{ on := 6, ground := Ground.data }, { on := 15, ground := Ground.data }, { on := 3, ground := Ground.guard }], guard := some (3, false) }) (v := ?_) rfl (by kernel_rfl) (by kernel_rfl) (by kernel_rfl) (fun _ _ _ h => h) (Or.inl ⟨by rfl, ?_⟩) (by assumption) ?_
      rotate_left
      · intro wS hSw; go_split_ands; go_simp; first | done | with_reducible rfl
      simp only [Act.put, List.setIfInBounds_toArray, List.set_cons_zero, List.set_cons_succ]
      refine wpAnyH_take (i := 17) (oi := { dst := some 32, op := Op.pick (Operand.tmp 18) (Operand.const (Value.bool true)) (Operand.tmp 31), type := 4, pos := "transport.go:78", after := #[{ on := 3, ground := Ground.data }, { on := 16, ground := Ground.data }], guard := none }) (v := ?_) rfl (by kernel_rfl) (by kernel_rfl) (by kernel_rfl) (fun _ _ _ h => h) (Or.inl ⟨by rfl, ?_⟩) (by assumption) ?_
      rotate_left
      · intro wS hSw; go_split_ands; go_simp; first | done | with_reducible rfl
      simp only [Act.put, List.setIfInBounds_toArray, List.set_cons_zero, List.set_cons_succ]
      refine wpAnyH_done (by kernel_rfl) ?_ _
      have b5 : Below w.heap.size w w2 := (below_drewN (show Below w.heap.size w (wr.alloc (.cells #[.int .i64 t, .int .i64 kd, .int .i64 xa, .int .i64 xb] 40)) from hwr.alloc hwr.size _) 1).trans (hb2.mono (by simp; omega))
      go_wp2
      go_roundw
      case rel => exact ⟨k + 1, by omega, by go_num, Lib.hid (GoodTo.step.2 ⟨hg.out, by rw [HX.out]; exact HR.out, fun j hj => by have := HK.out; omega⟩), b5⟩
      case measure => simp [intOf]; omega
    obtain ⟨j, rfl⟩ : ∃ j, k = j + 1 := ⟨k - 1, by omega⟩
    clear hk0
    have gp := hm.c0 j (by omega)
    have i3 : (j : Int) < (l.length : Int) := by omega
    have i4 : IntKind.i64.wrap (j : Int) = (j : Int) := IntWalk.i64_in _ (by omega)
    have i5 : (j : Int) + 1 < (l.length : Int) := by omega
    have i6 : IntKind.i64.wrap ((j : Int) + 1) = (j : Int) + 1 := IntWalk.i64_in _ (by omega)
    obtain ⟨s, hs⟩ : ∃ x, x = oT l j := ⟨_, rfl⟩
    rw [← hs] at gp
    have HS := Lib.hid hs
    clear hs
    have d1 : decide (0 < (j : Int) + 1) = true := decide_eq_true (by omega)
    by_cases hst : t < s
    · have d2 : decide (t < s) = true := decide_eq_true hst
      have E := Lib.hid (HBAD.out fun hG => by
        have h1 := hG.2 j hlt
        have h2 := HS.out
        have h3 := HT.out
        omega)
      clear hst
      go_wp2_with fail
      have hsz := hwr.size
      refine wp_region_held_drew (S := (fun W => W.cell? ⟨wr.heap.size, 0, none⟩ = some (.int .i64 t) ∧ W.cell? ⟨wr.heap.size, 1, none⟩ = some (.int .i64 kd) ∧ W.cell? ⟨wr.heap.size, 2, none⟩ = some (.int .i64 xa) ∧ W.cell? ⟨wr.heap.size, 3, none⟩ = some (.int .i64 xb) ∧ W.cell? ⟨b, o + j * 4, none⟩ = some (.int .i64 s))) (by kernel_rfl) ?_ (fun hHeld => ?_)
      · go_keep
      try dsimp only at hHeld
      refine wpAnyH_take (i := 0) (oi := { dst := some 15, op := Op.load 40 (Operand.tmp 4), type := 40, pos := "transport.go:78", after := #[], guard := none }) (v := ?_) rfl (by kernel_rfl) (by kernel_rfl) (by kernel_rfl) (fun _ _ _ h => h) (Or.inl ⟨by rfl, ?_⟩) (by assumption) ?_
      rotate_left
      · intro wS hSw; go_split_ands; go_simp; first | done | with_reducible rfl
      simp only [Act.put, List.setIfInBounds_toArray, List.set_cons_zero, List.set_cons_succ]
      refine wpAnyH_ready (rs := [1]) (by kernel_rfl) (by simp) ?_
      refine AllReadyH.cons (o := { dst := some 16, op := Op.call { callee := Callee.value (Operand.func 19), args := #[Operand.tmp 15], argTypes := #[40] }, type := 4, pos := "transport.go:78", after := #[{ on := 0, ground := Ground.data }], guard := none }) rfl (fun K hK => ?_) AllReadyH.nil
      go_simp
      go_at_call 19; refine (KR _).mono ?_; rintro e w2 ⟨rfl, hb2⟩
      refine hK.out _ _ ?_ (fun hHeld => ?_)
      · exact ⟨(hb2.cell (p := ⟨wr.heap.size, 0, none⟩) (by simp <;> omega)).trans (by go_keep), (hb2.cell (p := ⟨wr.heap.size, 1, none⟩) (by simp <;> omega)).trans (by go_keep), (hb2.cell (p := ⟨wr.heap.size, 2, none⟩) (by simp <;> omega)).trans (by go_keep), (hb2.cell (p := ⟨wr.heap.size, 3, none⟩) (by simp <;> omega)).trans (by go_keep), (hb2.cell (p := ⟨b, o + j * 4, none⟩) (by simp <;> omega)).trans (by go_keep)⟩
      clear hK K
      try simp only [Act.put, List.setIfInBounds_toArray, List.set_cons_zero, List.set_cons_succ]
      refine wpAnyH_take (i := 2) (oi := { dst := some 17, op := Op.unOp UnOp.not 4 (Operand.tmp 16), type := 4, pos := "transport.go:78", after := #[{ on := 1, ground := Ground.data }], guard := none }) (v := ?_) rfl (by kernel_rfl) (by kernel_rfl) (by kernel_rfl) (fun _ _ _ h => h) (Or.inl ⟨by rfl, ?_⟩) (by assumption) ?_
      rotate_left
      · intro wS hSw; go_split_ands; go_simp; first | done | with_reducible rfl
      simp only [Act.put, List.setIfInBounds_toArray, List.set_cons_zero, List.set_cons_succ]
      refine wpAnyH_take (i := 3) (oi := { dst := some 18, op := Op.move (Operand.tmp 17), type := 4, pos := "transport.go:78", after := #[{ on := 2, ground := Ground.data }, { on := 1, ground := Ground.chain }], guard := none }) (v := ?_) rfl (by kernel_rfl) (by kernel_rfl) (by kernel_rfl) (fun _ _ _ h => h) (Or.inl ⟨by rfl, ?_⟩) (by assumption) ?_
      rotate_left
      · intro wS hSw; go_split_ands; go_simp; first | done | with_reducible rfl
      simp only [Act.put, List.setIfInBounds_toArray, List.set_cons_zero, List.set_cons_succ]
      refine wpAnyH_take (i := 4) (oi := { dst := some 19, op := Op.move (Operand.tmp 3), type := 3, pos := "transport.go:78", after := #[{ on := 3, ground := Ground.guard }], guard := some (3, false) }) (v := ?_) rfl (by kernel_rfl) (by kernel_rfl) (by kernel_rfl) (fun _ _ _ h => h) (Or.inl ⟨by rfl, ?_⟩) (by assumption) ?_
      rotate_left
      · intro wS hSw; go_split_ands; go_simp; first | done | with_reducible rfl
      simp only [Act.put, List.setIfInBounds_toArray, List.set_cons_zero, List.set_cons_succ]
      refine wpAnyH_take (i := 5) (oi := { dst := some 20, op := Op.binOp BinOp.gtr 3 (Operand.tmp 19) (Operand.const (Value.int IntKind.i64 0)) 3, type := 4, pos := "transport.go:78", after := #[{ on := 4, ground := Ground.data }, { on := 3, ground := Ground.guard }], guard := some (3, false) }) (v := ?_) rfl (by kernel_rfl) (by kernel_rfl) (by kernel_rfl) (fun _ _ _ h => h) (Or.inl ⟨by rfl, ?_⟩) (by assumption) ?_
      rotate_left
      · intro wS hSw; go_split_ands; go_simp; first | done | with_reducible rfl
      simp only [Act.put, List.setIfInBounds_toArray, List.set_cons_zero, List.set_cons_succ]
      refine wpAnyH_take (i := 6) (oi := { dst := some 21, op := Op.move (Operand.tmp 20), type := 4, pos := "transport.go:78", after := #[{ on := 5, ground := Ground.data }, { on := 3, ground := Ground.chain }, { on := 3, ground := Ground.guard }], guard := some (3, false) }) (v := ?_) rfl (by kernel_rfl) (by kernel_rfl) (by kernel_rfl) (fun _ _ _ h => h) (Or.inl ⟨by rfl, ?_⟩) (by assumption) ?_
      rotate_left
      · intro wS hSw; go_split_ands; go_simp; first | done | with_reducible rfl
      simp only [Act.put, List.setIfInBounds_toArray, List.set_cons_zero, List.set_cons_succ]
      refine wpAnyH_take (i := 7) (oi := { dst := some 22, op := Op.move (Operand.tmp 0), type := 22, pos := "transport.go:78", after := #[{ on := 6, ground := Ground.guard }], guard := some (6, true) }) (v := ?_) rfl (by kernel_rfl) (by kernel_rfl) (by kernel_rfl) (fun _ _ _ h => h) (Or.inl ⟨by rfl, ?_⟩) (by assumption) ?_
      rotate_left
      · intro wS hSw; go_split_ands; go_simp; first | done | with_reducible rfl
      simp only [Act.put, List.setIfInBounds_toArray, List.set_cons_zero, List.set_cons_succ]
      refine wpAnyH_take (i := 8) (oi := { dst := some 23, op := Op.move (Operand.tmp 3), type := 3, pos := "transport.go:78", after := #[{ on := 6, ground := Ground.guard }], guard := some (6, true) }) (v := ?_) rfl (by kernel_rfl) (by kernel_rfl) (by kernel_rfl) (fun _ _ _ h => h) (Or.inl ⟨by rfl, ?_⟩) (by assumption) ?_
      rotate_left
      · intro wS hSw; go_split_ands; go_simp; first | done | with_reducible rfl
      simp only [Act.put, List.setIfInBounds_toArray, List.set_cons_zero, List.set_cons_succ]
      refine wpAnyH_take (i := 9) (oi := { dst := some 24, op := Op.binOp BinOp.sub 3 (Operand.tmp 23) (Operand.const (Value.int IntKind.i64 1)) 3, type := 3, pos := "transport.go:78", after := #[{ on := 8, ground := Ground.data }, { on := 6, ground := Ground.guard }], guard := some (6, true) }) (v := ?_) rfl (by kernel_rfl) (by kernel_rfl) (by kernel_rfl) (fun _ _ _ h => h) (Or.inl ⟨by rfl, ?_⟩) (by assumption) ?_
      rotate_left
      · intro wS hSw; go_split_ands; go_simp; first | done | with_reducible rfl
      simp only [Act.put, List.setIfInBounds_toArray, List.set_cons_zero, List.set_cons_succ]
      refine wpAnyH_take (i := 10) (oi := { dst := some 25, op := Op.indexAddr 22 (Operand.tmp 22) (Operand.tmp 24), type := 0, pos := "transport.go:78", after := #[{ on := 7, ground := Ground.data }, { on := 9, ground := Ground.data }, { on := 6, ground := Ground.guard }], guard := some (6, true) }) (v := ?_) rfl (by kernel_rfl) (by kernel_rfl) (by kernel_rfl) (fun _ _ _ h => h) (Or.inl ⟨by rfl, ?_⟩) (by assumption) ?_
      rotate_left
      · intro wS hSw; go_split_ands; go_simp; first | done | with_reducible rfl
      simp only [Act.put, List.setIfInBounds_toArray, List.set_cons_zero, List.set_cons_succ]
      refine wpAnyH_take (i := 11) (oi := { dst := some 26, op := Op.fieldAddr 40 (Operand.tmp 25) 0, type := 0, pos := "transport.go:78", after := #[{ on := 10, ground := Ground.data }, { on := 6, ground := Ground.guard }], guard := some (6, true) }) (v := ?_) rfl (by kernel_rfl) (by kernel_rfl) (by kernel_rfl) (fun _ _ _ h => h) (Or.inl ⟨by rfl, ?_⟩) (by assumption) ?_
      rotate_left
      · intro wS hSw; go_split_ands; go_simp; first | done | with_reducible rfl
      simp only [Act.put, List.setIfInBounds_toArray, List.set_cons_zero, List.set_cons_succ]
      refine wpAnyH_take (i := 12) (oi := { dst := some 27, op := Op.load 3 (Operand.tmp 26), type := 3, pos := "transport.go:78", after := #[{ on := 11, ground := Ground.data }, { on := 6, ground := Ground.guard }], guard := some (6, true) }) (v := ?_) rfl (by kernel_rfl) (by kernel_rfl) (by kernel_rfl) (fun _ _ _ h => h) (Or.inl ⟨by rfl, ?_⟩) (by assumption) ?_
      rotate_left
      · intro wS hSw; go_split_ands; go_simp; first | done | with_reducible rfl
      simp only [Act.put, List.setIfInBounds_toArray, List.set_cons_zero, List.set_cons_succ]
      refine wpAnyH_take (i := 13) (oi := { dst := some 28, op := Op.fieldAddr 40 (Operand.tmp 4) 0, type := 0, pos := "transport.go:78", after := #[{ on := 6, ground := Ground.guard }], guard := some (6, true) }) (v := ?_) rfl (by kernel_rfl) (by kernel_rfl) (by kernel_rfl) (fun _ _ _ h => h) (Or.inl ⟨by rfl, ?_⟩) (by assumption) ?_
      rotate_left
      · intro wS hSw; go_split_ands; go_simp; first | done | with_reducible rfl
      simp only [Act.put, List.setIfInBounds_toArray, List.set_cons_zero, List.set_cons_succ]
      refine wpAnyH_take (i := 14) (oi := { dst := some 29, op := Op.load 3 (Operand.tmp 28), type := 3, pos := "transport.go:78", after := #[{ on := 13, ground := Ground.data }, { on := 6, ground := Ground.guard }], guard := some (6, true) }) (v := ?_) rfl (by kernel_rfl) (by kernel_rfl) (by kernel_rfl) (fun _ _ _ h => h) (Or.inl ⟨by rfl, ?_⟩) (by assumption) ?_
      rotate_left
      · intro wS hSw; go_split_ands; go_simp; first | done | with_reducible rfl
      simp only [Act.put, List.setIfInBounds_toArray, List.set_cons_zero, List.set_cons_succ]
      refine wpAnyH_take (i := 15) (oi := { dst := some 30, op := Op.binOp BinOp.gtr 3 (Operand.tmp 27) (Operand.tmp 29) 3, type := 4, pos := "transport.go:78", after := #[{ on := 12, ground := Ground.data }, { on := 14, ground := Ground.data }, { on := 6, ground := Ground.guard }], guard := some (6, true) }) (v := ?_) rfl (by kernel_rfl) (by kernel_rfl) (by kernel_rfl) (fun _ _ _ h => h) (Or.inl ⟨by rfl, ?_⟩) (by assumption) ?_
      rotate_left
      · intro wS hSw; go_split_ands; go_simp; first | done | with_reducible rfl
      simp only [Act.put, List.setIfInBounds_toArray, List.set_cons_zero, List.set_cons_succ]
      refine wpAnyH_take (i := 16) (oi := { dst := some 31, op := Op.pick (Operand.tmp 21) (Operand.tmp 30) (Operand.const (Value.bool false)), type := 4, pos := "transport.go:78", after := #[{ on := 6, ground := Ground.data }, { on := 15, ground := Ground.data }, { on := 3, ground := Ground.guard }], guard := some (3, false) }) (v := ?_) rfl (by kernel_rfl) (by kernel_rfl) (by kernel_rfl) (fun _ _ _ h => h) (Or.inl ⟨by rfl, ?_⟩) (by assumption) ?_
      rotate_left
      · intro wS hSw; go_split_ands; go_simp; first | done | with_reducible rfl
      simp only [Act.put, List.setIfInBounds_toArray, List.set_cons_zero, List.set_cons_succ]
      refine wpAnyH_take (i := 17) (oi := { dst := some 32, op := Op.pick (Operand.tmp 18) (Operand.const (Value.bool true)) (Operand.tmp 31), type := 4, pos := "transport.go:78", after := #[{ on := 3, ground := Ground.data }, { on := 16, ground := Ground.data }], guard := none }) (v := ?_) rfl (by kernel_rfl) (by kernel_rfl) (by kernel_rfl) (fun _ _ _ h => h) (Or.inl ⟨by rfl, ?_⟩) (by assumption) ?_
      rotate_left
      · intro wS hSw; go_split_ands; go_simp; first | done | with_reducible rfl
      simp only [Act.put, List.setIfInBounds_toArray, List.set_cons_zero, List.set_cons_succ]
      refine wpAnyH_done (by kernel_rfl) ?_ _
      have b5 : Below w.heap.size w w2 := (below_drewN (show Below w.heap.size w (wr.alloc (.cells #[.int .i64 t, .int .i64 kd, .int .i64 xa, .int .i64 xb] 40)) from hwr.alloc hwr.size _) 1).trans (hb2.mono (by simp; omega))
      go_wp2
      go_ret
      exact ⟨by rw [E.out]; rfl, b5⟩
    · have d2 : decide (t < s) = false := decide_eq_false hst
      have HST := Lib.hid hst
      clear hst
      go_wp2_with fail
      have hsz := hwr.size
      refine wp_region_held_drew (S := (fun W => W.cell? ⟨wr.heap.size, 0, none⟩ = some (.int .i64 t) ∧ W.cell? ⟨wr.heap.size, 1, none⟩ = some (.int .i64 kd) ∧ W.cell? ⟨wr.heap.size, 2, none⟩ = some (.int .i64 xa) ∧ W.cell? ⟨wr.heap.size, 3, none⟩ = some (.int .i64 xb) ∧ W.cell? ⟨b, o + j * 4, none⟩ = some (.int .i64 s))) (by kernel_rfl) ?_ (fun hHeld => ?_)
      · go_keep
      try dsimp only at hHeld
      refine wpAnyH_take (i := 0) (oi := { dst := some 15, op := Op.load 40 (Operand.tmp 4), type := 40, pos := "transport.go:78", after := #[], guard := none }) (v := ?_) rfl (by kernel_rfl) (by kernel_rfl) (by kernel_rfl) (fun _ _ _ h => h) (Or.inl ⟨by rfl, ?_⟩) (by assumption) ?_
      rotate_left
      · intro wS hSw; go_split_ands; go_simp; first | done | with_reducible rfl
      simp only [Act.put, List.setIfInBounds_toArray, List.set_cons_zero, List.set_cons_succ]
      refine wpAnyH_ready (rs := [1]) (by kernel_rfl) (by simp) ?_
      refine AllReadyH.cons (o := { dst := some 16, op := Op.call { callee := Callee.value (Operand.func 19), args := #[Operand.tmp 15], argTypes := #[40] }, type := 4, pos := "transport.go:78", after := #[{ on := 0, ground := Ground.data }], guard := none }) rfl (fun K hK => ?_) AllReadyH.nil
      go_simp
      go_at_call 19; refine (KR _).mono ?_; rintro e w2 ⟨rfl, hb2⟩
      refine hK.out _ _ ?_ (fun hHeld => ?_)
      · exact ⟨(hb2.cell (p := ⟨wr.heap.size, 0, none⟩) (by simp <;> omega)).trans (by go_keep), (hb2.cell (p := ⟨wr.heap.size, 1, none⟩) (by simp <;> omega)).trans (by go_keep), (hb2.cell (p := ⟨wr.heap.size, 2, none⟩) (by simp <;> omega)).trans (by go_keep), (hb2.cell (p := ⟨wr.heap.size, 3, none⟩) (by simp <;> omega)).trans (by go_keep), (hb2.cell (p := ⟨b, o + j * 4, none⟩) (by simp <;> omega)).trans (by go_keep)⟩
      clear hK K
      try simp only [Act.put, List.setIfInBounds_toArray, List.set_cons_zero, List.set_cons_succ]
      refine wpAnyH_take (i := 2) (oi := { dst := some 17, op := Op.unOp UnOp.not 4 (Operand.tmp 16), type := 4, pos := "transport.go:78", after := #[{ on := 1, ground := Ground.data }], guard := none }) (v := ?_) rfl (by kernel_rfl) (by kernel_rfl) (by kernel_rfl) (fun _ _ _ h => h) (Or.inl ⟨by rfl, ?_⟩) (by assumption) ?_
      rotate_left
      · intro wS hSw; go_split_ands; go_simp; first | done | with_reducible rfl
      simp only [Act.put, List.setIfInBounds_toArray, List.set_cons_zero, List.set_cons_succ]
      refine wpAnyH_take (i := 3) (oi := { dst := some 18, op := Op.move (Operand.tmp 17), type := 4, pos := "transport.go:78", after := #[{ on := 2, ground := Ground.data }, { on := 1, ground := Ground.chain }], guard := none }) (v := ?_) rfl (by kernel_rfl) (by kernel_rfl) (by kernel_rfl) (fun _ _ _ h => h) (Or.inl ⟨by rfl, ?_⟩) (by assumption) ?_
      rotate_left
      · intro wS hSw; go_split_ands; go_simp; first | done | with_reducible rfl
      simp only [Act.put, List.setIfInBounds_toArray, List.set_cons_zero, List.set_cons_succ]
      refine wpAnyH_take (i := 4) (oi := { dst := some 19, op := Op.move (Operand.tmp 3), type := 3, pos := "transport.go:78", after := #[{ on := 3, ground := Ground.guard }], guard := some (3, false) }) (v := ?_) rfl (by kernel_rfl) (by kernel_rfl) (by kernel_rfl) (fun _ _ _ h => h) (Or.inl ⟨by rfl, ?_⟩) (by assumption) ?_
      rotate_left
      · intro wS hSw; go_split_ands; go_simp; first | done | with_reducible rfl
      simp only [Act.put, List.setIfInBounds_toArray, List.set_cons_zero, List.set_cons_succ]
      refine wpAnyH_take (i := 5) (oi := { dst := some 20, op := Op.binOp BinOp.gtr 3 (Operand.tmp 19) (Operand.const (Value.int IntKind.i64 0)) 3, type := 4, pos := "transport.go:78", after := #[{ on := 4, ground := Ground.data }, { on := 3, ground := Ground.guard }], guard := some (3, false) }) (v := ?_) rfl (by kernel_rfl) (by kernel_rfl) (by kernel_rfl) (fun _ _ _ h => h) (Or.inl ⟨by rfl, ?_⟩) (by assumption) ?_
      rotate_left
      · intro wS hSw; go_split_ands; go_simp; first | done | with_reducible rfl
      simp only [Act.put, List.setIfInBounds_toArray, List.set_cons_zero, List.set_cons_succ]
      refine wpAnyH_take (i := 6) (oi := { dst := some 21, op := Op.move (Operand.tmp 20), type := 4, pos := "transport.go:78", after := #[{ on := 5, ground := Ground.data }, { on := 3, ground := Ground.chain }, { on := 3, ground := Ground.guard }], guard := some (3, false) }) (v := ?_) rfl (by kernel_rfl) (by kernel_rfl) (by kernel_rfl) (fun _ _ _ h => h) (Or.inl ⟨by rfl, ?_⟩) (by assumption) ?_
      rotate_left
      · intro wS hSw; go_split_ands; go_simp; first | done | with_reducible rfl
      simp only [Act.put, List.setIfInBounds_toArray, List.set_cons_zero, List.set_cons_succ]
      refine wpAnyH_take (i := 7) (oi := { dst := some 22, op := Op.move (Operand.tmp 0), type := 22, pos := "transport.go:78", after := #[{ on := 6, ground := Ground.guard }], guard := some (6, true) }) (v := ?_) rfl (by kernel_rfl) (by kernel_rfl) (by kernel_rfl) (fun _ _ _ h => h) (Or.inl ⟨by rfl, ?_⟩) (by assumption) ?_
      rotate_left
      · intro wS hSw; go_split_ands; go_simp; first | done | with_reducible rfl
      simp only [Act.put, List.setIfInBounds_toArray, List.set_cons_zero, List.set_cons_succ]
      refine wpAnyH_take (i := 8) (oi := { dst := some 23, op := Op.move (Operand.tmp 3), type := 3, pos := "transport.go:78", after := #[{ on := 6, ground := Ground.guard }], guard := some (6, true) }) (v := ?_) rfl (by kernel_rfl) (by kernel_rfl) (by kernel_rfl) (fun _ _ _ h => h) (Or.inl ⟨by rfl, ?_⟩) (by assumption) ?_
      rotate_left
      · intro wS hSw; go_split_ands; go_simp; first | done | with_reducible rfl
      simp only [Act.put, List.setIfInBounds_toArray, List.set_cons_zero, List.set_cons_succ]
      refine wpAnyH_take (i := 9) (oi := { dst := some 24, op := Op.binOp BinOp.sub 3 (Operand.tmp 23) (Operand.const (Value.int IntKind.i64 1)) 3, type := 3, pos := "transport.go:78", after := #[{ on := 8, ground := Ground.data }, { on := 6, ground := Ground.guard }], guard := some (6, true) }) (v := ?_) rfl (by kernel_rfl) (by kernel_rfl) (by kernel_rfl) (fun _ _ _ h => h) (Or.inl ⟨by rfl, ?_⟩) (by assumption) ?_
      rotate_left
      · intro wS hSw; go_split_ands; go_simp; first | done | with_reducible rfl
      simp only [Act.put, List.setIfInBounds_toArray, List.set_cons_zero, List.set_cons_succ]
      refine wpAnyH_take (i := 10) (oi := { dst := some 25, op := Op.indexAddr 22 (Operand.tmp 22) (Operand.tmp 24), type := 0, pos := "transport.go:78", after := #[{ on := 7, ground := Ground.data }, { on := 9, ground := Ground.data }, { on := 6, ground := Ground.guard }], guard := some (6, true) }) (v := ?_) rfl (by kernel_rfl) (by kernel_rfl) (by kernel_rfl) (fun _ _ _ h => h) (Or.inl ⟨by rfl, ?_⟩) (by assumption) ?_
      rotate_left
      · intro wS hSw; go_split_ands; go_simp; first | done | with_reducible rfl
      simp only [Act.put, List.setIfInBounds_toArray, List.set_cons_zero, List.set_cons_succ]
      refine wpAnyH_take (i := 11) (oi := { dst := some 26, op := Op.fieldAddr 40 (Operand.tmp 25) 0, type := 0, pos := "transport.go:78", after := #[{ on := 10, ground := Ground.data }, { on := 6, ground := Ground.guard }], guard := some (6, true) }) (v := ?_) rfl (by kernel_rfl) (by kernel_rfl) (by kernel_rfl) (fun _ _ _ h => h) (Or.inl ⟨by rfl, ?_⟩) (by assumption) ?_
      rotate_left
      · intro wS hSw; go_split_ands; go_simp; first | done | with_reducible rfl
      simp only [Act.put, List.setIfInBounds_toArray, List.set_cons_zero, List.set_cons_succ]
      refine wpAnyH_take (i := 12) (oi := { dst := some 27, op := Op.load 3 (Operand.tmp 26), type := 3, pos := "transport.go:78", after := #[{ on := 11, ground := Ground.data }, { on := 6, ground := Ground.guard }], guard := some (6, true) }) (v := ?_) rfl (by kernel_rfl) (by kernel_rfl) (by kernel_rfl) (fun _ _ _ h => h) (Or.inl ⟨by rfl, ?_⟩) (by assumption) ?_
      rotate_left
      · intro wS hSw; go_split_ands; go_simp; first | done | with_reducible rfl
      simp only [Act.put, List.setIfInBounds_toArray, List.set_cons_zero, List.set_cons_succ]
      refine wpAnyH_take (i := 13) (oi := { dst := some 28, op := Op.fieldAddr 40 (Operand.tmp 4) 0, type := 0, pos := "transport.go:78", after := #[{ on := 6, ground := Ground.guard }], guard := some (6, true) }) (v := ?_) rfl (by kernel_rfl) (by kernel_rfl) (by kernel_rfl) (fun _ _ _ h => h) (Or.inl ⟨by rfl, ?_⟩) (by assumption) ?_
      rotate_left
      · intro wS hSw; go_split_ands; go_simp; first | done | with_reducible rfl
      simp only [Act.put, List.setIfInBounds_toArray, List.set_cons_zero, List.set_cons_succ]
      refine wpAnyH_take (i := 14) (oi := { dst := some 29, op := Op.load 3 (Operand.tmp 28), type := 3, pos := "transport.go:78", after := #[{ on := 13, ground := Ground.data }, { on := 6, ground := Ground.guard }], guard := some (6, true) }) (v := ?_) rfl (by kernel_rfl) (by kernel_rfl) (by kernel_rfl) (fun _ _ _ h => h) (Or.inl ⟨by rfl, ?_⟩) (by assumption) ?_
      rotate_left
      · intro wS hSw; go_split_ands; go_simp; first | done | with_reducible rfl
      simp only [Act.put, List.setIfInBounds_toArray, List.set_cons_zero, List.set_cons_succ]
      refine wpAnyH_take (i := 15) (oi := { dst := some 30, op := Op.binOp BinOp.gtr 3 (Operand.tmp 27) (Operand.tmp 29) 3, type := 4, pos := "transport.go:78", after := #[{ on := 12, ground := Ground.data }, { on := 14, ground := Ground.data }, { on := 6, ground := Ground.guard }], guard := some (6, true) }) (v := ?_) rfl (by kernel_rfl) (by kernel_rfl) (by kernel_rfl) (fun _ _ _ h => h) (Or.inl ⟨by rfl, ?_⟩) (by assumption) ?_
      rotate_left
      · intro wS hSw; go_split_ands; go_simp; first | done | with_reducible rfl
      simp only [Act.put, List.setIfInBounds_toArray, List.set_cons_zero, List.set_cons_succ]
      refine wpAnyH_take (i := 16) (oi := { dst := some 31, op := Op.pick (Operand.tmp 21) (Operand.tmp 30) (Operand.const (Value.bool false)), type := 4, pos := "transport.go:78", after := #[{ on := 6, ground := Ground.data }, { on := 15, ground := Ground.data }, { on := 3, ground := Ground.guard }], guard := some (3, false) }) (v := ?_) rfl (by kernel_rfl) (by kernel_rfl) (by kernel_rfl) (fun _ _ _ h => h) (Or.inl ⟨by rfl, ?_⟩) (by assumption) ?_
      rotate_left
      · intro wS hSw; go_split_ands; go_simp; first | done | with_reducible rfl
      simp only [Act.put, List.setIfInBounds_toArray, List.set_cons_zero, List.set_cons_succ]
      refine wpAnyH_take (i := 17) (oi := { dst := some 32, op := Op.pick (Operand.tmp 18) (Operand.const (Value.bool true)) (Operand.tmp 31), type := 4, pos := "transport.go:78", after := #[{ on := 3, ground := Ground.data }, { on := 16, ground := Ground.data }], guard := none }) (v := ?_) rfl (by kernel_rfl) (by kernel_rfl) (by kernel_rfl) (fun _ _ _ h => h) (Or.inl ⟨by rfl, ?_⟩) (by assumption) ?_
      rotate_left
      · intro wS hSw; go_split_ands; go_simp; first | done | with_reducible rfl
      simp only [Act.put, List.setIfInBounds_toArray, List.set_cons_zero, List.set_cons_succ]
      refine wpAnyH_done (by kernel_rfl) ?_ _
      have b5 : Below w.heap.size w w2 := (below_drewN (show Below w.heap.size w (wr.alloc (.cells #[.int .i64 t, .int .i64 kd, .int .i64 xa, .int .i64 xb] 40)) from hwr.alloc hwr.size _) 1).trans (hb2.mono (by simp; omega))
      go_wp2
      go_roundw
      case rel =>
        refine ⟨j + 1 + 1, by omega, by go_num, Lib.hid (GoodTo.step.2 ⟨hg.out, by rw [HX.out]; exact HR.out, fun i hi => ?_⟩), b5⟩
        obtain rfl : i = j := by omega
        have h2 := HS.out
        have h3 := HT.out
        have h4 := HST.out
        omega
      case measure => simp [intOf]; omega

end Go.Proofs.Ytjkclplnflaplaa
