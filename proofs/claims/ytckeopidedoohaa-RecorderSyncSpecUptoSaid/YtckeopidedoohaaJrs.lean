/-
  record of the journal's reference. Conditions: sectors of 128 bytes, at most 4096 of them. | records of the journal's reference. Conditions: sectors of 128 bytes, at most 4096 of them.
-/
import Derived.Test.YtckeopidedoohaaTk
import Derived.Test.YtckeopidedoohaaJgd
import Derived.Test.YtckeopidedoohaaJit
import Derived.Deep.CutBlock
import Derived.Deep.DeepCutAuto
import Derived.Test.YtckeopidedoohaaJop
namespace Go.Proofs.Ytckeopidedoohaa
open Go.RowKit
variable {n₀ : Nat}
attribute [local go_sem] Oper.semAt_some
@[reducible] def oJrr0 : Oper := { dst := some 24, op := Op.move (Operand.tmp 8), type := 35, pos := "ref.go:85", after := #[], guard := none }
@[reducible] def oJrr1 : Oper := { dst := some 25, op := Op.move (Operand.tmp 1), type := 3, pos := "ref.go:85", after := #[], guard := none }
@[reducible] def oJrr2 : Oper := { dst := some 26, op := Op.move (Operand.tmp 7), type := 3, pos := "ref.go:85", after := #[], guard := none }
@[reducible] def oJrr3 : Oper := { dst := some 27, op := Op.binOp BinOp.add 3 (Operand.tmp 25) (Operand.tmp 26) 3, type := 3, pos := "ref.go:85", after := #[{ on := 1, ground := Ground.data }, { on := 2, ground := Ground.data }], guard := none }
@[reducible] def oJrr4 : Oper := { dst := some 28, op := Op.call { callee := Callee.value (Operand.func 118), args := #[Operand.tmp 24, Operand.tmp 27], argTypes := #[35, 3] }, type := 4, pos := "ref.go:85", after := #[{ on := 0, ground := Ground.data }, { on := 3, ground := Ground.data }], guard := none }
@[reducible] def oJrr5 : Oper := { dst := some 29, op := Op.unOp UnOp.not 4 (Operand.tmp 28), type := 4, pos := "ref.go:85", after := #[{ on := 4, ground := Ground.data }], guard := none }
@[reducible] def oJrr6 : Oper := { dst := some 30, op := Op.move (Operand.tmp 29), type := 4, pos := "ref.go:85", after := #[{ on := 5, ground := Ground.data }, { on := 4, ground := Ground.chain }], guard := none }
@[reducible] def oJrr7 : Oper := { dst := some 31, op := Op.move (Operand.tmp 8), type := 35, pos := "ref.go:85", after := #[{ on := 6, ground := Ground.guard }], guard := some (6, false) }
@[reducible] def oJrr8 : Oper := { dst := some 32, op := Op.indexAddr 35 (Operand.tmp 31) (Operand.const (Value.int IntKind.i64 10)), type := 0, pos := "ref.go:85", after := #[{ on := 7, ground := Ground.data }, { on := 6, ground := Ground.guard }], guard := some (6, false) }
@[reducible] def oJrr9 : Oper := { dst := some 33, op := Op.load 5 (Operand.tmp 32), type := 5, pos := "ref.go:85", after := #[{ on := 8, ground := Ground.data }, { on := 6, ground := Ground.guard }], guard := some (6, false) }
@[reducible] def oJrr10 : Oper := { dst := some 34, op := Op.binOp BinOp.rem 5 (Operand.tmp 33) (Operand.const (Value.int IntKind.u8 2)) 5, type := 5, pos := "ref.go:85", after := #[{ on := 9, ground := Ground.data }, { on := 6, ground := Ground.guard }], guard := some (6, false) }
@[reducible] def oJrr11 : Oper := { dst := some 35, op := Op.binOp BinOp.eql 5 (Operand.tmp 34) (Operand.const (Value.int IntKind.u8 1)) 5, type := 4, pos := "ref.go:85", after := #[{ on := 10, ground := Ground.data }, { on := 6, ground := Ground.guard }], guard := some (6, false) }
@[reducible] def oJrr12 : Oper := { dst := some 36, op := Op.move (Operand.tmp 7), type := 3, pos := "ref.go:85", after := #[{ on := 6, ground := Ground.guard }], guard := some (6, false) }
@[reducible] def oJrr13 : Oper := { dst := some 37, op := Op.binOp BinOp.eql 3 (Operand.tmp 36) (Operand.const (Value.int IntKind.i64 0)) 3, type := 4, pos := "ref.go:85", after := #[{ on := 12, ground := Ground.data }, { on := 6, ground := Ground.guard }], guard := some (6, false) }
@[reducible] def oJrr14 : Oper := { dst := some 38, op := Op.binOp BinOp.neq 4 (Operand.tmp 35) (Operand.tmp 37) 4, type := 4, pos := "ref.go:85", after := #[{ on := 11, ground := Ground.data }, { on := 13, ground := Ground.data }, { on := 6, ground := Ground.guard }], guard := some (6, false) }
@[reducible] def oJrr15 : Oper := { dst := some 39, op := Op.pick (Operand.tmp 30) (Operand.const (Value.bool true)) (Operand.tmp 38), type := 4, pos := "ref.go:85", after := #[{ on := 6, ground := Ground.data }, { on := 14, ground := Ground.data }], guard := none }
@[reducible] def oJrr16 : Oper := { dst := some 40, op := Op.move (Operand.tmp 39), type := 4, pos := "ref.go:85", after := #[{ on := 15, ground := Ground.data }, { on := 6, ground := Ground.chain }], guard := none }
@[reducible] def oJrr17 : Oper := { dst := some 41, op := Op.move (Operand.tmp 7), type := 3, pos := "ref.go:85", after := #[{ on := 16, ground := Ground.guard }], guard := some (16, false) }
@[reducible] def oJrr18 : Oper := { dst := some 42, op := Op.binOp BinOp.gtr 3 (Operand.tmp 41) (Operand.const (Value.int IntKind.i64 0)) 3, type := 4, pos := "ref.go:85", after := #[{ on := 17, ground := Ground.data }, { on := 16, ground := Ground.guard }], guard := some (16, false) }
@[reducible] def oJrr19 : Oper := { dst := some 43, op := Op.move (Operand.tmp 42), type := 4, pos := "ref.go:85", after := #[{ on := 18, ground := Ground.data }, { on := 16, ground := Ground.chain }, { on := 16, ground := Ground.guard }], guard := some (16, false) }
@[reducible] def oJrr20 : Oper := { dst := some 44, op := Op.move (Operand.tmp 8), type := 35, pos := "ref.go:85", after := #[{ on := 19, ground := Ground.guard }], guard := some (19, true) }
@[reducible] def oJrr21 : Oper := { dst := some 45, op := Op.slice 35 (Operand.tmp 44) none (some (Operand.const (Value.int IntKind.i64 4))) none, type := 35, pos := "ref.go:85", after := #[{ on := 20, ground := Ground.data }, { on := 19, ground := Ground.guard }], guard := some (19, true) }
@[reducible] def oJrr22 : Oper := { dst := some 46, op := Op.call { callee := Callee.value (Operand.func 107), args := #[Operand.tmp 45], argTypes := #[35] }, type := 109, pos := "ref.go:85", after := #[{ on := 21, ground := Ground.data }, { on := 19, ground := Ground.chain }, { on := 19, ground := Ground.guard }], guard := some (19, true) }
@[reducible] def oJrr23 : Oper := { dst := some 47, op := Op.move (Operand.tmp 0), type := 22, pos := "ref.go:85", after := #[{ on := 19, ground := Ground.guard }], guard := some (19, true) }
@[reducible] def oJrr24 : Oper := { dst := some 48, op := Op.move (Operand.tmp 1), type := 3, pos := "ref.go:85", after := #[{ on := 19, ground := Ground.guard }], guard := some (19, true) }
@[reducible] def oJrr25 : Oper := { dst := some 49, op := Op.indexAddr 22 (Operand.tmp 47) (Operand.tmp 48), type := 0, pos := "ref.go:85", after := #[{ on := 23, ground := Ground.data }, { on := 24, ground := Ground.data }, { on := 19, ground := Ground.guard }], guard := some (19, true) }
@[reducible] def oJrr26 : Oper := { dst := some 50, op := Op.load 35 (Operand.tmp 49), type := 35, pos := "ref.go:85", after := #[{ on := 25, ground := Ground.data }, { on := 19, ground := Ground.guard }], guard := some (19, true) }
@[reducible] def oJrr27 : Oper := { dst := some 51, op := Op.slice 35 (Operand.tmp 50) none (some (Operand.const (Value.int IntKind.i64 4))) none, type := 35, pos := "ref.go:85", after := #[{ on := 26, ground := Ground.data }, { on := 19, ground := Ground.guard }], guard := some (19, true) }
@[reducible] def oJrr28 : Oper := { dst := some 52, op := Op.call { callee := Callee.value (Operand.func 107), args := #[Operand.tmp 51], argTypes := #[35] }, type := 109, pos := "ref.go:85", after := #[{ on := 27, ground := Ground.data }, { on := 22, ground := Ground.chain }, { on := 19, ground := Ground.guard }], guard := some (19, true) }
@[reducible] def oJrr29 : Oper := { dst := some 53, op := Op.binOp BinOp.neq 109 (Operand.tmp 46) (Operand.tmp 52) 109, type := 4, pos := "ref.go:85", after := #[{ on := 22, ground := Ground.data }, { on := 28, ground := Ground.data }, { on := 19, ground := Ground.guard }], guard := some (19, true) }
@[reducible] def oJrr30 : Oper := { dst := some 54, op := Op.pick (Operand.tmp 43) (Operand.tmp 53) (Operand.const (Value.bool false)), type := 4, pos := "ref.go:85", after := #[{ on := 19, ground := Ground.data }, { on := 29, ground := Ground.data }, { on := 16, ground := Ground.guard }], guard := some (16, false) }
@[reducible] def oJrr31 : Oper := { dst := some 55, op := Op.pick (Operand.tmp 40) (Operand.const (Value.bool true)) (Operand.tmp 54), type := 4, pos := "ref.go:85", after := #[{ on := 16, ground := Ground.data }, { on := 30, ground := Ground.data }], guard := none }
attribute [local go_sem] oJrr0 oJrr1 oJrr2 oJrr3 oJrr4 oJrr5 oJrr6 oJrr7 oJrr8 oJrr9 oJrr10 oJrr11 oJrr12 oJrr13 oJrr14 oJrr15 oJrr16 oJrr17 oJrr18 oJrr19 oJrr20 oJrr21 oJrr22 oJrr23 oJrr24 oJrr25 oJrr26 oJrr27 oJrr28 oJrr29 oJrr30 oJrr31

/-- The record at a place: its sectors, its bytes; none: no sectors. -/
def rRec (l : List Bs) (a : Nat) : Nat × Bs := match recAt l a 0 with
  | none => (0, [])
  | some (m, b) => (m - a, b)
def RrIs (w : World) (x : Nat × Bs) (e : Ending) (w' : World) : Prop := ∃ y : Rc, RcOk y ∧ y.b = x.2 ∧ e = .returned (.tuple #[y.v, .int .i64 (x.1 : Nat)]) ∧ (∀ g t cs, y.bl = some (g, t, cs) → w'.heap[g]? = some (.cells cs t (0, 0)) ∧ w.heap.size ≤ g) ∧ Below w.heap.size w w'
theorem rRec_none {l : List Bs} {a : Nat} (h : recAt l a 0 = none) : rRec l a = (0, []) := by unfold rRec; rw [h]
theorem rRec_some {l : List Bs} {a m : Nat} {b : Bs} (h : recAt l a 0 = some (m, b)) : rRec l a = (m - a, b) := by unfold rRec; rw [h]
theorem rr_none {l : List Bs} {a : Nat} {w w' : World} (h : recAt l a 0 = none) (hb : Below w.heap.size w w') : RrIs w (rRec l a) (.returned (.tuple #[.slice none 0 0, .int .i64 0])) w' := by
  rw [rRec_none h]
  exact ⟨⟨0, [], .slice none 0 0, none⟩, .inl ⟨rfl, rfl, rfl⟩, rfl, rfl, fun g t cs h => (by cases h), hb⟩

set_option maxRecDepth 20000 in
set_option maxHeartbeats 8000000 in
theorem rrec_t (LA : Option Addr) (c at_ : Nat) (l : List Bs) (w : World) (_hn0 : n₀ ≤ w.heap.size) (h128 : ∀ b ∈ l, b.length = 128) (hll : l.length ≤ 4096) (hat : at_ ≤ l.length) (hr : RowsAt n₀ w LA l) :
    Calls Try.prog 106 #[.slice LA l.length c, .int .i64 (at_ : Nat)] w (RrIs w (rRec l at_)) := by
  obtain ⟨i0, hi0, hz0, hz1, hz2⟩ := info_parts info5
  have HR := Lib.hid hr
  have H128 := Lib.hid h128
  clear hr h128
  go_enter Try.func106, Try.ntmps106
  go_wp2_with (fail)
  go_loopw [6, 7] (fun v6 v7 wr => ∃ (j : Nat) (acc : Bs), v7 = .int .i64 (j : Nat) ∧ at_ + j ≤ l.length ∧ acc.length ≤ 112 * j ∧ wr.ownsRow w.heap.size 5 1 v6 acc.length (bcells acc) ∧ Below w.heap.size w wr ∧ Hid (recAt l at_ 0 = scan (sGen (l.getD at_ [])) 0 at_ (l.drop (at_ + j)) (at_ + j) acc)) (fun _ v7 _ => l.length - (intOf v7).toNat)
  case atStart => exact ⟨0, [], rfl, by omega, by simp, World.ownsRow_lit (base := w.heap.size) (e := 5) (size := 1) w #[] 0 (Nat.le_refl _) (by simp [maxLen]) rfl, (Below.refl _ _).alloc (Nat.le_refl _) _, Lib.hid rfl⟩
  case round =>
    obtain ⟨j, acc, rfl, hj, hacc, hown, hb, HSC⟩ := hrel
    have hws := hb.size
    have i1 : IntKind.i64.wrap ((at_ : Int) + (j : Int)) = (at_ : Int) + j := IntWalk.i64_in _ (by omega)
    by_cases hlt : at_ + j < l.length
    case neg =>
      have hn : recAt l at_ 0 = none := by rw [HSC.out, show at_ + j = l.length by omega, List.drop_length]; rfl
      have HN := Lib.hid hn
      clear hn
      have d0 : decide ((at_ : Int) + (j : Int) < (l.length : Int)) = false := decide_eq_false (by omega)
      have d0n : decide (at_ + j < l.length) = false := decide_eq_false (by omega)
      go_wp2_with (fail)
      refine bodyPost_ret (v := .tuple #[.slice none 0 0, .int .i64 0]) (by simp [results, Try.results106, go_sem]) rfl ?_
      exact rr_none HN.out hb
    have d0 : decide ((at_ : Int) + (j : Int) < (l.length : Int)) = true := decide_eq_true (by omega)
    have d0n : decide (at_ + j < l.length) = true := decide_eq_true (by omega)
    obtain ⟨b, o, rfl, lb0, hget⟩ := HR.out.get (by omega)
    obtain ⟨A1, c1, z1, hc1, hbs1⟩ := hget (at_ + j) hlt
    obtain ⟨A0, c0, zat0, hc0, hbs0⟩ := hget at_ (by omega)
    have hs1 := H128.out _ (mem_getD hlt)
    have hs0 := H128.out _ (mem_getD (show at_ < l.length by omega))
    have hdrop := drop_at l (at_ + j) hlt
    obtain ⟨s, hs⟩ : ∃ s, s = l.getD (at_ + j) [] := ⟨_, rfl⟩
    obtain ⟨s0, hs0e⟩ : ∃ s, s = l.getD at_ [] := ⟨_, rfl⟩
    rw [← hs] at z1 hc1 hbs1 hs1 hdrop
    have HS0E := Lib.hid hs0e
    rw [← hs0e] at zat0 hc0 hbs0 hs0
    rw [hs1] at z1 hc1
    rw [hs0] at zat0 hc0
    obtain ⟨b1, o1, rfl, hbl1, hcell1⟩ := hbs1 (by omega)
    obtain ⟨b0, o0, rfl, hbl0, -⟩ := id hbs0 (by omega)
    have hsc := HSC.out
    rw [hdrop, ← hs0e] at hsc
    have lbw : b < w.heap.size := by omega
    have z1' := (hb.cell (p := ⟨b, _, none⟩) lbw).trans z1
    have zat := (hb.cell (p := ⟨b, _, none⟩) lbw).trans zat0
    have lb1 : b1 < wr.heap.size := Nat.lt_of_lt_of_le hbl1.lt hws
    have lb : b < wr.heap.size := Nat.lt_of_lt_of_le lbw hws
    have hb1 := BsAt.below hbs1 hb
    have hb0 := BsAt.below hbs0 hb
    have z10 := (hb.cell (p := ⟨b1, _, none⟩) hbl1.lt).trans (hcell1 10 (by omega))
    have z11 := (hb.cell (p := ⟨b1, _, none⟩) hbl1.lt).trans (hcell1 11 (by omega))
    unfold u8v at z10 z11
    obtain ⟨k, hk⟩ : ∃ k, k = (s.getD 10 0).toNat := ⟨_, rfl⟩
    obtain ⟨m, hm⟩ : ∃ k, k = (s.getD 11 0).toNat := ⟨_, rfl⟩
    rw [← hk] at z10
    rw [← hm] at z11
    have hkl : k < 256 := by rw [hk]; exact (s.getD 10 0).toNat_lt
    have hml : m < 256 := by rw [hm]; exact (s.getD 11 0).toNat_lt
    have HGD := Lib.hid (show ∀ W, Below wr.heap.size wr W → Calls Try.prog 118 #[.slice (some ⟨b1, o1, none⟩) 128 c1, .int .i64 ((at_ : Int) + (j : Int))] W fun e w' => e = .returned (.bool (gGood s (at_ + j))) ∧ Below W.heap.size W w' from fun W hW => by have h := rgood_t (n₀ := n₀) (some ⟨b1, o1, none⟩) c1 (at_ + j) s W hs1 (by omega) (by omega) (hb1.below hW); rwa [show ((at_ + j : Nat) : Int) = (at_ : Int) + j by omega] at h)
    have get4 : ∀ (bb oo cx : Nat) (x : Bs), x.length = 128 → BsAt n₀ wr (some ⟨bb, oo, none⟩) x → ∀ W, Below wr.heap.size wr W → Calls Try.prog 107 #[.slice (some ⟨bb, oo, none⟩) 4 cx] W fun e w' => e = .returned (.int .u64 (sGen x : Nat)) ∧ w' = W := fun bb oo cx x hx hbx W hW => by
      have h := num_at hbx 0 4 cx (by omega) (by decide) W hW
      exact h
    have hga := get4 b1 o1 c1 s hs1 hb1
    have hgb := get4 b0 o0 c0 s0 hs0 hb0
    obtain ⟨gn, hgn⟩ : ∃ x, x = sGen s := ⟨_, rfl⟩
    obtain ⟨g0, hg0⟩ : ∃ x, x = sGen s0 := ⟨_, rfl⟩
    rw [← hgn] at hga
    rw [← hg0] at hgb hsc
    have HGA := Lib.hid hga
    have HGB := Lib.hid hgb
    obtain ⟨gd, hgd⟩ : ∃ y, y = gGood s (at_ + j) := ⟨_, rfl⟩
    rw [← hgd] at HGD
    obtain ⟨bb, hbb⟩ : ∃ y, y = sBeg s := ⟨_, rfl⟩
    have d1 : (((k : Int).tmod 2) == 1) = bb := by
      rw [hbb, show (k : Int).tmod 2 = ((k % 2 : Nat) : Int) from rfl]
      unfold sBeg sKind
      rw [← hk]
      rcases Nat.mod_two_eq_zero_or_one k with e | e <;> rw [e] <;> rfl
    have d1m : (((k : Int) % 2) == 1) = bb := by rw [← d1]; rfl
    have d1n : ((k % 2) == 1) = bb := by
      rw [hbb]
      unfold sBeg sKind
      rw [← hk]
      rcases Nat.mod_two_eq_zero_or_one k with e | e <;> rw [e] <;> rfl
    have c128 : (128 : Int) ≤ (c1 : Int) := by omega
    have c4 : (4 : Int) ≤ (c1 : Int) := by omega
    have c04 : (4 : Int) ≤ (c0 : Int) := by omega
    have hnl2 : (at_ : Int) + (j : Int) < (l.length : Int) := by omega
    have hal2 : (at_ : Int) < (l.length : Int) := by omega
    have n0' : (0 : Int) ≤ (at_ : Int) + (j : Int) := by omega
    have at0' : (0 : Int) ≤ (at_ : Int) := by omega
    have j0' : (0 : Int) ≤ (j : Int) := by omega
    have tn : ((at_ : Int) + (j : Int)).toNat = at_ + j := by omega
    have HK := Lib.hid (And.intro hk hm)
    have HQ := Lib.hid hbb
    have HG := Lib.hid (And.intro hgn (And.intro hg0 hgd))
    have HC := Lib.hid hsc
    have HHS := Lib.hid hs
    have HBS := Lib.hid (And.intro hb1 hb0)
    have HS1 := Lib.hid hs1
    clear hget hcell1 hb1 hb0 hbs1 hbs0 hs0e hs hdrop hsc hk hm hbb hgn hg0 hgd hga hgb get4 hs1 hs0 z1 zat0
    go_upto_region 6 with (fail)
    have hss : ∀ W, Below wr.heap.size wr W → (fun W => W.cell? ⟨b, o + at_, none⟩ = some (.slice (some ⟨b0, o0, none⟩) 128 c0) ∧ W.cell? ⟨b1, o1 + 10, none⟩ = some (.int .u8 (k : Int)) ∧ Below wr.heap.size wr W) W := fun W h => ⟨(h.cell (p := ⟨b, o + at_, none⟩) lb).trans zat, (h.cell (p := ⟨b1, o1 + 10, none⟩) lb1).trans z10, h⟩
    have HSS := Lib.hid hss
    clear hss
    go_cut [55] (fun v55 wx => ∃ y, v55 = .bool y ∧ (y = true → ¬ (gGood s (at_ + j) = true ∧ sBeg s = decide (at_ + j = at_) ∧ sGen s = g0 ∧ 0 ≤ sGen s)) ∧ (y = false → gGood s (at_ + j) = true ∧ sBeg s = decide (at_ + j = at_) ∧ sGen s = g0 ∧ 0 ≤ sGen s) ∧ Below wr.heap.size wr wx)
    case first =>
      cases gd
      case false =>
        refine wp_region_held_drew (S := (fun W => W.cell? ⟨b, o + at_, none⟩ = some (.slice (some ⟨b0, o0, none⟩) 128 c0) ∧ W.cell? ⟨b1, o1 + 10, none⟩ = some (.int .u8 (k : Int)) ∧ Below wr.heap.size wr W)) (by kernel_rfl) (HSS.out _ (Below.refl _ _).drew) (fun hHeld => ?_)
        refine tkA 0 oJrr0 ?_
        refine tkA 1 oJrr1 ?_
        refine tkA 2 oJrr2 ?_
        refine tkA 3 oJrr3 ?_
        refine wpAnyH_ready (rs := [4]) (by kernel_rfl) (by simp) ?_
        refine AllReadyH.cons (o := oJrr4) rfl (fun K hK => ?_) AllReadyH.nil
        go_simp
        go_at_call 118; refine (HGD.out _ hHeld.2.2).mono ?_; rintro e w9 ⟨rfl, hb9⟩
        refine hK.out _ _ ?_ (fun hHeld => ?_)
        · exact HSS.out _ (hHeld.2.2.trans (hb9.mono hHeld.2.2.size))
        clear hK K
        try simp only [Act.put, List.setIfInBounds_toArray, List.set_cons_zero, List.set_cons_succ]
        refine tkA 5 oJrr5 ?_
        refine tkA 6 oJrr6 ?_
        refine tkB 7 oJrr7 ?_
        refine tkB 8 oJrr8 ?_
        refine tkB 9 oJrr9 ?_
        refine tkB 10 oJrr10 ?_
        refine tkB 11 oJrr11 ?_
        refine tkB 12 oJrr12 ?_
        refine tkB 13 oJrr13 ?_
        refine tkB 14 oJrr14 ?_
        refine tkA 15 oJrr15 ?_
        refine tkA 16 oJrr16 ?_
        refine tkB 17 oJrr17 ?_
        refine tkB 18 oJrr18 ?_
        refine tkB 19 oJrr19 ?_
        refine tkB 20 oJrr20 ?_
        refine tkB 21 oJrr21 ?_
        refine tkB 22 oJrr22 ?_
        refine tkB 23 oJrr23 ?_
        refine tkB 24 oJrr24 ?_
        refine tkB 25 oJrr25 ?_
        refine tkB 26 oJrr26 ?_
        refine tkB 27 oJrr27 ?_
        refine tkB 28 oJrr28 ?_
        refine tkB 29 oJrr29 ?_
        refine tkB 30 oJrr30 ?_
        refine tkA 31 oJrr31 ?_
        refine wpAnyH_done (by kernel_rfl) ?_ _
        (try go_wp2_with (fail))
        go_meet
        exact ⟨true, rfl, fun _ h => (by rw [← HG.out.2.2] at h; cases h.1), fun h => (by cases h), hHeld.2.2⟩
      by_cases hj0 : j = 0
      case pos =>
        have d2 : ((j : Int) == 0) = true := by rw [hj0]; rfl
        have d2n : (j == 0) = true := by rw [hj0]; rfl
        have d3 : decide ((0 : Int) < (j : Int)) = false := decide_eq_false (by omega)
        have d3n : decide (0 < j) = false := decide_eq_false (by omega)
        have hdj : decide (at_ + j = at_) = true := decide_eq_true (by omega)
        have hj00 := Lib.hid hj0
        clear hj0
        cases bb
        case false =>
          refine wp_region_held_drew (S := (fun W => W.cell? ⟨b, o + at_, none⟩ = some (.slice (some ⟨b0, o0, none⟩) 128 c0) ∧ W.cell? ⟨b1, o1 + 10, none⟩ = some (.int .u8 (k : Int)) ∧ Below wr.heap.size wr W)) (by kernel_rfl) (HSS.out _ (Below.refl _ _).drew) (fun hHeld => ?_)
          refine tkA 0 oJrr0 ?_
          refine tkA 1 oJrr1 ?_
          refine tkA 2 oJrr2 ?_
          refine tkA 3 oJrr3 ?_
          refine wpAnyH_ready (rs := [4]) (by kernel_rfl) (by simp) ?_
          refine AllReadyH.cons (o := oJrr4) rfl (fun K hK => ?_) AllReadyH.nil
          go_simp
          go_at_call 118; refine (HGD.out _ hHeld.2.2).mono ?_; rintro e w9 ⟨rfl, hb9⟩
          refine hK.out _ _ ?_ (fun hHeld => ?_)
          · exact HSS.out _ (hHeld.2.2.trans (hb9.mono hHeld.2.2.size))
          clear hK K
          try simp only [Act.put, List.setIfInBounds_toArray, List.set_cons_zero, List.set_cons_succ]
          refine tkA 5 oJrr5 ?_
          refine tkA 6 oJrr6 ?_
          refine tkA 7 oJrr7 ?_
          refine tkA 8 oJrr8 ?_
          refine tkA 9 oJrr9 ?_
          refine tkA 10 oJrr10 ?_
          refine tkA 11 oJrr11 ?_
          refine tkA 12 oJrr12 ?_
          refine tkA 13 oJrr13 ?_
          refine tkA 14 oJrr14 ?_
          refine tkA 15 oJrr15 ?_
          refine tkA 16 oJrr16 ?_
          refine tkB 17 oJrr17 ?_
          refine tkB 18 oJrr18 ?_
          refine tkB 19 oJrr19 ?_
          refine tkB 20 oJrr20 ?_
          refine tkB 21 oJrr21 ?_
          refine tkB 22 oJrr22 ?_
          refine tkB 23 oJrr23 ?_
          refine tkB 24 oJrr24 ?_
          refine tkB 25 oJrr25 ?_
          refine tkB 26 oJrr26 ?_
          refine tkB 27 oJrr27 ?_
          refine tkB 28 oJrr28 ?_
          refine tkB 29 oJrr29 ?_
          refine tkB 30 oJrr30 ?_
          refine tkA 31 oJrr31 ?_
          refine wpAnyH_done (by kernel_rfl) ?_ _
          (try go_wp2_with (fail))
          go_meet
          exact ⟨true, rfl, fun _ h => (by rw [← HQ.out, hdj] at h; exact absurd h.2.1 (by decide)), fun h => (by cases h), hHeld.2.2⟩
        refine wp_region_held_drew (S := (fun W => W.cell? ⟨b, o + at_, none⟩ = some (.slice (some ⟨b0, o0, none⟩) 128 c0) ∧ W.cell? ⟨b1, o1 + 10, none⟩ = some (.int .u8 (k : Int)) ∧ Below wr.heap.size wr W)) (by kernel_rfl) (HSS.out _ (Below.refl _ _).drew) (fun hHeld => ?_)
        refine tkA 0 oJrr0 ?_
        refine tkA 1 oJrr1 ?_
        refine tkA 2 oJrr2 ?_
        refine tkA 3 oJrr3 ?_
        refine wpAnyH_ready (rs := [4]) (by kernel_rfl) (by simp) ?_
        refine AllReadyH.cons (o := oJrr4) rfl (fun K hK => ?_) AllReadyH.nil
        go_simp
        go_at_call 118; refine (HGD.out _ hHeld.2.2).mono ?_; rintro e w9 ⟨rfl, hb9⟩
        refine hK.out _ _ ?_ (fun hHeld => ?_)
        · exact HSS.out _ (hHeld.2.2.trans (hb9.mono hHeld.2.2.size))
        clear hK K
        try simp only [Act.put, List.setIfInBounds_toArray, List.set_cons_zero, List.set_cons_succ]
        refine tkA 5 oJrr5 ?_
        refine tkA 6 oJrr6 ?_
        refine tkA 7 oJrr7 ?_
        refine tkA 8 oJrr8 ?_
        refine tkA 9 oJrr9 ?_
        refine tkA 10 oJrr10 ?_
        refine tkA 11 oJrr11 ?_
        refine tkA 12 oJrr12 ?_
        refine tkA 13 oJrr13 ?_
        refine tkA 14 oJrr14 ?_
        refine tkA 15 oJrr15 ?_
        refine tkA 16 oJrr16 ?_
        refine tkA 17 oJrr17 ?_
        refine tkA 18 oJrr18 ?_
        refine tkA 19 oJrr19 ?_
        refine tkB 20 oJrr20 ?_
        refine tkB 21 oJrr21 ?_
        refine tkB 22 oJrr22 ?_
        refine tkB 23 oJrr23 ?_
        refine tkB 24 oJrr24 ?_
        refine tkB 25 oJrr25 ?_
        refine tkB 26 oJrr26 ?_
        refine tkB 27 oJrr27 ?_
        refine tkB 28 oJrr28 ?_
        refine tkB 29 oJrr29 ?_
        refine tkA 30 oJrr30 ?_
        refine tkA 31 oJrr31 ?_
        refine wpAnyH_done (by kernel_rfl) ?_ _
        (try go_wp2_with (fail))
        go_meet
        exact ⟨false, rfl, fun h => (by cases h), fun _ => ⟨HG.out.2.2.symm, by rw [← HQ.out, hdj], by rw [HHS.out, HG.out.2.1, HS0E.out, show at_ + j = at_ by have := hj00.out; omega], Nat.zero_le _⟩, hHeld.2.2⟩
      have d2 : ((j : Int) == 0) = false := beq_eq_false_iff_ne.2 (by omega)
      have d2n : (j == 0) = false := beq_eq_false_iff_ne.2 hj0
      have d3 : decide ((0 : Int) < (j : Int)) = true := decide_eq_true (by omega)
      have d3n : decide (0 < j) = true := decide_eq_true (by omega)
      have hdj : decide (at_ + j = at_) = false := decide_eq_false (by omega)
      clear hj0
      cases bb
      case true =>
        refine wp_region_held_drew (S := (fun W => W.cell? ⟨b, o + at_, none⟩ = some (.slice (some ⟨b0, o0, none⟩) 128 c0) ∧ W.cell? ⟨b1, o1 + 10, none⟩ = some (.int .u8 (k : Int)) ∧ Below wr.heap.size wr W)) (by kernel_rfl) (HSS.out _ (Below.refl _ _).drew) (fun hHeld => ?_)
        refine tkA 0 oJrr0 ?_
        refine tkA 1 oJrr1 ?_
        refine tkA 2 oJrr2 ?_
        refine tkA 3 oJrr3 ?_
        refine wpAnyH_ready (rs := [4]) (by kernel_rfl) (by simp) ?_
        refine AllReadyH.cons (o := oJrr4) rfl (fun K hK => ?_) AllReadyH.nil
        go_simp
        go_at_call 118; refine (HGD.out _ hHeld.2.2).mono ?_; rintro e w9 ⟨rfl, hb9⟩
        refine hK.out _ _ ?_ (fun hHeld => ?_)
        · exact HSS.out _ (hHeld.2.2.trans (hb9.mono hHeld.2.2.size))
        clear hK K
        try simp only [Act.put, List.setIfInBounds_toArray, List.set_cons_zero, List.set_cons_succ]
        refine tkA 5 oJrr5 ?_
        refine tkA 6 oJrr6 ?_
        refine tkA 7 oJrr7 ?_
        refine tkA 8 oJrr8 ?_
        refine tkA 9 oJrr9 ?_
        refine tkA 10 oJrr10 ?_
        refine tkA 11 oJrr11 ?_
        refine tkA 12 oJrr12 ?_
        refine tkA 13 oJrr13 ?_
        refine tkA 14 oJrr14 ?_
        refine tkA 15 oJrr15 ?_
        refine tkA 16 oJrr16 ?_
        refine tkB 17 oJrr17 ?_
        refine tkB 18 oJrr18 ?_
        refine tkB 19 oJrr19 ?_
        refine tkB 20 oJrr20 ?_
        refine tkB 21 oJrr21 ?_
        refine tkB 22 oJrr22 ?_
        refine tkB 23 oJrr23 ?_
        refine tkB 24 oJrr24 ?_
        refine tkB 25 oJrr25 ?_
        refine tkB 26 oJrr26 ?_
        refine tkB 27 oJrr27 ?_
        refine tkB 28 oJrr28 ?_
        refine tkB 29 oJrr29 ?_
        refine tkB 30 oJrr30 ?_
        refine tkA 31 oJrr31 ?_
        refine wpAnyH_done (by kernel_rfl) ?_ _
        (try go_wp2_with (fail))
        go_meet
        exact ⟨true, rfl, fun _ h => (by rw [← HQ.out, hdj] at h; exact absurd h.2.1 (by decide)), fun h => (by cases h), hHeld.2.2⟩
      by_cases hgg : gn = g0
      case neg =>
        have d4 : ((gn : Int) != (g0 : Int)) = true := bne_iff_ne.2 (by omega)
        have d4n : (gn != g0) = true := bne_iff_ne.2 hgg
        have HGG := Lib.hid hgg
        clear hgg
        refine wp_region_held_drew (S := (fun W => W.cell? ⟨b, o + at_, none⟩ = some (.slice (some ⟨b0, o0, none⟩) 128 c0) ∧ W.cell? ⟨b1, o1 + 10, none⟩ = some (.int .u8 (k : Int)) ∧ Below wr.heap.size wr W)) (by kernel_rfl) (HSS.out _ (Below.refl _ _).drew) (fun hHeld => ?_)
        refine tkA 0 oJrr0 ?_
        refine tkA 1 oJrr1 ?_
        refine tkA 2 oJrr2 ?_
        refine tkA 3 oJrr3 ?_
        refine wpAnyH_ready (rs := [4]) (by kernel_rfl) (by simp) ?_
        refine AllReadyH.cons (o := oJrr4) rfl (fun K hK => ?_) AllReadyH.nil
        go_simp
        go_at_call 118; refine (HGD.out _ hHeld.2.2).mono ?_; rintro e w9 ⟨rfl, hb9⟩
        refine hK.out _ _ ?_ (fun hHeld => ?_)
        · exact HSS.out _ (hHeld.2.2.trans (hb9.mono hHeld.2.2.size))
        clear hK K
        try simp only [Act.put, List.setIfInBounds_toArray, List.set_cons_zero, List.set_cons_succ]
        refine tkA 5 oJrr5 ?_
        refine tkA 6 oJrr6 ?_
        refine tkA 7 oJrr7 ?_
        refine tkA 8 oJrr8 ?_
        refine tkA 9 oJrr9 ?_
        refine tkA 10 oJrr10 ?_
        refine tkA 11 oJrr11 ?_
        refine tkA 12 oJrr12 ?_
        refine tkA 13 oJrr13 ?_
        refine tkA 14 oJrr14 ?_
        refine tkA 15 oJrr15 ?_
        refine tkA 16 oJrr16 ?_
        refine tkA 17 oJrr17 ?_
        refine tkA 18 oJrr18 ?_
        refine tkA 19 oJrr19 ?_
        refine tkA 20 oJrr20 ?_
        refine tkA 21 oJrr21 ?_
        refine tkA 23 oJrr23 ?_
        refine tkA 24 oJrr24 ?_
        refine tkA 25 oJrr25 ?_
        refine tkA 26 oJrr26 ?_
        refine tkA 27 oJrr27 ?_
        refine wpAnyH_ready (rs := [22]) (by kernel_rfl) (by simp) ?_
        refine AllReadyH.cons (o := oJrr22) rfl (fun K hK => ?_) AllReadyH.nil
        go_simp
        go_at_call 107; refine (HGA.out _ hHeld.2.2).mono ?_; rintro e w8 ⟨rfl, rfl⟩
        refine hK.out _ _ ?_ (fun hHeld => ?_)
        · exact hHeld
        clear hK K
        try simp only [Act.put, List.setIfInBounds_toArray, List.set_cons_zero, List.set_cons_succ]
        refine wpAnyH_ready (rs := [28]) (by kernel_rfl) (by simp) ?_
        refine AllReadyH.cons (o := oJrr28) rfl (fun K hK => ?_) AllReadyH.nil
        go_simp
        go_at_call 107; refine (HGB.out _ hHeld.2.2).mono ?_; rintro e w8 ⟨rfl, rfl⟩
        refine hK.out _ _ ?_ (fun hHeld => ?_)
        · exact hHeld
        clear hK K
        try simp only [Act.put, List.setIfInBounds_toArray, List.set_cons_zero, List.set_cons_succ]
        refine tkA 29 oJrr29 ?_
        refine tkA 30 oJrr30 ?_
        refine tkA 31 oJrr31 ?_
        refine wpAnyH_done (by kernel_rfl) ?_ _
        (try go_wp2_with (fail))
        go_meet
        exact ⟨true, rfl, fun _ h => (by rw [← HG.out.1] at h; exact HGG.out h.2.2.1), fun h => (by cases h), hHeld.2.2⟩
      have d4 : ((gn : Int) != (g0 : Int)) = false := bne_eq_false_iff_eq.2 (by omega)
      have d4n : (gn != g0) = false := bne_eq_false_iff_eq.2 hgg
      have HGG := Lib.hid hgg
      clear hgg
      refine wp_region_held_drew (S := (fun W => W.cell? ⟨b, o + at_, none⟩ = some (.slice (some ⟨b0, o0, none⟩) 128 c0) ∧ W.cell? ⟨b1, o1 + 10, none⟩ = some (.int .u8 (k : Int)) ∧ Below wr.heap.size wr W)) (by kernel_rfl) (HSS.out _ (Below.refl _ _).drew) (fun hHeld => ?_)
      refine tkA 0 oJrr0 ?_
      refine tkA 1 oJrr1 ?_
      refine tkA 2 oJrr2 ?_
      refine tkA 3 oJrr3 ?_
      refine wpAnyH_ready (rs := [4]) (by kernel_rfl) (by simp) ?_
      refine AllReadyH.cons (o := oJrr4) rfl (fun K hK => ?_) AllReadyH.nil
      go_simp
      go_at_call 118; refine (HGD.out _ hHeld.2.2).mono ?_; rintro e w9 ⟨rfl, hb9⟩
      refine hK.out _ _ ?_ (fun hHeld => ?_)
      · exact HSS.out _ (hHeld.2.2.trans (hb9.mono hHeld.2.2.size))
      clear hK K
      try simp only [Act.put, List.setIfInBounds_toArray, List.set_cons_zero, List.set_cons_succ]
      refine tkA 5 oJrr5 ?_
      refine tkA 6 oJrr6 ?_
      refine tkA 7 oJrr7 ?_
      refine tkA 8 oJrr8 ?_
      refine tkA 9 oJrr9 ?_
      refine tkA 10 oJrr10 ?_
      refine tkA 11 oJrr11 ?_
      refine tkA 12 oJrr12 ?_
      refine tkA 13 oJrr13 ?_
      refine tkA 14 oJrr14 ?_
      refine tkA 15 oJrr15 ?_
      refine tkA 16 oJrr16 ?_
      refine tkA 17 oJrr17 ?_
      refine tkA 18 oJrr18 ?_
      refine tkA 19 oJrr19 ?_
      refine tkA 20 oJrr20 ?_
      refine tkA 21 oJrr21 ?_
      refine tkA 23 oJrr23 ?_
      refine tkA 24 oJrr24 ?_
      refine tkA 25 oJrr25 ?_
      refine tkA 26 oJrr26 ?_
      refine tkA 27 oJrr27 ?_
      refine wpAnyH_ready (rs := [22]) (by kernel_rfl) (by simp) ?_
      refine AllReadyH.cons (o := oJrr22) rfl (fun K hK => ?_) AllReadyH.nil
      go_simp
      go_at_call 107; refine (HGA.out _ hHeld.2.2).mono ?_; rintro e w8 ⟨rfl, rfl⟩
      refine hK.out _ _ ?_ (fun hHeld => ?_)
      · exact hHeld
      clear hK K
      try simp only [Act.put, List.setIfInBounds_toArray, List.set_cons_zero, List.set_cons_succ]
      refine wpAnyH_ready (rs := [28]) (by kernel_rfl) (by simp) ?_
      refine AllReadyH.cons (o := oJrr28) rfl (fun K hK => ?_) AllReadyH.nil
      go_simp
      go_at_call 107; refine (HGB.out _ hHeld.2.2).mono ?_; rintro e w8 ⟨rfl, rfl⟩
      refine hK.out _ _ ?_ (fun hHeld => ?_)
      · exact hHeld
      clear hK K
      try simp only [Act.put, List.setIfInBounds_toArray, List.set_cons_zero, List.set_cons_succ]
      refine tkA 29 oJrr29 ?_
      refine tkA 30 oJrr30 ?_
      refine tkA 31 oJrr31 ?_
      refine wpAnyH_done (by kernel_rfl) ?_ _
      (try go_wp2_with (fail))
      go_meet
      exact ⟨false, rfl, fun h => (by cases h), fun _ => ⟨HG.out.2.2.symm, by rw [← HQ.out, hdj], by rw [← HG.out.1]; exact HGG.out, Nat.zero_le _⟩, hHeld.2.2⟩
    case rest =>
      obtain ⟨y, rfl, hy1, hy2, hbx⟩ := hcut
      cases y
      case true =>
        have hn : recAt l at_ 0 = none := by rw [HSC.out]; have h := HC.out; rw [HSC.out] at h; rw [h]; exact scan_no (hy1 rfl)
        have HN := Lib.hid hn
        clear hn hy1 hy2
        go_wp2_with (fail)
        refine bodyPost_ret (v := .tuple #[.slice none 0 0, .int .i64 0]) (by simp [results, Try.results106, go_sem]) rfl ?_
        exact rr_none HN.out (hb.trans (hbx.mono hws))
      have hcond := hy2 rfl
      have HCO := Lib.hid hcond
      clear hy1 hy2
      have hm112 : m ≤ 112 := by
        have h := (good_parts hcond.1).1
        unfold sLen at h
        rw [HK.out.2]
        exact h
      have hk3 : k ≤ 3 := by
        have h := (good_parts hcond.1).2.1
        unfold sKind at h
        rw [HK.out.1]
        exact h
      clear hcond
      have hsd : sData s = (s.drop 12).take m := by rw [HK.out.2]; rfl
      have hdl : ((s.drop 12).take m).length = m := by rw [List.length_take, List.length_drop, HS1.out]; omega
      obtain ⟨dt, hdt⟩ : ∃ d, d = sData s := ⟨_, rfl⟩
      rw [← hdt] at hsd
      have hdtl : dt.length = m := by rw [hsd, hdl]
      have hgd : BsAt n₀ wr (some ⟨b1, o1 + 12, none⟩) dt := by rw [hsd]; exact bs_part HBS.out.1 12 m (by have := HS1.out; omega)
      have z10' := (hbx.cell (p := ⟨b1, o1 + 10, none⟩) lb1).trans z10
      have z11' := (hbx.cell (p := ⟨b1, o1 + 11, none⟩) lb1).trans z11
      have hsrc : 0 < m → ∃ ad, some (⟨b1, o1 + 12, none⟩ : Addr) = some ad ∧ ∀ j u, (bcells dt)[j]? = some u → wc.cell? (ad.add j) = some u := fun h0 => bs_src hgd hbx (by omega)
      have hbcl : (bcells dt).length = m * 1 := by rw [bcells_len]; omega
      have hown9 := row_keep hown hbx
      have hb29 : Below w.heap.size w wc := hb.trans (hbx.mono hws)
      have hs9 := hb29.size
      obtain ⟨fin, hfin⟩ : ∃ y, y = sFin s := ⟨_, rfl⟩
      have d5n : decide (2 ≤ k) = fin := by
        rw [hfin]
        unfold sFin sKind
        rw [← HK.out.1]
        exact decide_eq_decide.2 (by omega)
      have d5 : decide ((2 : Int) ≤ (k : Int)) = fin := by
        rw [← d5n]
        exact decide_eq_decide.2 (by omega)
      have HFIN := Lib.hid hfin
      have HSR := Lib.hid hsrc
      have HBC := Lib.hid hbcl
      have HDT := Lib.hid (And.intro hdt hdtl)
      have hal : acc.length + m ≤ 1000000 := by omega
      have i12 : IntKind.i64.wrap (12 + (m : Int)) = 12 + m := IntWalk.i64_in _ (by omega)
      have n1 : (m : Int) ≤ 112 := by omega
      have n2 : (12 : Int) + m ≤ c1 := by omega
      have n3 : (0 : Int) ≤ (m : Int) := by omega
      have n5 : (12 : Int) ≤ 12 + m := by omega
      have n6 : ¬ c1 = 12 := by omega
      clear hsrc hbcl hdt hdtl hgd hsd hdl d1 d1m d1n hfin z10 z11 HSS HGD HGA HGB zat
      clear z1'
      go_upto_region 9 with (at_builtin; refine wpList_append_any (by rfl) (.tmp 56) (.tmp 63) 35 rfl w.heap.size 5 i0 (.int .u8 0) 1 1 Try.underlying35 hi0 hz0 hz1 hz2 rfl (by decide) _ acc.length (bcells acc) rfl hown9 (some ⟨b1, o1 + 12, none⟩) ((12 + (m : Int)).toNat - 12) (c1 - 12) (bcells dt) rfl (by rw [HBC.out]; omega) (fun h => HSR.out (by omega)) (bcells_one _) (by simp [maxLen]; omega) (by omega) (by omega) ?_; intro v7 w7 hown7 hgrow7; have b7 : Below w.heap.size w w7 := hb29.grown hgrow7 hs9 (own_base hown9); have y10 := (b7.cell (p := ⟨b1, o1 + 10, none⟩) hbl1.lt).trans ((hb29.cell (p := ⟨b1, o1 + 10, none⟩) hbl1.lt).symm.trans z10'))
      have e7 : acc.length + ((12 + (m : Int)).toNat - 12) = (acc ++ dt).length := by rw [List.length_append, HDT.out.2]; omega
      have e8 : bcells acc ++ bcells dt = bcells (acc ++ dt) := by simp [bcells]
      rw [e7, e8] at hown7
      have hlen7 : (acc ++ dt).length ≤ 112 * (j + 1) := by rw [List.length_append, HDT.out.2]; omega
      have hsc8 := HC.out
      have hsx := HSC.out
      rw [hsx] at hsc8
      have HSX := Lib.hid hsx
      clear hsx z10' z11' hown9 hown hgrow7 e7 e8 i12 n1 n2 n5 n6 hb29 hbx
      cases fin
      case false =>
        rw [scan_on HCO.out HFIN.out.symm, ← HDT.out.1, HG.out.2.1, HS0E.out] at hsc8
        have HSC8 := Lib.hid hsc8
        clear hsc8
        go_wp2_with (fail)
        go_roundw
        case rel => exact ⟨j + 1, acc ++ dt, by go_num, by omega, hlen7, hown7, b7, Lib.hid (by rw [HSX.out, HSC8.out]; rfl)⟩
        case measure => simp [intOf]; omega
      rw [scan_fin HCO.out HFIN.out.symm, ← HDT.out.1, ← HSX.out] at hsc8
      have HX := Lib.hid (rRec_some hsc8)
      clear hsc8
      obtain ⟨bl, hok, hbl⟩ := own_rc hown7 (j + 1)
      have HOK := Lib.hid hok
      have HBL := Lib.hid hbl
      clear hok hbl
      have i13 : IntKind.i64.wrap ((j : Int) + 1) = (j : Int) + 1 := IntWalk.i64_in _ (by omega)
      go_wp2_with (fail)
      refine bodyPost_ret (v := .tuple #[v7, .int .i64 ((j : Int) + 1)]) (by simp [results, Try.results106, go_sem]) rfl ?_
      rw [HX.out]
      exact ⟨⟨j + 1, acc ++ dt, v7, bl⟩, HOK.out, rfl, (by rw [show ((at_ + j + 1 - at_ : Nat) : Int) = (j : Int) + 1 by omega]), HBL.out, b7⟩
end Go.Proofs.Ytckeopidedoohaa

namespace Go.Proofs.Ytckeopidedoohaa
open Go.RowKit
variable {n₀ : Nat}
attribute [local go_sem] Oper.semAt_some

theorem rc_ty {x : Rc} (h : RcOk x) {g : Nat} {t : TypeId} {cs : Array Value} (hb : x.bl = some (g, t, cs)) : t = 5 := by
  rcases h with ⟨_, _, h3⟩ | ⟨g', cap, cur, _, _, h3, _⟩
  · rw [h3] at hb; cases hb
  · rw [h3] at hb; cases hb; rfl
theorem rc_sl {x : Rc} (h : RcOk x) : ∃ A c, x.v = .slice A x.b.length c := by
  rcases h with ⟨h1, h2, _⟩ | ⟨g', cap, cur, h2, _, _, _⟩
  · exact ⟨none, 0, by rw [h1, h2]; rfl⟩
  · exact ⟨_, _, h2⟩
theorem rRec_zero {l : List Bs} {a : Nat} (h : (rRec l a).1 = 0) : recAt l a 0 = none := by
  cases e : recAt l a 0 with
  | none => rfl
  | some x =>
    obtain ⟨m, b⟩ := x
    have h1 := recAt_lt e
    rw [rRec_some e] at h
    dsimp only at h
    omega
theorem rRec_pos {l : List Bs} {a : Nat} (h : (rRec l a).1 ≠ 0) : recAt l a 0 = some (a + (rRec l a).1, (rRec l a).2) := by
  cases e : recAt l a 0 with
  | none => rw [rRec_none e] at h; exact absurd rfl h
  | some x =>
    obtain ⟨m, b⟩ := x
    have h1 := recAt_lt e
    rw [rRec_some e]
    dsimp only
    rw [show a + (m - a) = m by omega]
/-- The blocks of the records lie. -/
def RcB (xs : List Rc) (W : World) : Prop := ∀ x ∈ xs, RcOk x ∧ ∀ g t cs, x.bl = some (g, t, cs) → W.heap[g]? = some (.cells cs t (0, 0))
theorem RcB.below {xs : List Rc} {W W' : World} (h : RcB xs W) (hb : Below W.heap.size W W') : RcB xs W' := fun x hx => ⟨(h x hx).1, fun g t cs hg => by
  have h1 := (h x hx).2 g t cs hg
  exact (hb.block g (Array.getElem?_eq_some_iff.1 h1).1).trans h1⟩
theorem RcB.grown {xs : List Rc} {W W' : World} {base size n : Nat} {v : Value} {vs : List Value} (h : RcB xs W) (ho : W.ownsRow base 35 size v n vs) (hg : W.grownBy W' v.ownBlock) : RcB xs W' := fun x hx => ⟨(h x hx).1, fun g t cs hb => by
  have h1 := (h x hx).2 g t cs hb
  have ht := rc_ty (h x hx).1 hb
  have hne := own_ne ho h1 (by rw [ht]; decide)
  exact (hg.block g (Array.getElem?_eq_some_iff.1 h1).1 (fun e => hne e.symm)).trans h1⟩
theorem RcB.rows {xs : List Rc} {W : World} (h : RcB xs W) : Rws n₀ W (xs.map Rc.v) (xs.map Rc.b) := rc_rws h
def RsIs (n₀ : Nat) (w : World) (rs : List Bs) (e : Ending) (w' : World) : Prop := ∃ A c, e = .returned (.slice A rs.length c) ∧ rs.length ≤ c ∧ RowsAt n₀ w' A rs ∧ Below w.heap.size w w'
theorem rs_end {l : List Bs} {xs : List Rc} {w W : World} {v : Value} (hx : ∀ x ∈ xs, RcOk x) (hk : recs l.length l 0 0 = xs.map rcKey) (hb : RcB xs W) (ho : W.ownsRow w.heap.size 35 1 v xs.length (xs.map Rc.v)) (hw : Below w.heap.size w W) : RsIs n₀ w (gRecs l) (.returned v) W := by
  have e := rc_recs (l := l) (xs := xs) ⟨hx, hk.symm⟩
  obtain ⟨A, c, rfl, hc⟩ := own_slice ho
  have hl : (gRecs l).length = xs.length := by rw [e, List.length_map]
  refine ⟨A, c, by rw [hl], by rw [hl]; exact hc, ?_, hw⟩
  rw [e]
  exact ⟨xs.map Rc.v, hb.rows, own_ValsAt ho (by simp)⟩

set_option maxRecDepth 20000 in
set_option maxHeartbeats 8000000 in
theorem rrecords_t (LA : Option Addr) (c : Nat) (l : List Bs) (w : World) (hn0 : n₀ ≤ w.heap.size) (h128 : ∀ b ∈ l, b.length = 128) (hll : l.length ≤ 4096) (hr : RowsAt n₀ w LA l) :
    Calls Try.prog 82 #[.slice LA l.length c] w (RsIs n₀ w (gRecs l)) := by
  obtain ⟨i0, hi0, hz0, hz1, hz2⟩ := info_parts info35
  have HR := Lib.hid hr
  have H128 := Lib.hid h128
  clear hr h128
  go_enter Try.func82, Try.ntmps82
  go_wp2_with (fail)
  go_loopw [3, 4, 5] (fun v3 v4 v5 wr => ∃ (at_ last f : Nat) (xs : List Rc), v4 = .int .i64 (at_ : Nat) ∧ v5 = .int .u64 (last : Nat) ∧ at_ ≤ l.length ∧ xs.length ≤ at_ ∧ wr.ownsRow w.heap.size 35 1 v3 xs.length (xs.map Rc.v) ∧ Below w.heap.size w wr ∧ Hid ((∀ x ∈ xs, RcOk x) ∧ recs l.length l 0 0 = xs.map rcKey ++ recs f l at_ last ∧ l.length ≤ at_ + f) ∧ Hid (RcB xs wr)) (fun _ v4 _ _ => l.length - (intOf v4).toNat)
  case atStart => exact ⟨0, 0, l.length, [], rfl, rfl, by omega, by simp, World.ownsRow_lit (base := w.heap.size) (e := 35) (size := 1) w #[] 0 (Nat.le_refl _) (by simp [maxLen]) rfl, (Below.refl _ _).alloc (Nat.le_refl _) _, Lib.hid ⟨fun x hx => (by cases hx), by simp, by omega⟩, Lib.hid (fun x hx => (by cases hx))⟩
  case round =>
    obtain ⟨at_, last, f, xs, rfl, rfl, hat, hxl, hown, hb, HI, HB⟩ := hrel
    have hws := hb.size
    have hrw := HR.out.below hb
    have HRW := Lib.hid hrw
    obtain ⟨n, hnd⟩ : ∃ n, n = (rRec l at_).1 := ⟨_, rfl⟩
    obtain ⟨bs, hbd⟩ : ∃ n, n = (rRec l at_).2 := ⟨_, rfl⟩
    have HN := Lib.hid hnd
    have HBD := Lib.hid hbd
    have K : Calls Try.prog 106 #[.slice LA l.length c, .int .i64 (at_ : Nat)] wr (fun e w' => ∃ y : Rc, RcOk y ∧ y.b = bs ∧ e = .returned (.tuple #[y.v, .int .i64 (n : Nat)]) ∧ (∀ g t cs, y.bl = some (g, t, cs) → w'.heap[g]? = some (.cells cs t (0, 0)) ∧ wr.heap.size ≤ g) ∧ Below wr.heap.size wr w') := by rw [hnd, hbd]; exact rrec_t (n₀ := n₀) LA c at_ l wr (Nat.le_trans hn0 hws) H128.out hll hat hrw
    clear hrw hnd hbd
    go_wp2_with (fail)
    go_at_call 106
    refine K.mono ?_
    rintro e w1 ⟨y, hy, hyb, rfl, hyl, hb1⟩
    clear K
    have HY := Lib.hid (And.intro hy (And.intro hyb hyl))
    obtain ⟨YA, yc, hyv⟩ := rc_sl hy
    rw [hyv]
    have HYV := Lib.hid hyv
    clear hy hyb hyl hyv
    have hown1 := row_keep hown hb1
    have HB1 := Lib.hid (HB.out.below hb1)
    have hbw := hb.trans (hb1.mono hws)
    have hsw := hbw.size
    have HEND := Lib.hid (show recAt l at_ last = none → RsIs n₀ w (gRecs l) (.returned u3) w1 from fun h => rs_end HI.out.1 (by rw [HI.out.2.1, recs_none h, List.append_nil]) HB1.out hown1 hbw)
    by_cases hn : n = 0
    case pos =>
      have d1 : ((n : Int) == 0) = true := by rw [hn]; rfl
      have d1n : (n == 0) = true := by rw [hn]; rfl
      have hz : recAt l at_ 0 = none := rRec_zero (by rw [← HN.out]; exact hn)
      have HZ := Lib.hid hz
      clear hz hn
      go_wp2_with (fail)
      go_ret
      exact HEND.out (by rw [recAt_last, HZ.out]; split <;> rfl)
    have d1 : ((n : Int) == 0) = false := beq_eq_false_iff_ne.2 (by omega)
    have d1n : (n == 0) = false := beq_eq_false_iff_ne.2 hn
    have hz : recAt l at_ 0 = some (at_ + n, bs) := by rw [HN.out, HBD.out]; exact rRec_pos (by rw [← HN.out]; exact hn)
    have hlt := recAt_lt hz
    have HZ := Lib.hid hz
    clear hz hn
    obtain ⟨b, o, rfl, lb0, hget⟩ := HRW.out.get (by omega)
    obtain ⟨A0, c0, zat0, hc0, hbs0⟩ := hget at_ (by omega)
    have hs0 := H128.out _ (mem_getD (show at_ < l.length by omega))
    obtain ⟨s0, hs0e⟩ : ∃ s, s = l.getD at_ [] := ⟨_, rfl⟩
    rw [← hs0e] at zat0 hc0 hbs0 hs0
    rw [hs0] at zat0 hc0
    obtain ⟨b0, o0, rfl, hbl0, -⟩ := id hbs0 (by omega)
    have lbw : b < wr.heap.size := by omega
    have zat := (hb1.cell (p := ⟨b, _, none⟩) lbw).trans zat0
    obtain ⟨g0, hg0⟩ : ∃ x, x = sGen s0 := ⟨_, rfl⟩
    have HGB := Lib.hid (show ∀ W cx, Below wr.heap.size wr W → Calls Try.prog 107 #[.slice (some ⟨b0, o0, none⟩) 4 cx] W (fun e w' => e = .returned (.int .u64 (g0 : Nat)) ∧ w' = W) from fun W cx hW => by rw [hg0]; exact num_at hbs0 0 4 cx (by omega) (by decide) W hW)
    have HG0 := Lib.hid (And.intro hg0 hs0e)
    have c04 : (4 : Int) ≤ (c0 : Int) := by omega
    have hal2 : (at_ : Int) < (l.length : Int) := by omega
    have at0' : (0 : Int) ≤ (at_ : Int) := by omega
    clear hget hbs0 hg0 hs0e zat0
    by_cases hgl : g0 < last
    case pos =>
      have d2 : decide ((g0 : Int) < (last : Int)) = true := decide_eq_true (by omega)
      have d2n : decide (g0 < last) = true := decide_eq_true hgl
      have HGL := Lib.hid hgl
      clear hgl
      go_wp2_with (go_at_call 107; refine (HGB.out _ _ hb1).mono ?_; rintro e w8 ⟨rfl, hw8⟩; have hw8 := hw8.symm; subst hw8)
      go_ret
      exact HEND.out (by rw [recAt_last, ← HG0.out.2, ← HG0.out.1, if_neg (by have := HGL.out; omega)])
    have d2 : decide ((g0 : Int) < (last : Int)) = false := decide_eq_false (by omega)
    have d2n : decide (g0 < last) = false := decide_eq_false hgl
    have hz2 : recAt l at_ last = some (at_ + n, bs) := by rw [recAt_last, ← HG0.out.2, ← HG0.out.1, if_pos (by omega)]; exact HZ.out
    have HZ2 := Lib.hid hz2
    clear hz2 hgl
    have hok : RcOk ⟨at_ + n, y.b, y.v, y.bl⟩ := HY.out.1
    obtain ⟨f', hall, hrec, hf', -⟩ := rc_snoc (x := ⟨at_ + n, y.b, y.v, y.bl⟩) HI.out.1 HI.out.2.1 HI.out.2.2 (by omega) (by rw [HY.out.2.1]; exact HZ2.out) hok rfl
    rw [← HG0.out.2, ← HG0.out.1] at hrec
    have HNX := Lib.hid (And.intro hall (And.intro hrec hf'))
    clear hall hrec hf' hok
    have hbx : RcB (xs ++ [⟨at_ + n, y.b, y.v, y.bl⟩]) w1 := fun x hx => by
      rcases List.mem_append.1 hx with hx | hx
      · exact HB1.out x hx
      · rw [List.mem_singleton.1 hx]; exact ⟨HY.out.1, fun g t cs h => (HY.out.2.2 g t cs h).1⟩
    have HBX := Lib.hid hbx
    clear hbx
    have i1 : IntKind.i64.wrap ((at_ : Int) + (n : Int)) = (at_ : Int) + n := IntWalk.i64_in _ (by omega)
    have hxm : (xs ++ [(⟨at_ + n, y.b, y.v, y.bl⟩ : Rc)]).map Rc.v = xs.map Rc.v ++ [.slice YA y.b.length yc] := by rw [List.map_append, List.map_singleton, ← HYV.out]
    have HXM := Lib.hid hxm
    clear hxm
    go_upto_region 9 with (first | (go_at_call 107; refine (HGB.out _ _ hb1).mono ?_; rintro e w8 ⟨rfl, hw8⟩; have hw8 := hw8.symm; subst hw8) | (at_builtin; refine wpList_append_own _ rfl (.tmp 34) (.tmp 36) 22 rfl w.heap.size 35 i0 (.slice none 0 0) 1 24 Try.underlying22 hi0 hz0 hz1 hz2 rfl (by decide) _ xs.length (xs.map Rc.v) rfl (hown1.alloc _) ⟨w1.heap.size, 0, none⟩ 1 1 [.slice YA y.b.length yc] rfl rfl (cell_new1 w1 _ _) (by simp [Value.oneCell']) (by simp [maxLen]; omega) (by omega) (by simp <;> omega) ?_; intro v9 w9 hown9 hgrow9 _))
    have hb9 : Below w.heap.size w w9 := (hbw.alloc hsw _).grown hgrow9 (by simp <;> omega) (own_base hown1)
    have HB9 := Lib.hid ((HBX.out.below ((Below.refl _ _).alloc (Nat.le_refl _) _)).grown (hown1.alloc _) hgrow9)
    rw [← HXM.out] at hown9
    clear hgrow9 HB1 HBX
    go_wp2_with (fail)
    go_roundw
    case rel => exact ⟨at_ + n, g0, f', xs ++ [⟨at_ + n, y.b, y.v, y.bl⟩], by go_num, rfl, by omega, by rw [List.length_append, List.length_singleton]; omega, by rw [List.length_append, List.length_singleton]; exact hown9, hb9, HNX, HB9⟩
    case measure => simp [intOf]; omega
end Go.Proofs.Ytckeopidedoohaa
