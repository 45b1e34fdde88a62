/-
  The reference's reading of records, as plain mathematics: it reads what the journal reads. Conditions: sectors of 128 bytes, fewer than 65536 of them. | Good of the journal's reference. Conditions: a sector of 128 bytes, fewer than 65536 of them.
-/
import Derived.Test.YtckeopidedoohaaJpl
import Derived.Test.YtckeopidedoohaaTk
import Derived.Test.YtckeopidedoohaaJra
import Derived.Test.YtckeopidedoohaaJgo
import Derived.Deep.CutBlock
import Derived.Deep.DeepCutAuto
import Derived.Deep.RegionWith
namespace Go.Proofs.Ytckeopidedoohaa

theorem get_be2 {n : Nat} (h : n < 65536) : getL (beL 2 n) = n := by
  simp [getL, beL]
  omega
theorem ofNat_eq {n : Nat} {a : UInt8} (h : n % 256 = a.toNat) : UInt8.ofNat n = a := by
  apply UInt8.toNat_inj.1
  rw [UInt8.toNat_ofNat']
  exact h
theorem be_get4 {b : Bs} (h : b.length = 4) : beL 4 (getL b) = b := by
  match b, h with
  | [a, b, c, d], _ =>
    have := a.toNat_lt
    have := b.toNat_lt
    have := c.toNat_lt
    have := d.toNat_lt
    have e : getL [a, b, c, d] = ((a.toNat * 256 + b.toNat) * 256 + c.toNat) * 256 + d.toNat := by simp [getL]
    rw [e]
    simp only [beL]
    rw [ofNat_eq (a := a) (by omega), ofNat_eq (a := b) (by omega), ofNat_eq (a := c) (by omega), ofNat_eq (a := d) (by omega)]
theorem be_get2 {b : Bs} (h : b.length = 2) : beL 2 (getL b) = b := by
  match b, h with
  | [a, b], _ =>
    have := a.toNat_lt
    have := b.toNat_lt
    have e : getL [a, b] = a.toNat * 256 + b.toNat := by simp [getL]
    rw [e]
    simp only [beL]
    rw [ofNat_eq (a := a) (by omega), ofNat_eq (a := b) (by omega)]
/-- The sector's parts, as the reference reads them. -/
def sSum (s : Bs) : Nat := getL ((s.drop 4).take 4)
def sMid (s : Bs) : Bs := (s.drop 8).take 116
def sNum (s : Bs) : Nat := getL ((s.drop 8).take 2)
/-- Is a sector as the reference asks? -/
def RGood (s : Bs) (k : Nat) : Prop := sGen s ≠ 0 ∧ sGen s = sEnd s ∧ sSum s = gSum (sMid s) ∧ sNum s = k ∧ (sKind s).toNat ≤ 3 ∧ sLen s ≤ 112 ∧ (2 ≤ (sKind s).toNat ∨ sLen s = 112) ∧ ((sKind s).toNat % 2 = 1 ∨ 0 < sLen s) ∧ ∀ i, 12 + sLen s ≤ i → i < 124 → s.getD i 0 = 0
theorem drop_drop_take {s : Bs} (a b : Nat) : s.drop a = (s.drop a).take b ++ s.drop (a + b) := by
  rw [← List.drop_drop, List.take_append_drop]
theorem drop_one {s : Bs} {a : Nat} (h : a < s.length) : s.drop a = s.getD a 0 :: s.drop (a + 1) := by
  rw [List.drop_eq_getElem_cons h, List.getD_eq_getElem?_getD, List.getElem?_eq_getElem h]
  rfl
theorem mid_split {s : Bs} (h : s.length = 128) : sMid s = (s.drop 8).take 2 ++ sKind s :: s.getD 11 0 :: (s.drop 12).take 112 := by
  unfold sMid sKind
  have e : s.drop 8 = (s.drop 8).take 2 ++ (s.getD 10 0 :: s.getD 11 0 :: s.drop 12) := by
    rw [← drop_one (a := 11) (by omega), ← drop_one (a := 10) (by omega)]
    exact drop_drop_take 8 2
  have l2 : ((s.drop 8).take 2).length = 2 := by rw [List.length_take, List.length_drop]; omega
  rw [e]
  rw [List.take_append, l2]
  rw [List.take_of_length_le (by rw [l2]; omega)]
  rw [take_app l2]
  rfl
theorem good_ref {s : Bs} {k : Nat} (hl : s.length = 128) (hk : k < 65536) : gGood s k = true ↔ RGood s k := by
  constructor
  · intro h
    obtain ⟨h1, h2, h3, h4, h5, h6⟩ := good_parts h
    have hg : sGen s < 4294967296 := getL_lt4 (by simp [hl])
    have hd := sData_len hl h1
    have hdl : (sData s).length ≤ 112 := by omega
    have e8 : s.drop 8 = mid k (sKind s) (sData s) ++ beL 4 (sGen s) := by
      rw [h6, enc_gen hg, enc_kind, enc_data _ _ _ hdl]
      unfold enc
      rw [← List.append_assoc, drop_app (by simp [beL_len])]
    have e4 : s.drop 4 = beL 4 (gSum (mid k (sKind s) (sData s))) ++ (mid k (sKind s) (sData s) ++ beL 4 (sGen s)) := by
      rw [h6, enc_gen hg, enc_kind, enc_data _ _ _ hdl]
      unfold enc
      rw [drop_app (beL_len _ _)]
    have em : sMid s = mid k (sKind s) (sData s) := by
      unfold sMid
      rw [e8, take_app (mid_len _ _ hdl)]
    refine ⟨by omega, (good_ends hl h).symm, ?_, ?_, h2, h1, ?_, ?_, ?_⟩
    · unfold sSum
      rw [em, e4, take_app (beL_len _ _), get_be4 (gSum_lt _)]
    · unfold sNum
      rw [e8]
      unfold mid
      rw [List.append_assoc, take_app (beL_len _ _), get_be2 hk]
    · rcases h3 with h3 | h3
      · unfold sFin at h3
        have := of_decide_eq_true h3
        left; omega
      · right; omega
    · rcases h4 with h4 | h4
      · exact .inl (of_decide_eq_true h4)
      · exact .inr h4
    · intro i hi1 hi2
      have e9 : s.getD i 0 = (s.drop 8).getD (i - 8) 0 := by
        rw [List.getD_eq_getElem?_getD, List.getD_eq_getElem?_getD, List.getElem?_drop, show 8 + (i - 8) = i by omega]
      rw [e9, e8]
      unfold mid
      have e10 : beL 2 k ++ sKind s :: UInt8.ofNat (sData s).length :: (sData s ++ List.replicate (112 - (sData s).length) 0) ++ beL 4 (sGen s) = (beL 2 k ++ [sKind s, UInt8.ofNat (sData s).length] ++ sData s) ++ (List.replicate (112 - (sData s).length) 0 ++ beL 4 (sGen s)) := by simp
      rw [e10, List.getD_eq_getElem?_getD, List.getElem?_append_right (by simp [beL_len]; omega), List.getElem?_append_left (by simp [beL_len]; omega), List.getElem?_replicate]
      split <;> rfl
  · rintro ⟨h1, h2, h3, h4, h5, h6, h7, h8, h9⟩
    have hd := sData_len hl h6
    have l2 : ((s.drop 8).take 2).length = 2 := by rw [List.length_take, List.length_drop]; omega
    have l4 : (s.take 4).length = 4 := by rw [List.length_take]; omega
    have l44 : ((s.drop 4).take 4).length = 4 := by rw [List.length_take, List.length_drop]; omega
    have l124 : (s.drop 124).length = 4 := by rw [List.length_drop]; omega
    have lb : ((s.drop 12).take 112).length = 112 := by rw [List.length_take, List.length_drop]; omega
    have eb : (s.drop 12).take 112 = sData s ++ List.replicate (112 - (sData s).length) 0 := by
      apply List.ext_getElem?
      intro i
      rcases Nat.lt_or_ge i 112 with hi | hi
      · rcases Nat.lt_or_ge i (sLen s) with h | h
        · rw [List.getElem?_append_left (by omega)]
          unfold sData
          rw [List.getElem?_take, List.getElem?_take, if_pos hi, if_pos h]
        · rw [List.getElem?_append_right (by omega), List.getElem?_replicate, if_pos (by omega), List.getElem?_take, if_pos hi, List.getElem?_drop]
          have := h9 (12 + i) (by omega) (by omega)
          rw [List.getD_eq_getElem?_getD, List.getElem?_eq_getElem (by omega)] at this
          rw [List.getElem?_eq_getElem (by omega)]
          exact congrArg some this
      · rw [List.getElem?_eq_none (by omega), List.getElem?_eq_none (by rw [List.length_append, List.length_replicate]; omega)]
    have em : sMid s = mid k (sKind s) (sData s) := by
      rw [mid_split hl, eb]
      unfold mid
      have e2 : (s.drop 8).take 2 = beL 2 k := by rw [← h4]; exact (be_get2 l2).symm
      have e3 : UInt8.ofNat (sData s).length = s.getD 11 0 := by
        rw [hd]
        unfold sLen
        exact UInt8.ofNat_toNat
      rw [e2, e3]
    have es : s = enc (sGen s) k (sKind s) (sData s) := by
      unfold enc
      rw [← em, ← h3]
      unfold sSum
      rw [be_get4 l44]
      have e1 : beL 4 (sGen s) = s.take 4 := be_get4 l4
      have e5 : beL 4 (sGen s) = s.drop 124 := by rw [h2]; exact be_get4 l124
      have e6 : s = s.take 4 ++ ((s.drop 4).take 4 ++ (sMid s ++ s.drop 124)) := by
        have a1 : s.drop 8 = sMid s ++ s.drop 124 := drop_drop_take 8 116
        have a2 : s.drop 4 = (s.drop 4).take 4 ++ s.drop 8 := drop_drop_take 4 4
        rw [← a1, ← a2, List.take_append_drop]
      rw [← e5] at e6
      rw [← e1] at e6
      exact e6
    unfold gGood sFin sBeg
    simp only [Bool.and_eq_true, Bool.or_eq_true, decide_eq_true_eq]
    exact ⟨h6, h5, by omega, h8, by omega, es⟩
theorem scan_last (g0 last at_ : Nat) : ∀ (l : List Bs) (n : Nat) (b : Bs), scan g0 last at_ l n b = if last ≤ g0 then scan g0 0 at_ l n b else none
  | [], _, _ => by unfold scan; split <;> rfl
  | s :: r, n, b => by
    unfold scan
    by_cases h : last ≤ g0
    · rw [if_pos h]
      have e : (gGood s n = true ∧ sBeg s = decide (n = at_) ∧ sGen s = g0 ∧ last ≤ sGen s) ↔ (gGood s n = true ∧ sBeg s = decide (n = at_) ∧ sGen s = g0 ∧ 0 ≤ sGen s) := by
        constructor
        · rintro ⟨h1, h2, h3, -⟩; exact ⟨h1, h2, h3, Nat.zero_le _⟩
        · rintro ⟨h1, h2, h3, -⟩; exact ⟨h1, h2, h3, by omega⟩
      by_cases h2 : gGood s n = true ∧ sBeg s = decide (n = at_) ∧ sGen s = g0 ∧ last ≤ sGen s
      · rw [if_pos h2, if_pos (e.1 h2), scan_last g0 last at_ r, if_pos h]
      · rw [if_neg h2, if_neg (fun h3 => h2 (e.2 h3))]
    · rw [if_neg h, if_neg (fun h2 => by omega)]
theorem recAt_last (l : List Bs) (at_ last : Nat) : recAt l at_ last = if last ≤ sGen (l.getD at_ []) then recAt l at_ 0 else none := scan_last _ _ _ _ _ _
end Go.Proofs.Ytckeopidedoohaa

namespace Go.Proofs.Ytckeopidedoohaa
open Go.RowKit
variable {n₀ : Nat}
attribute [local go_sem] Oper.semAt_some
@[reducible] def oJgd0 : Oper := { dst := some 11, op := Op.move (Operand.tmp 0), type := 35, pos := "ref.go:53", after := #[], guard := none }
@[reducible] def oJgd1 : Oper := { dst := some 12, op := Op.slice 35 (Operand.tmp 11) none (some (Operand.const (Value.int IntKind.i64 4))) none, type := 35, pos := "ref.go:53", after := #[{ on := 0, ground := Ground.data }], guard := none }
@[reducible] def oJgd2 : Oper := { dst := some 13, op := Op.call { callee := Callee.value (Operand.func 107), args := #[Operand.tmp 12], argTypes := #[35] }, type := 109, pos := "ref.go:53", after := #[{ on := 1, ground := Ground.data }], guard := none }
@[reducible] def oJgd3 : Oper := { dst := some 14, op := Op.binOp BinOp.eql 109 (Operand.tmp 13) (Operand.const (Value.int IntKind.u64 0)) 109, type := 4, pos := "ref.go:53", after := #[{ on := 2, ground := Ground.data }], guard := none }
@[reducible] def oJgd4 : Oper := { dst := some 15, op := Op.move (Operand.tmp 14), type := 4, pos := "ref.go:53", after := #[{ on := 3, ground := Ground.data }, { on := 2, ground := Ground.chain }], guard := none }
@[reducible] def oJgd5 : Oper := { dst := some 16, op := Op.move (Operand.tmp 0), type := 35, pos := "ref.go:53", after := #[{ on := 4, ground := Ground.guard }], guard := some (4, false) }
@[reducible] def oJgd6 : Oper := { dst := some 17, op := Op.slice 35 (Operand.tmp 16) none (some (Operand.const (Value.int IntKind.i64 4))) none, type := 35, pos := "ref.go:53", after := #[{ on := 5, ground := Ground.data }, { on := 4, ground := Ground.guard }], guard := some (4, false) }
@[reducible] def oJgd7 : Oper := { dst := some 18, op := Op.call { callee := Callee.value (Operand.func 107), args := #[Operand.tmp 17], argTypes := #[35] }, type := 109, pos := "ref.go:53", after := #[{ on := 6, ground := Ground.data }, { on := 4, ground := Ground.chain }, { on := 4, ground := Ground.guard }], guard := some (4, false) }
@[reducible] def oJgd8 : Oper := { dst := some 19, op := Op.move (Operand.tmp 0), type := 35, pos := "ref.go:53", after := #[{ on := 4, ground := Ground.guard }], guard := some (4, false) }
@[reducible] def oJgd9 : Oper := { dst := some 20, op := Op.slice 35 (Operand.tmp 19) (some (Operand.const (Value.int IntKind.i64 124))) none none, type := 35, pos := "ref.go:53", after := #[{ on := 8, ground := Ground.data }, { on := 4, ground := Ground.guard }], guard := some (4, false) }
@[reducible] def oJgd10 : Oper := { dst := some 21, op := Op.call { callee := Callee.value (Operand.func 107), args := #[Operand.tmp 20], argTypes := #[35] }, type := 109, pos := "ref.go:53", after := #[{ on := 9, ground := Ground.data }, { on := 7, ground := Ground.chain }, { on := 4, ground := Ground.guard }], guard := some (4, false) }
@[reducible] def oJgd11 : Oper := { dst := some 22, op := Op.binOp BinOp.neq 109 (Operand.tmp 18) (Operand.tmp 21) 109, type := 4, pos := "ref.go:53", after := #[{ on := 7, ground := Ground.data }, { on := 10, ground := Ground.data }, { on := 4, ground := Ground.guard }], guard := some (4, false) }
@[reducible] def oJgd12 : Oper := { dst := some 23, op := Op.pick (Operand.tmp 15) (Operand.const (Value.bool true)) (Operand.tmp 22), type := 4, pos := "ref.go:53", after := #[{ on := 4, ground := Ground.data }, { on := 11, ground := Ground.data }], guard := none }
@[reducible] def oJgd13 : Oper := { dst := some 24, op := Op.move (Operand.tmp 23), type := 4, pos := "ref.go:53", after := #[{ on := 12, ground := Ground.data }, { on := 10, ground := Ground.chain }], guard := none }
@[reducible] def oJgd14 : Oper := { dst := some 25, op := Op.move (Operand.tmp 0), type := 35, pos := "ref.go:53", after := #[{ on := 13, ground := Ground.guard }], guard := some (13, false) }
@[reducible] def oJgd15 : Oper := { dst := some 26, op := Op.slice 35 (Operand.tmp 25) (some (Operand.const (Value.int IntKind.i64 4))) (some (Operand.const (Value.int IntKind.i64 8))) none, type := 35, pos := "ref.go:53", after := #[{ on := 14, ground := Ground.data }, { on := 13, ground := Ground.guard }], guard := some (13, false) }
@[reducible] def oJgd16 : Oper := { dst := some 27, op := Op.call { callee := Callee.value (Operand.func 107), args := #[Operand.tmp 26], argTypes := #[35] }, type := 109, pos := "ref.go:53", after := #[{ on := 15, ground := Ground.data }, { on := 13, ground := Ground.chain }, { on := 13, ground := Ground.guard }], guard := some (13, false) }
@[reducible] def oJgd17 : Oper := { dst := some 28, op := Op.convert 109 134 (Operand.tmp 27), type := 134, pos := "ref.go:53", after := #[{ on := 16, ground := Ground.data }, { on := 13, ground := Ground.guard }], guard := some (13, false) }
@[reducible] def oJgd18 : Oper := { dst := some 29, op := Op.move (Operand.tmp 0), type := 35, pos := "ref.go:53", after := #[{ on := 13, ground := Ground.guard }], guard := some (13, false) }
@[reducible] def oJgd19 : Oper := { dst := some 30, op := Op.slice 35 (Operand.tmp 29) (some (Operand.const (Value.int IntKind.i64 8))) (some (Operand.const (Value.int IntKind.i64 124))) none, type := 35, pos := "ref.go:53", after := #[{ on := 18, ground := Ground.data }, { on := 13, ground := Ground.guard }], guard := some (13, false) }
@[reducible] def oJgd20 : Oper := { dst := some 31, op := Op.call { callee := Callee.value (Operand.func 111), args := #[Operand.tmp 30], argTypes := #[35] }, type := 134, pos := "ref.go:53", after := #[{ on := 19, ground := Ground.data }, { on := 16, ground := Ground.chain }, { on := 13, ground := Ground.guard }], guard := some (13, false) }
@[reducible] def oJgd21 : Oper := { dst := some 32, op := Op.binOp BinOp.neq 134 (Operand.tmp 28) (Operand.tmp 31) 134, type := 4, pos := "ref.go:53", after := #[{ on := 17, ground := Ground.data }, { on := 20, ground := Ground.data }, { on := 13, ground := Ground.guard }], guard := some (13, false) }
@[reducible] def oJgd22 : Oper := { dst := some 33, op := Op.pick (Operand.tmp 24) (Operand.const (Value.bool true)) (Operand.tmp 32), type := 4, pos := "ref.go:53", after := #[{ on := 13, ground := Ground.data }, { on := 21, ground := Ground.data }], guard := none }
@[reducible] def oJgd23 : Oper := { dst := some 34, op := Op.move (Operand.tmp 33), type := 4, pos := "ref.go:53", after := #[{ on := 22, ground := Ground.data }, { on := 20, ground := Ground.chain }], guard := none }
@[reducible] def oJgd24 : Oper := { dst := some 35, op := Op.move (Operand.tmp 0), type := 35, pos := "ref.go:53", after := #[{ on := 23, ground := Ground.guard }], guard := some (23, false) }
@[reducible] def oJgd25 : Oper := { dst := some 36, op := Op.slice 35 (Operand.tmp 35) (some (Operand.const (Value.int IntKind.i64 8))) (some (Operand.const (Value.int IntKind.i64 10))) none, type := 35, pos := "ref.go:53", after := #[{ on := 24, ground := Ground.data }, { on := 23, ground := Ground.guard }], guard := some (23, false) }
@[reducible] def oJgd26 : Oper := { dst := some 37, op := Op.call { callee := Callee.value (Operand.func 107), args := #[Operand.tmp 36], argTypes := #[35] }, type := 109, pos := "ref.go:53", after := #[{ on := 25, ground := Ground.data }, { on := 23, ground := Ground.chain }, { on := 23, ground := Ground.guard }], guard := some (23, false) }
@[reducible] def oJgd27 : Oper := { dst := some 38, op := Op.move (Operand.tmp 1), type := 3, pos := "ref.go:53", after := #[{ on := 23, ground := Ground.guard }], guard := some (23, false) }
@[reducible] def oJgd28 : Oper := { dst := some 39, op := Op.convert 3 109 (Operand.tmp 38), type := 109, pos := "ref.go:53", after := #[{ on := 27, ground := Ground.data }, { on := 23, ground := Ground.guard }], guard := some (23, false) }
@[reducible] def oJgd29 : Oper := { dst := some 40, op := Op.binOp BinOp.neq 109 (Operand.tmp 37) (Operand.tmp 39) 109, type := 4, pos := "ref.go:53", after := #[{ on := 26, ground := Ground.data }, { on := 28, ground := Ground.data }, { on := 23, ground := Ground.guard }], guard := some (23, false) }
@[reducible] def oJgd30 : Oper := { dst := some 41, op := Op.pick (Operand.tmp 34) (Operand.const (Value.bool true)) (Operand.tmp 40), type := 4, pos := "ref.go:53", after := #[{ on := 23, ground := Ground.data }, { on := 29, ground := Ground.data }], guard := none }
@[reducible] def oJgd31 : Oper := { dst := some 42, op := Op.move (Operand.tmp 41), type := 4, pos := "ref.go:53", after := #[{ on := 30, ground := Ground.data }, { on := 26, ground := Ground.chain }], guard := none }
@[reducible] def oJgd32 : Oper := { dst := some 43, op := Op.move (Operand.tmp 0), type := 35, pos := "ref.go:53", after := #[{ on := 31, ground := Ground.guard }], guard := some (31, false) }
@[reducible] def oJgd33 : Oper := { dst := some 44, op := Op.indexAddr 35 (Operand.tmp 43) (Operand.const (Value.int IntKind.i64 10)), type := 0, pos := "ref.go:53", after := #[{ on := 32, ground := Ground.data }, { on := 31, ground := Ground.guard }], guard := some (31, false) }
@[reducible] def oJgd34 : Oper := { dst := some 45, op := Op.load 5 (Operand.tmp 44), type := 5, pos := "ref.go:53", after := #[{ on := 33, ground := Ground.data }, { on := 31, ground := Ground.guard }], guard := some (31, false) }
@[reducible] def oJgd35 : Oper := { dst := some 46, op := Op.binOp BinOp.gtr 5 (Operand.tmp 45) (Operand.const (Value.int IntKind.u8 3)) 5, type := 4, pos := "ref.go:53", after := #[{ on := 34, ground := Ground.data }, { on := 31, ground := Ground.guard }], guard := some (31, false) }
@[reducible] def oJgd36 : Oper := { dst := some 47, op := Op.pick (Operand.tmp 42) (Operand.const (Value.bool true)) (Operand.tmp 46), type := 4, pos := "ref.go:53", after := #[{ on := 31, ground := Ground.data }, { on := 35, ground := Ground.data }], guard := none }
@[reducible] def oJgd37 : Oper := { dst := some 48, op := Op.move (Operand.tmp 47), type := 4, pos := "ref.go:53", after := #[{ on := 36, ground := Ground.data }, { on := 31, ground := Ground.chain }], guard := none }
@[reducible] def oJgd38 : Oper := { dst := some 49, op := Op.move (Operand.tmp 5), type := 3, pos := "ref.go:53", after := #[{ on := 37, ground := Ground.guard }], guard := some (37, false) }
@[reducible] def oJgd39 : Oper := { dst := some 50, op := Op.binOp BinOp.gtr 3 (Operand.tmp 49) (Operand.const (Value.int IntKind.i64 112)) 3, type := 4, pos := "ref.go:53", after := #[{ on := 38, ground := Ground.data }, { on := 37, ground := Ground.guard }], guard := some (37, false) }
@[reducible] def oJgd40 : Oper := { dst := some 51, op := Op.pick (Operand.tmp 48) (Operand.const (Value.bool true)) (Operand.tmp 50), type := 4, pos := "ref.go:53", after := #[{ on := 37, ground := Ground.data }, { on := 39, ground := Ground.data }], guard := none }
@[reducible] def oJgd41 : Oper := { dst := some 52, op := Op.move (Operand.tmp 51), type := 4, pos := "ref.go:53", after := #[{ on := 40, ground := Ground.data }, { on := 37, ground := Ground.chain }], guard := none }
@[reducible] def oJgd42 : Oper := { dst := some 53, op := Op.move (Operand.tmp 0), type := 35, pos := "ref.go:53", after := #[{ on := 41, ground := Ground.guard }], guard := some (41, false) }
@[reducible] def oJgd43 : Oper := { dst := some 54, op := Op.indexAddr 35 (Operand.tmp 53) (Operand.const (Value.int IntKind.i64 10)), type := 0, pos := "ref.go:53", after := #[{ on := 42, ground := Ground.data }, { on := 41, ground := Ground.guard }], guard := some (41, false) }
@[reducible] def oJgd44 : Oper := { dst := some 55, op := Op.load 5 (Operand.tmp 54), type := 5, pos := "ref.go:53", after := #[{ on := 43, ground := Ground.data }, { on := 41, ground := Ground.guard }], guard := some (41, false) }
@[reducible] def oJgd45 : Oper := { dst := some 56, op := Op.binOp BinOp.lss 5 (Operand.tmp 55) (Operand.const (Value.int IntKind.u8 2)) 5, type := 4, pos := "ref.go:53", after := #[{ on := 44, ground := Ground.data }, { on := 41, ground := Ground.guard }], guard := some (41, false) }
@[reducible] def oJgd46 : Oper := { dst := some 57, op := Op.move (Operand.tmp 56), type := 4, pos := "ref.go:53", after := #[{ on := 45, ground := Ground.data }, { on := 41, ground := Ground.chain }, { on := 41, ground := Ground.guard }], guard := some (41, false) }
@[reducible] def oJgd47 : Oper := { dst := some 58, op := Op.move (Operand.tmp 5), type := 3, pos := "ref.go:53", after := #[{ on := 46, ground := Ground.guard }], guard := some (46, true) }
@[reducible] def oJgd48 : Oper := { dst := some 59, op := Op.binOp BinOp.neq 3 (Operand.tmp 58) (Operand.const (Value.int IntKind.i64 112)) 3, type := 4, pos := "ref.go:53", after := #[{ on := 47, ground := Ground.data }, { on := 46, ground := Ground.guard }], guard := some (46, true) }
@[reducible] def oJgd49 : Oper := { dst := some 60, op := Op.pick (Operand.tmp 57) (Operand.tmp 59) (Operand.const (Value.bool false)), type := 4, pos := "ref.go:53", after := #[{ on := 46, ground := Ground.data }, { on := 48, ground := Ground.data }, { on := 41, ground := Ground.guard }], guard := some (41, false) }
@[reducible] def oJgd50 : Oper := { dst := some 61, op := Op.pick (Operand.tmp 52) (Operand.const (Value.bool true)) (Operand.tmp 60), type := 4, pos := "ref.go:53", after := #[{ on := 41, ground := Ground.data }, { on := 49, ground := Ground.data }], guard := none }
@[reducible] def oJgd51 : Oper := { dst := some 62, op := Op.move (Operand.tmp 61), type := 4, pos := "ref.go:53", after := #[{ on := 50, ground := Ground.data }, { on := 46, ground := Ground.chain }], guard := none }
@[reducible] def oJgd52 : Oper := { dst := some 63, op := Op.move (Operand.tmp 0), type := 35, pos := "ref.go:53", after := #[{ on := 51, ground := Ground.guard }], guard := some (51, false) }
@[reducible] def oJgd53 : Oper := { dst := some 64, op := Op.indexAddr 35 (Operand.tmp 63) (Operand.const (Value.int IntKind.i64 10)), type := 0, pos := "ref.go:53", after := #[{ on := 52, ground := Ground.data }, { on := 51, ground := Ground.guard }], guard := some (51, false) }
@[reducible] def oJgd54 : Oper := { dst := some 65, op := Op.load 5 (Operand.tmp 64), type := 5, pos := "ref.go:53", after := #[{ on := 53, ground := Ground.data }, { on := 51, ground := Ground.guard }], guard := some (51, false) }
@[reducible] def oJgd55 : Oper := { dst := some 66, op := Op.binOp BinOp.rem 5 (Operand.tmp 65) (Operand.const (Value.int IntKind.u8 2)) 5, type := 5, pos := "ref.go:53", after := #[{ on := 54, ground := Ground.data }, { on := 51, ground := Ground.guard }], guard := some (51, false) }
@[reducible] def oJgd56 : Oper := { dst := some 67, op := Op.binOp BinOp.eql 5 (Operand.tmp 66) (Operand.const (Value.int IntKind.u8 0)) 5, type := 4, pos := "ref.go:53", after := #[{ on := 55, ground := Ground.data }, { on := 51, ground := Ground.guard }], guard := some (51, false) }
@[reducible] def oJgd57 : Oper := { dst := some 68, op := Op.move (Operand.tmp 67), type := 4, pos := "ref.go:53", after := #[{ on := 56, ground := Ground.data }, { on := 51, ground := Ground.chain }, { on := 51, ground := Ground.guard }], guard := some (51, false) }
@[reducible] def oJgd58 : Oper := { dst := some 69, op := Op.move (Operand.tmp 5), type := 3, pos := "ref.go:53", after := #[{ on := 57, ground := Ground.guard }], guard := some (57, true) }
@[reducible] def oJgd59 : Oper := { dst := some 70, op := Op.binOp BinOp.eql 3 (Operand.tmp 69) (Operand.const (Value.int IntKind.i64 0)) 3, type := 4, pos := "ref.go:53", after := #[{ on := 58, ground := Ground.data }, { on := 57, ground := Ground.guard }], guard := some (57, true) }
@[reducible] def oJgd60 : Oper := { dst := some 71, op := Op.pick (Operand.tmp 68) (Operand.tmp 70) (Operand.const (Value.bool false)), type := 4, pos := "ref.go:53", after := #[{ on := 57, ground := Ground.data }, { on := 59, ground := Ground.data }, { on := 51, ground := Ground.guard }], guard := some (51, false) }
@[reducible] def oJgd61 : Oper := { dst := some 72, op := Op.pick (Operand.tmp 62) (Operand.const (Value.bool true)) (Operand.tmp 71), type := 4, pos := "ref.go:53", after := #[{ on := 51, ground := Ground.data }, { on := 60, ground := Ground.data }], guard := none }
attribute [local go_sem] oJgd0 oJgd1 oJgd2 oJgd3 oJgd4 oJgd5 oJgd6 oJgd7 oJgd8 oJgd9 oJgd10 oJgd11 oJgd12 oJgd13 oJgd14 oJgd15 oJgd16 oJgd17 oJgd18 oJgd19 oJgd20 oJgd21 oJgd22 oJgd23 oJgd24 oJgd25 oJgd26 oJgd27 oJgd28 oJgd29 oJgd30 oJgd31 oJgd32 oJgd33 oJgd34 oJgd35 oJgd36 oJgd37 oJgd38 oJgd39 oJgd40 oJgd41 oJgd42 oJgd43 oJgd44 oJgd45 oJgd46 oJgd47 oJgd48 oJgd49 oJgd50 oJgd51 oJgd52 oJgd53 oJgd54 oJgd55 oJgd56 oJgd57 oJgd58 oJgd59 oJgd60 oJgd61

theorem good_no {s : Bs} {k : Nat} (hl : s.length = 128) (hk : k < 65536) (h : ¬ RGood s k) : gGood s k = false := by
  cases e : gGood s k
  · rfl
  · exact absurd ((good_ref hl hk).1 e) h
theorem num_at {w : World} {b o : Nat} {s : Bs} (h : BsAt n₀ w (some ⟨b, o, none⟩) s) (x n c : Nat) (hn : x + n ≤ s.length) (h7 : n ≤ 7) (W : World) (hW : Below w.heap.size w W) :
    Calls Try.prog 107 #[.slice (some ⟨b, o + x, none⟩) n c] W fun e w' => e = .returned (.int .u64 (getL ((s.drop x).take n) : Nat)) ∧ w' = W := by
  have hl : ((s.drop x).take n).length = n := by rw [List.length_take, List.length_drop]; omega
  have k := rnumber_t (n₀ := n₀) (some ⟨b, o + x, none⟩) c ((s.drop x).take n) W (by rw [hl]; exact h7) (bs_part (h.below hW) x n hn)
  rw [hl] at k
  exact k
theorem sum_at {w : World} {b o : Nat} {s : Bs} (h : BsAt n₀ w (some ⟨b, o, none⟩) s) (hs : s.length = 128) (c : Nat) (W : World) (hW : Below w.heap.size w W) :
    Calls Try.prog 111 #[.slice (some ⟨b, o + 8, none⟩) 116 c] W fun e w' => e = .returned (.int .u32 (gSum (sMid s) : Nat)) ∧ w' = W := by
  have hl : (sMid s).length = 116 := by unfold sMid; rw [List.length_take, List.length_drop]; omega
  have k := rsum_t (n₀ := n₀) (some ⟨b, o + 8, none⟩) c (sMid s) W (by rw [hl]; decide) (bs_part (h.below hW) 8 116 (by omega))
  rw [hl] at k
  exact k

set_option maxRecDepth 20000 in
set_option maxHeartbeats 8000000 in
theorem rgood_a (A : Option Addr) (c k : Nat) (s : Bs) (w : World) (hs : s.length = 128) (hc : 128 ≤ c) (hk : k < 65536) (hA : BsAt n₀ w A s) (hp : ¬ (sGen s ≠ 0 ∧ sGen s = sEnd s ∧ sSum s = gSum (sMid s))) :
    Calls Try.prog 118 #[.slice A 128 c, .int .i64 (k : Int)] w fun e w' => e = .returned (.bool (gGood s k)) ∧ Below w.heap.size w w' := by
  obtain ⟨b, o, rfl, lb, hcs⟩ := id hA (by omega)
  have z11 := hcs 11 (by omega)
  have z10 := hcs 10 (by omega)
  unfold u8v at z11 z10
  have HCS := Lib.hid hcs
  clear hcs
  have EF := Lib.hid (good_no hs hk (fun h => hp ⟨h.1, h.2.1, h.2.2.1⟩))
  have l4 : ∀ x, x + 4 ≤ 128 → getL ((s.drop x).take 4) < 4294967296 := fun x h => getL_lt4 (by rw [List.length_take, List.length_drop]; omega)
  have hU : sSum s < 4294967296 := l4 4 (by decide)
  clear l4
  have hD : (s.getD 10 0).toNat < 256 := (s.getD 10 0).toNat_lt
  have hn : (s.getD 11 0).toNat < 256 := (s.getD 11 0).toNat_lt
  obtain ⟨G, qG⟩ : ∃ x, x = sGen s := ⟨_, rfl⟩
  obtain ⟨E, qE⟩ : ∃ x, x = sEnd s := ⟨_, rfl⟩
  obtain ⟨U, qU⟩ : ∃ x, x = sSum s := ⟨_, rfl⟩
  obtain ⟨M, qM⟩ : ∃ x, x = gSum (sMid s) := ⟨_, rfl⟩
  obtain ⟨K, qK⟩ : ∃ x, x = sNum s := ⟨_, rfl⟩
  obtain ⟨D, qD⟩ : ∃ x, x = (s.getD 10 0).toNat := ⟨_, rfl⟩
  obtain ⟨n, qn⟩ : ∃ x, x = (s.getD 11 0).toNat := ⟨_, rfl⟩
  try rw [← qG] at hp
  try rw [← qE] at hp
  try rw [← qU] at hp
  try rw [← qM] at hp
  try rw [← qK] at hp
  try rw [← qD] at hp
  try rw [← qn] at hp
  have HPT := Lib.hid hp
  clear hp
  rw [← qD] at z10 hD
  rw [← qn] at z11 hn
  rw [← qU] at hU
  have hG0 : ∀ W cp, Below w.heap.size w W → Calls Try.prog 107 #[.slice (some ⟨b, o, none⟩) 4 cp] W (fun e w' => e = .returned (.int .u64 (G : Nat)) ∧ w' = W) := fun W cp h => by rw [qG]; exact num_at hA 0 4 cp (by omega) (by decide) W h
  have hE0 : ∀ W cp, Below w.heap.size w W → Calls Try.prog 107 #[.slice (some ⟨b, o + 124, none⟩) 4 cp] W (fun e w' => e = .returned (.int .u64 (E : Nat)) ∧ w' = W) := fun W cp h => by rw [qE]; have h9 := num_at hA 124 4 cp (by omega) (by decide) W h; rw [List.take_of_length_le (by rw [List.length_drop]; omega)] at h9; exact h9
  have hU0 : ∀ W cp, Below w.heap.size w W → Calls Try.prog 107 #[.slice (some ⟨b, o + 4, none⟩) 4 cp] W (fun e w' => e = .returned (.int .u64 (U : Nat)) ∧ w' = W) := fun W cp h => by rw [qU]; exact num_at hA 4 4 cp (by omega) (by decide) W h
  have hK0 : ∀ W cp, Below w.heap.size w W → Calls Try.prog 107 #[.slice (some ⟨b, o + 8, none⟩) 2 cp] W (fun e w' => e = .returned (.int .u64 (K : Nat)) ∧ w' = W) := fun W cp h => by rw [qK]; exact num_at hA 8 2 cp (by omega) (by decide) W h
  have hM0 : ∀ W cp, Below w.heap.size w W → Calls Try.prog 111 #[.slice (some ⟨b, o + 8, none⟩) 116 cp] W (fun e w' => e = .returned (.int .u32 (M : Nat)) ∧ w' = W) := fun W cp h => by rw [qM]; exact sum_at hA hs cp W h
  have hSS : ∀ W, Below w.heap.size w W → W.cell? ⟨b, o + 10, none⟩ = some (.int .u8 (D : Nat)) ∧ Below w.heap.size w W := fun W h => ⟨(h.cell (p := ⟨b, o + 10, none⟩) lb.lt).trans z10, h⟩
  have HSS := Lib.hid hSS
  clear hSS
  have HG0 := Lib.hid hG0
  have HE0 := Lib.hid hE0
  have HU0 := Lib.hid hU0
  have HK0 := Lib.hid hK0
  have HM0 := Lib.hid hM0
  have QG := Lib.hid qG
  have QE := Lib.hid qE
  have QU := Lib.hid qU
  have QM := Lib.hid qM
  have QK := Lib.hid qK
  have QD := Lib.hid qD
  have Qn := Lib.hid qn
  clear hG0 hE0 hU0 hK0 hM0 qG qE qU qM qK qD qn
  have iU : IntKind.u32.wrap (U : Int) = U := by simp [IntKind.wrap, IntKind.bits, IntKind.signed]; omega
  have iK : IntKind.u64.wrap (k : Int) = k := by simp [IntKind.wrap, IntKind.bits, IntKind.signed]; omega
  have hS := Lib.hid hs
  have HA := Lib.hid hA
  have e4 : ¬ c = 4 := by omega
  have e8 : ¬ c = 8 := by omega
  have e124 : ¬ c = 124 := by omega
  have e4b : (4 : Int) ≤ (c : Int) := by omega
  have e8b : (8 : Int) ≤ (c : Int) := by omega
  have e10b : (10 : Int) ≤ (c : Int) := by omega
  have e124b : (124 : Int) ≤ (c : Int) := by omega
  have e128b : (128 : Int) ≤ (c : Int) := by omega
  clear hs hA
  go_enter Try.func118, Try.ntmps118
  go_upto_region 2 with (fail)
  go_cut [72] (fun v72 wx => v72 = .bool true ∧ Below w.heap.size w wx)
  case first =>
    refine wp_region_held_drew (S := fun W => W.cell? ⟨b, o + 10, none⟩ = some (.int .u8 (D : Nat)) ∧ Below w.heap.size w W) (by kernel_rfl) (HSS.out _ (Below.refl _ _).drew) (fun hHeld => ?_)
    refine tkA 0 oJgd0 ?_
    refine tkA 1 oJgd1 ?_
    refine wpAnyH_ready (rs := [2]) (by kernel_rfl) (by simp) ?_
    refine AllReadyH.cons (o := oJgd2) rfl (fun K hK => ?_) AllReadyH.nil
    go_simp
    go_at_call 107; refine (HG0.out _ _ hHeld.2).mono ?_; rintro e9 w9 ⟨rfl, rfl⟩
    refine hK.out _ _ ?_ (fun hHeld => ?_)
    · exact hHeld
    clear hK K
    try simp only [Act.put, List.setIfInBounds_toArray, List.set_cons_zero, List.set_cons_succ]
    by_cases e1 : G = 0
    case pos =>
      have d1a : ((G : Int) == 0) = true := by simp; omega
      have d1b : (G == 0) = true := by simp; omega
      refine tkA 3 oJgd3 ?_
      refine tkA 4 oJgd4 ?_
      refine tkB 5 oJgd5 ?_
      refine tkB 6 oJgd6 ?_
      refine tkB 7 oJgd7 ?_
      refine tkB 8 oJgd8 ?_
      refine tkB 9 oJgd9 ?_
      refine tkB 10 oJgd10 ?_
      refine tkB 11 oJgd11 ?_
      refine tkA 12 oJgd12 ?_
      refine tkA 13 oJgd13 ?_
      refine tkB 14 oJgd14 ?_
      refine tkB 15 oJgd15 ?_
      refine tkB 16 oJgd16 ?_
      refine tkB 17 oJgd17 ?_
      refine tkB 18 oJgd18 ?_
      refine tkB 19 oJgd19 ?_
      refine tkB 20 oJgd20 ?_
      refine tkB 21 oJgd21 ?_
      refine tkA 22 oJgd22 ?_
      refine tkA 23 oJgd23 ?_
      refine tkB 24 oJgd24 ?_
      refine tkB 25 oJgd25 ?_
      refine tkB 26 oJgd26 ?_
      refine tkB 27 oJgd27 ?_
      refine tkB 28 oJgd28 ?_
      refine tkB 29 oJgd29 ?_
      refine tkA 30 oJgd30 ?_
      refine tkA 31 oJgd31 ?_
      refine tkB 32 oJgd32 ?_
      refine tkB 33 oJgd33 ?_
      refine tkB 34 oJgd34 ?_
      refine tkB 35 oJgd35 ?_
      refine tkA 36 oJgd36 ?_
      refine tkA 37 oJgd37 ?_
      refine tkB 38 oJgd38 ?_
      refine tkB 39 oJgd39 ?_
      refine tkA 40 oJgd40 ?_
      refine tkA 41 oJgd41 ?_
      refine tkB 42 oJgd42 ?_
      refine tkB 43 oJgd43 ?_
      refine tkB 44 oJgd44 ?_
      refine tkB 45 oJgd45 ?_
      refine tkB 46 oJgd46 ?_
      refine tkB 47 oJgd47 ?_
      refine tkB 48 oJgd48 ?_
      refine tkB 49 oJgd49 ?_
      refine tkA 50 oJgd50 ?_
      refine tkA 51 oJgd51 ?_
      refine tkB 52 oJgd52 ?_
      refine tkB 53 oJgd53 ?_
      refine tkB 54 oJgd54 ?_
      refine tkB 55 oJgd55 ?_
      refine tkB 56 oJgd56 ?_
      refine tkB 57 oJgd57 ?_
      refine tkB 58 oJgd58 ?_
      refine tkB 59 oJgd59 ?_
      refine tkB 60 oJgd60 ?_
      refine tkA 61 oJgd61 ?_
      refine wpAnyH_done (by kernel_rfl) ?_ _
      (try go_wp2_with (fail))
      go_meet
      exact ⟨rfl, hHeld.2⟩
    have d1a : ((G : Int) == 0) = false := by simp; omega
    have d1b : (G == 0) = false := by simp; omega
    refine tkA 3 oJgd3 ?_
    refine tkA 4 oJgd4 ?_
    refine tkA 5 oJgd5 ?_
    refine tkA 6 oJgd6 ?_
    refine tkA 8 oJgd8 ?_
    refine tkA 9 oJgd9 ?_
    refine wpAnyH_ready (rs := [7]) (by kernel_rfl) (by simp) ?_
    refine AllReadyH.cons (o := oJgd7) rfl (fun K hK => ?_) AllReadyH.nil
    go_simp
    go_at_call 107; refine (HG0.out _ _ hHeld.2).mono ?_; rintro e9 w9 ⟨rfl, rfl⟩
    refine hK.out _ _ ?_ (fun hHeld => ?_)
    · exact hHeld
    clear hK K
    try simp only [Act.put, List.setIfInBounds_toArray, List.set_cons_zero, List.set_cons_succ]
    refine wpAnyH_ready (rs := [10]) (by kernel_rfl) (by simp) ?_
    refine AllReadyH.cons (o := oJgd10) rfl (fun K hK => ?_) AllReadyH.nil
    go_simp
    go_at_call 107; refine (HE0.out _ _ hHeld.2).mono ?_; rintro e9 w9 ⟨rfl, rfl⟩
    refine hK.out _ _ ?_ (fun hHeld => ?_)
    · exact hHeld
    clear hK K
    try simp only [Act.put, List.setIfInBounds_toArray, List.set_cons_zero, List.set_cons_succ]
    by_cases e2 : G = E
    case neg =>
      have d2a : ((G : Int) != (E : Int)) = true := by simp; omega
      have d2b : (G != E) = true := by simp; omega
      refine tkA 11 oJgd11 ?_
      refine tkA 12 oJgd12 ?_
      refine tkA 13 oJgd13 ?_
      refine tkB 14 oJgd14 ?_
      refine tkB 15 oJgd15 ?_
      refine tkB 16 oJgd16 ?_
      refine tkB 17 oJgd17 ?_
      refine tkB 18 oJgd18 ?_
      refine tkB 19 oJgd19 ?_
      refine tkB 20 oJgd20 ?_
      refine tkB 21 oJgd21 ?_
      refine tkA 22 oJgd22 ?_
      refine tkA 23 oJgd23 ?_
      refine tkB 24 oJgd24 ?_
      refine tkB 25 oJgd25 ?_
      refine tkB 26 oJgd26 ?_
      refine tkB 27 oJgd27 ?_
      refine tkB 28 oJgd28 ?_
      refine tkB 29 oJgd29 ?_
      refine tkA 30 oJgd30 ?_
      refine tkA 31 oJgd31 ?_
      refine tkB 32 oJgd32 ?_
      refine tkB 33 oJgd33 ?_
      refine tkB 34 oJgd34 ?_
      refine tkB 35 oJgd35 ?_
      refine tkA 36 oJgd36 ?_
      refine tkA 37 oJgd37 ?_
      refine tkB 38 oJgd38 ?_
      refine tkB 39 oJgd39 ?_
      refine tkA 40 oJgd40 ?_
      refine tkA 41 oJgd41 ?_
      refine tkB 42 oJgd42 ?_
      refine tkB 43 oJgd43 ?_
      refine tkB 44 oJgd44 ?_
      refine tkB 45 oJgd45 ?_
      refine tkB 46 oJgd46 ?_
      refine tkB 47 oJgd47 ?_
      refine tkB 48 oJgd48 ?_
      refine tkB 49 oJgd49 ?_
      refine tkA 50 oJgd50 ?_
      refine tkA 51 oJgd51 ?_
      refine tkB 52 oJgd52 ?_
      refine tkB 53 oJgd53 ?_
      refine tkB 54 oJgd54 ?_
      refine tkB 55 oJgd55 ?_
      refine tkB 56 oJgd56 ?_
      refine tkB 57 oJgd57 ?_
      refine tkB 58 oJgd58 ?_
      refine tkB 59 oJgd59 ?_
      refine tkB 60 oJgd60 ?_
      refine tkA 61 oJgd61 ?_
      refine wpAnyH_done (by kernel_rfl) ?_ _
      (try go_wp2_with (fail))
      go_meet
      exact ⟨rfl, hHeld.2⟩
    have d2a : ((G : Int) != (E : Int)) = false := by simp; omega
    have d2b : (G != E) = false := by simp; omega
    refine tkA 11 oJgd11 ?_
    refine tkA 12 oJgd12 ?_
    refine tkA 13 oJgd13 ?_
    refine tkA 14 oJgd14 ?_
    refine tkA 15 oJgd15 ?_
    refine tkA 18 oJgd18 ?_
    refine tkA 19 oJgd19 ?_
    refine wpAnyH_ready (rs := [16]) (by kernel_rfl) (by simp) ?_
    refine AllReadyH.cons (o := oJgd16) rfl (fun K hK => ?_) AllReadyH.nil
    go_simp
    go_at_call 107; refine (HU0.out _ _ hHeld.2).mono ?_; rintro e9 w9 ⟨rfl, rfl⟩
    refine hK.out _ _ ?_ (fun hHeld => ?_)
    · exact hHeld
    clear hK K
    try simp only [Act.put, List.setIfInBounds_toArray, List.set_cons_zero, List.set_cons_succ]
    refine tkA 17 oJgd17 ?_
    refine wpAnyH_ready (rs := [20]) (by kernel_rfl) (by simp) ?_
    refine AllReadyH.cons (o := oJgd20) rfl (fun K hK => ?_) AllReadyH.nil
    go_simp
    go_at_call 111; refine (HM0.out _ _ hHeld.2).mono ?_; rintro e9 w9 ⟨rfl, rfl⟩
    refine hK.out _ _ ?_ (fun hHeld => ?_)
    · exact hHeld
    clear hK K
    try simp only [Act.put, List.setIfInBounds_toArray, List.set_cons_zero, List.set_cons_succ]
    by_cases e3 : U = M
    case neg =>
      have d3a : ((U : Int) != (M : Int)) = true := by simp; omega
      have d3b : (U != M) = true := by simp; omega
      refine tkA 21 oJgd21 ?_
      refine tkA 22 oJgd22 ?_
      refine tkA 23 oJgd23 ?_
      refine tkB 24 oJgd24 ?_
      refine tkB 25 oJgd25 ?_
      refine tkB 26 oJgd26 ?_
      refine tkB 27 oJgd27 ?_
      refine tkB 28 oJgd28 ?_
      refine tkB 29 oJgd29 ?_
      refine tkA 30 oJgd30 ?_
      refine tkA 31 oJgd31 ?_
      refine tkB 32 oJgd32 ?_
      refine tkB 33 oJgd33 ?_
      refine tkB 34 oJgd34 ?_
      refine tkB 35 oJgd35 ?_
      refine tkA 36 oJgd36 ?_
      refine tkA 37 oJgd37 ?_
      refine tkB 38 oJgd38 ?_
      refine tkB 39 oJgd39 ?_
      refine tkA 40 oJgd40 ?_
      refine tkA 41 oJgd41 ?_
      refine tkB 42 oJgd42 ?_
      refine tkB 43 oJgd43 ?_
      refine tkB 44 oJgd44 ?_
      refine tkB 45 oJgd45 ?_
      refine tkB 46 oJgd46 ?_
      refine tkB 47 oJgd47 ?_
      refine tkB 48 oJgd48 ?_
      refine tkB 49 oJgd49 ?_
      refine tkA 50 oJgd50 ?_
      refine tkA 51 oJgd51 ?_
      refine tkB 52 oJgd52 ?_
      refine tkB 53 oJgd53 ?_
      refine tkB 54 oJgd54 ?_
      refine tkB 55 oJgd55 ?_
      refine tkB 56 oJgd56 ?_
      refine tkB 57 oJgd57 ?_
      refine tkB 58 oJgd58 ?_
      refine tkB 59 oJgd59 ?_
      refine tkB 60 oJgd60 ?_
      refine tkA 61 oJgd61 ?_
      refine wpAnyH_done (by kernel_rfl) ?_ _
      (try go_wp2_with (fail))
      go_meet
      exact ⟨rfl, hHeld.2⟩
    exfalso
    have := HPT.out
    omega
  case rest =>
    obtain ⟨rfl, hb⟩ := hcut
    go_wp2
    go_ret
    exact ⟨by rw [EF.out]; rfl, hb⟩
set_option maxRecDepth 20000 in
set_option maxHeartbeats 8000000 in
theorem rgood_b (A : Option Addr) (c k : Nat) (s : Bs) (w : World) (hs : s.length = 128) (hc : 128 ≤ c) (hk : k < 65536) (hA : BsAt n₀ w A s) (hp : (sGen s ≠ 0 ∧ sGen s = sEnd s ∧ sSum s = gSum (sMid s)) ∧ ¬ (sNum s = k ∧ (s.getD 10 0).toNat ≤ 3 ∧ (s.getD 11 0).toNat ≤ 112)) :
    Calls Try.prog 118 #[.slice A 128 c, .int .i64 (k : Int)] w fun e w' => e = .returned (.bool (gGood s k)) ∧ Below w.heap.size w w' := by
  obtain ⟨b, o, rfl, lb, hcs⟩ := id hA (by omega)
  have z11 := hcs 11 (by omega)
  have z10 := hcs 10 (by omega)
  unfold u8v at z11 z10
  have HCS := Lib.hid hcs
  clear hcs
  have EF := Lib.hid (good_no hs hk (fun h => hp.2 ⟨h.2.2.2.1, h.2.2.2.2.1, h.2.2.2.2.2.1⟩))
  have l4 : ∀ x, x + 4 ≤ 128 → getL ((s.drop x).take 4) < 4294967296 := fun x h => getL_lt4 (by rw [List.length_take, List.length_drop]; omega)
  have hU : sSum s < 4294967296 := l4 4 (by decide)
  clear l4
  have hD : (s.getD 10 0).toNat < 256 := (s.getD 10 0).toNat_lt
  have hn : (s.getD 11 0).toNat < 256 := (s.getD 11 0).toNat_lt
  obtain ⟨G, qG⟩ : ∃ x, x = sGen s := ⟨_, rfl⟩
  obtain ⟨E, qE⟩ : ∃ x, x = sEnd s := ⟨_, rfl⟩
  obtain ⟨U, qU⟩ : ∃ x, x = sSum s := ⟨_, rfl⟩
  obtain ⟨M, qM⟩ : ∃ x, x = gSum (sMid s) := ⟨_, rfl⟩
  obtain ⟨K, qK⟩ : ∃ x, x = sNum s := ⟨_, rfl⟩
  obtain ⟨D, qD⟩ : ∃ x, x = (s.getD 10 0).toNat := ⟨_, rfl⟩
  obtain ⟨n, qn⟩ : ∃ x, x = (s.getD 11 0).toNat := ⟨_, rfl⟩
  try rw [← qG] at hp
  try rw [← qE] at hp
  try rw [← qU] at hp
  try rw [← qM] at hp
  try rw [← qK] at hp
  try rw [← qD] at hp
  try rw [← qn] at hp
  have HPT := Lib.hid hp
  clear hp
  rw [← qD] at z10 hD
  rw [← qn] at z11 hn
  rw [← qU] at hU
  have hG0 : ∀ W cp, Below w.heap.size w W → Calls Try.prog 107 #[.slice (some ⟨b, o, none⟩) 4 cp] W (fun e w' => e = .returned (.int .u64 (G : Nat)) ∧ w' = W) := fun W cp h => by rw [qG]; exact num_at hA 0 4 cp (by omega) (by decide) W h
  have hE0 : ∀ W cp, Below w.heap.size w W → Calls Try.prog 107 #[.slice (some ⟨b, o + 124, none⟩) 4 cp] W (fun e w' => e = .returned (.int .u64 (E : Nat)) ∧ w' = W) := fun W cp h => by rw [qE]; have h9 := num_at hA 124 4 cp (by omega) (by decide) W h; rw [List.take_of_length_le (by rw [List.length_drop]; omega)] at h9; exact h9
  have hU0 : ∀ W cp, Below w.heap.size w W → Calls Try.prog 107 #[.slice (some ⟨b, o + 4, none⟩) 4 cp] W (fun e w' => e = .returned (.int .u64 (U : Nat)) ∧ w' = W) := fun W cp h => by rw [qU]; exact num_at hA 4 4 cp (by omega) (by decide) W h
  have hK0 : ∀ W cp, Below w.heap.size w W → Calls Try.prog 107 #[.slice (some ⟨b, o + 8, none⟩) 2 cp] W (fun e w' => e = .returned (.int .u64 (K : Nat)) ∧ w' = W) := fun W cp h => by rw [qK]; exact num_at hA 8 2 cp (by omega) (by decide) W h
  have hM0 : ∀ W cp, Below w.heap.size w W → Calls Try.prog 111 #[.slice (some ⟨b, o + 8, none⟩) 116 cp] W (fun e w' => e = .returned (.int .u32 (M : Nat)) ∧ w' = W) := fun W cp h => by rw [qM]; exact sum_at hA hs cp W h
  have hSS : ∀ W, Below w.heap.size w W → W.cell? ⟨b, o + 10, none⟩ = some (.int .u8 (D : Nat)) ∧ Below w.heap.size w W := fun W h => ⟨(h.cell (p := ⟨b, o + 10, none⟩) lb.lt).trans z10, h⟩
  have HSS := Lib.hid hSS
  clear hSS
  have HG0 := Lib.hid hG0
  have HE0 := Lib.hid hE0
  have HU0 := Lib.hid hU0
  have HK0 := Lib.hid hK0
  have HM0 := Lib.hid hM0
  have QG := Lib.hid qG
  have QE := Lib.hid qE
  have QU := Lib.hid qU
  have QM := Lib.hid qM
  have QK := Lib.hid qK
  have QD := Lib.hid qD
  have Qn := Lib.hid qn
  clear hG0 hE0 hU0 hK0 hM0 qG qE qU qM qK qD qn
  have iU : IntKind.u32.wrap (U : Int) = U := by simp [IntKind.wrap, IntKind.bits, IntKind.signed]; omega
  have iK : IntKind.u64.wrap (k : Int) = k := by simp [IntKind.wrap, IntKind.bits, IntKind.signed]; omega
  have hS := Lib.hid hs
  have HA := Lib.hid hA
  have e4 : ¬ c = 4 := by omega
  have e8 : ¬ c = 8 := by omega
  have e124 : ¬ c = 124 := by omega
  have e4b : (4 : Int) ≤ (c : Int) := by omega
  have e8b : (8 : Int) ≤ (c : Int) := by omega
  have e10b : (10 : Int) ≤ (c : Int) := by omega
  have e124b : (124 : Int) ≤ (c : Int) := by omega
  have e128b : (128 : Int) ≤ (c : Int) := by omega
  clear hs hA
  go_enter Try.func118, Try.ntmps118
  go_upto_region 2 with (fail)
  go_cut [72] (fun v72 wx => v72 = .bool true ∧ Below w.heap.size w wx)
  case first =>
    refine wp_region_held_drew (S := fun W => W.cell? ⟨b, o + 10, none⟩ = some (.int .u8 (D : Nat)) ∧ Below w.heap.size w W) (by kernel_rfl) (HSS.out _ (Below.refl _ _).drew) (fun hHeld => ?_)
    refine tkA 0 oJgd0 ?_
    refine tkA 1 oJgd1 ?_
    refine wpAnyH_ready (rs := [2]) (by kernel_rfl) (by simp) ?_
    refine AllReadyH.cons (o := oJgd2) rfl (fun K hK => ?_) AllReadyH.nil
    go_simp
    go_at_call 107; refine (HG0.out _ _ hHeld.2).mono ?_; rintro e9 w9 ⟨rfl, rfl⟩
    refine hK.out _ _ ?_ (fun hHeld => ?_)
    · exact hHeld
    clear hK K
    try simp only [Act.put, List.setIfInBounds_toArray, List.set_cons_zero, List.set_cons_succ]
    have e1 : ¬ G = 0 := by have := HPT.out; omega
    have d1a : ((G : Int) == 0) = false := by simp; omega
    have d1b : (G == 0) = false := by simp; omega
    refine tkA 3 oJgd3 ?_
    refine tkA 4 oJgd4 ?_
    refine tkA 5 oJgd5 ?_
    refine tkA 6 oJgd6 ?_
    refine tkA 8 oJgd8 ?_
    refine tkA 9 oJgd9 ?_
    refine wpAnyH_ready (rs := [7]) (by kernel_rfl) (by simp) ?_
    refine AllReadyH.cons (o := oJgd7) rfl (fun K hK => ?_) AllReadyH.nil
    go_simp
    go_at_call 107; refine (HG0.out _ _ hHeld.2).mono ?_; rintro e9 w9 ⟨rfl, rfl⟩
    refine hK.out _ _ ?_ (fun hHeld => ?_)
    · exact hHeld
    clear hK K
    try simp only [Act.put, List.setIfInBounds_toArray, List.set_cons_zero, List.set_cons_succ]
    refine wpAnyH_ready (rs := [10]) (by kernel_rfl) (by simp) ?_
    refine AllReadyH.cons (o := oJgd10) rfl (fun K hK => ?_) AllReadyH.nil
    go_simp
    go_at_call 107; refine (HE0.out _ _ hHeld.2).mono ?_; rintro e9 w9 ⟨rfl, rfl⟩
    refine hK.out _ _ ?_ (fun hHeld => ?_)
    · exact hHeld
    clear hK K
    try simp only [Act.put, List.setIfInBounds_toArray, List.set_cons_zero, List.set_cons_succ]
    have e2 : G = E := by have := HPT.out; omega
    have d2a : ((G : Int) != (E : Int)) = false := by simp; omega
    have d2b : (G != E) = false := by simp; omega
    refine tkA 11 oJgd11 ?_
    refine tkA 12 oJgd12 ?_
    refine tkA 13 oJgd13 ?_
    refine tkA 14 oJgd14 ?_
    refine tkA 15 oJgd15 ?_
    refine tkA 18 oJgd18 ?_
    refine tkA 19 oJgd19 ?_
    refine wpAnyH_ready (rs := [16]) (by kernel_rfl) (by simp) ?_
    refine AllReadyH.cons (o := oJgd16) rfl (fun K hK => ?_) AllReadyH.nil
    go_simp
    go_at_call 107; refine (HU0.out _ _ hHeld.2).mono ?_; rintro e9 w9 ⟨rfl, rfl⟩
    refine hK.out _ _ ?_ (fun hHeld => ?_)
    · exact hHeld
    clear hK K
    try simp only [Act.put, List.setIfInBounds_toArray, List.set_cons_zero, List.set_cons_succ]
    refine tkA 17 oJgd17 ?_
    refine wpAnyH_ready (rs := [20]) (by kernel_rfl) (by simp) ?_
    refine AllReadyH.cons (o := oJgd20) rfl (fun K hK => ?_) AllReadyH.nil
    go_simp
    go_at_call 111; refine (HM0.out _ _ hHeld.2).mono ?_; rintro e9 w9 ⟨rfl, rfl⟩
    refine hK.out _ _ ?_ (fun hHeld => ?_)
    · exact hHeld
    clear hK K
    try simp only [Act.put, List.setIfInBounds_toArray, List.set_cons_zero, List.set_cons_succ]
    have e3 : U = M := by have := HPT.out; omega
    have d3a : ((U : Int) != (M : Int)) = false := by simp; omega
    have d3b : (U != M) = false := by simp; omega
    refine tkA 21 oJgd21 ?_
    refine tkA 22 oJgd22 ?_
    refine tkA 23 oJgd23 ?_
    refine tkA 24 oJgd24 ?_
    refine tkA 25 oJgd25 ?_
    refine tkA 27 oJgd27 ?_
    refine tkA 28 oJgd28 ?_
    refine wpAnyH_ready (rs := [26]) (by kernel_rfl) (by simp) ?_
    refine AllReadyH.cons (o := oJgd26) rfl (fun K hK => ?_) AllReadyH.nil
    go_simp
    go_at_call 107; refine (HK0.out _ _ hHeld.2).mono ?_; rintro e9 w9 ⟨rfl, rfl⟩
    refine hK.out _ _ ?_ (fun hHeld => ?_)
    · exact hHeld
    clear hK K
    try simp only [Act.put, List.setIfInBounds_toArray, List.set_cons_zero, List.set_cons_succ]
    by_cases e4k : K = k
    case neg =>
      have d4a : ((K : Int) != (k : Int)) = true := by simp; omega
      have d4b : (K != k) = true := by simp; omega
      refine tkA 29 oJgd29 ?_
      refine tkA 30 oJgd30 ?_
      refine tkA 31 oJgd31 ?_
      refine tkB 32 oJgd32 ?_
      refine tkB 33 oJgd33 ?_
      refine tkB 34 oJgd34 ?_
      refine tkB 35 oJgd35 ?_
      refine tkA 36 oJgd36 ?_
      refine tkA 37 oJgd37 ?_
      refine tkB 38 oJgd38 ?_
      refine tkB 39 oJgd39 ?_
      refine tkA 40 oJgd40 ?_
      refine tkA 41 oJgd41 ?_
      refine tkB 42 oJgd42 ?_
      refine tkB 43 oJgd43 ?_
      refine tkB 44 oJgd44 ?_
      refine tkB 45 oJgd45 ?_
      refine tkB 46 oJgd46 ?_
      refine tkB 47 oJgd47 ?_
      refine tkB 48 oJgd48 ?_
      refine tkB 49 oJgd49 ?_
      refine tkA 50 oJgd50 ?_
      refine tkA 51 oJgd51 ?_
      refine tkB 52 oJgd52 ?_
      refine tkB 53 oJgd53 ?_
      refine tkB 54 oJgd54 ?_
      refine tkB 55 oJgd55 ?_
      refine tkB 56 oJgd56 ?_
      refine tkB 57 oJgd57 ?_
      refine tkB 58 oJgd58 ?_
      refine tkB 59 oJgd59 ?_
      refine tkB 60 oJgd60 ?_
      refine tkA 61 oJgd61 ?_
      refine wpAnyH_done (by kernel_rfl) ?_ _
      (try go_wp2_with (fail))
      go_meet
      exact ⟨rfl, hHeld.2⟩
    have d4a : ((K : Int) != (k : Int)) = false := by simp; omega
    have d4b : (K != k) = false := by simp; omega
    refine tkA 29 oJgd29 ?_
    refine tkA 30 oJgd30 ?_
    refine tkA 31 oJgd31 ?_
    refine tkA 32 oJgd32 ?_
    refine tkA 33 oJgd33 ?_
    refine tkA 34 oJgd34 ?_
    by_cases e5 : 3 < D
    case pos =>
      have d5a : decide ((3 : Int) < (D : Int)) = true := by simp; omega
      have d5b : decide (3 < D) = true := by simp; omega
      refine tkA 35 oJgd35 ?_
      refine tkA 36 oJgd36 ?_
      refine tkA 37 oJgd37 ?_
      refine tkB 38 oJgd38 ?_
      refine tkB 39 oJgd39 ?_
      refine tkA 40 oJgd40 ?_
      refine tkA 41 oJgd41 ?_
      refine tkB 42 oJgd42 ?_
      refine tkB 43 oJgd43 ?_
      refine tkB 44 oJgd44 ?_
      refine tkB 45 oJgd45 ?_
      refine tkB 46 oJgd46 ?_
      refine tkB 47 oJgd47 ?_
      refine tkB 48 oJgd48 ?_
      refine tkB 49 oJgd49 ?_
      refine tkA 50 oJgd50 ?_
      refine tkA 51 oJgd51 ?_
      refine tkB 52 oJgd52 ?_
      refine tkB 53 oJgd53 ?_
      refine tkB 54 oJgd54 ?_
      refine tkB 55 oJgd55 ?_
      refine tkB 56 oJgd56 ?_
      refine tkB 57 oJgd57 ?_
      refine tkB 58 oJgd58 ?_
      refine tkB 59 oJgd59 ?_
      refine tkB 60 oJgd60 ?_
      refine tkA 61 oJgd61 ?_
      refine wpAnyH_done (by kernel_rfl) ?_ _
      (try go_wp2_with (fail))
      go_meet
      exact ⟨rfl, hHeld.2⟩
    have d5a : decide ((3 : Int) < (D : Int)) = false := by simp; omega
    have d5b : decide (3 < D) = false := by simp; omega
    refine tkA 35 oJgd35 ?_
    refine tkA 36 oJgd36 ?_
    refine tkA 37 oJgd37 ?_
    refine tkA 38 oJgd38 ?_
    by_cases e6 : 112 < n
    case pos =>
      have d6a : decide ((112 : Int) < (n : Int)) = true := by simp; omega
      have d6b : decide (112 < n) = true := by simp; omega
      refine tkA 39 oJgd39 ?_
      refine tkA 40 oJgd40 ?_
      refine tkA 41 oJgd41 ?_
      refine tkB 42 oJgd42 ?_
      refine tkB 43 oJgd43 ?_
      refine tkB 44 oJgd44 ?_
      refine tkB 45 oJgd45 ?_
      refine tkB 46 oJgd46 ?_
      refine tkB 47 oJgd47 ?_
      refine tkB 48 oJgd48 ?_
      refine tkB 49 oJgd49 ?_
      refine tkA 50 oJgd50 ?_
      refine tkA 51 oJgd51 ?_
      refine tkB 52 oJgd52 ?_
      refine tkB 53 oJgd53 ?_
      refine tkB 54 oJgd54 ?_
      refine tkB 55 oJgd55 ?_
      refine tkB 56 oJgd56 ?_
      refine tkB 57 oJgd57 ?_
      refine tkB 58 oJgd58 ?_
      refine tkB 59 oJgd59 ?_
      refine tkB 60 oJgd60 ?_
      refine tkA 61 oJgd61 ?_
      refine wpAnyH_done (by kernel_rfl) ?_ _
      (try go_wp2_with (fail))
      go_meet
      exact ⟨rfl, hHeld.2⟩
    exfalso
    have := HPT.out
    omega
  case rest =>
    obtain ⟨rfl, hb⟩ := hcut
    go_wp2
    go_ret
    exact ⟨by rw [EF.out]; rfl, hb⟩
set_option maxRecDepth 20000 in
set_option maxHeartbeats 8000000 in
theorem rgood_c (A : Option Addr) (c k : Nat) (s : Bs) (w : World) (hs : s.length = 128) (hc : 128 ≤ c) (hk : k < 65536) (hA : BsAt n₀ w A s) (hp : (sGen s ≠ 0 ∧ sGen s = sEnd s ∧ sSum s = gSum (sMid s) ∧ sNum s = k ∧ (s.getD 10 0).toNat ≤ 3 ∧ (s.getD 11 0).toNat ≤ 112) ∧ (s.getD 10 0).toNat < 2) :
    Calls Try.prog 118 #[.slice A 128 c, .int .i64 (k : Int)] w fun e w' => e = .returned (.bool (gGood s k)) ∧ Below w.heap.size w w' := by
  obtain ⟨b, o, rfl, lb, hcs⟩ := id hA (by omega)
  have z11 := hcs 11 (by omega)
  have z10 := hcs 10 (by omega)
  unfold u8v at z11 z10
  have HCS := Lib.hid hcs
  clear hcs
  have l4 : ∀ x, x + 4 ≤ 128 → getL ((s.drop x).take 4) < 4294967296 := fun x h => getL_lt4 (by rw [List.length_take, List.length_drop]; omega)
  have hU : sSum s < 4294967296 := l4 4 (by decide)
  clear l4
  have hD : (s.getD 10 0).toNat < 256 := (s.getD 10 0).toNat_lt
  have hn : (s.getD 11 0).toNat < 256 := (s.getD 11 0).toNat_lt
  obtain ⟨G, qG⟩ : ∃ x, x = sGen s := ⟨_, rfl⟩
  obtain ⟨E, qE⟩ : ∃ x, x = sEnd s := ⟨_, rfl⟩
  obtain ⟨U, qU⟩ : ∃ x, x = sSum s := ⟨_, rfl⟩
  obtain ⟨M, qM⟩ : ∃ x, x = gSum (sMid s) := ⟨_, rfl⟩
  obtain ⟨K, qK⟩ : ∃ x, x = sNum s := ⟨_, rfl⟩
  obtain ⟨D, qD⟩ : ∃ x, x = (s.getD 10 0).toNat := ⟨_, rfl⟩
  obtain ⟨n, qn⟩ : ∃ x, x = (s.getD 11 0).toNat := ⟨_, rfl⟩
  try rw [← qG] at hp
  try rw [← qE] at hp
  try rw [← qU] at hp
  try rw [← qM] at hp
  try rw [← qK] at hp
  try rw [← qD] at hp
  try rw [← qn] at hp
  have HPT := Lib.hid hp
  clear hp
  rw [← qD] at z10 hD
  rw [← qn] at z11 hn
  rw [← qU] at hU
  have hG0 : ∀ W cp, Below w.heap.size w W → Calls Try.prog 107 #[.slice (some ⟨b, o, none⟩) 4 cp] W (fun e w' => e = .returned (.int .u64 (G : Nat)) ∧ w' = W) := fun W cp h => by rw [qG]; exact num_at hA 0 4 cp (by omega) (by decide) W h
  have hE0 : ∀ W cp, Below w.heap.size w W → Calls Try.prog 107 #[.slice (some ⟨b, o + 124, none⟩) 4 cp] W (fun e w' => e = .returned (.int .u64 (E : Nat)) ∧ w' = W) := fun W cp h => by rw [qE]; have h9 := num_at hA 124 4 cp (by omega) (by decide) W h; rw [List.take_of_length_le (by rw [List.length_drop]; omega)] at h9; exact h9
  have hU0 : ∀ W cp, Below w.heap.size w W → Calls Try.prog 107 #[.slice (some ⟨b, o + 4, none⟩) 4 cp] W (fun e w' => e = .returned (.int .u64 (U : Nat)) ∧ w' = W) := fun W cp h => by rw [qU]; exact num_at hA 4 4 cp (by omega) (by decide) W h
  have hK0 : ∀ W cp, Below w.heap.size w W → Calls Try.prog 107 #[.slice (some ⟨b, o + 8, none⟩) 2 cp] W (fun e w' => e = .returned (.int .u64 (K : Nat)) ∧ w' = W) := fun W cp h => by rw [qK]; exact num_at hA 8 2 cp (by omega) (by decide) W h
  have hM0 : ∀ W cp, Below w.heap.size w W → Calls Try.prog 111 #[.slice (some ⟨b, o + 8, none⟩) 116 cp] W (fun e w' => e = .returned (.int .u32 (M : Nat)) ∧ w' = W) := fun W cp h => by rw [qM]; exact sum_at hA hs cp W h
  have hSS : ∀ W, Below w.heap.size w W → W.cell? ⟨b, o + 10, none⟩ = some (.int .u8 (D : Nat)) ∧ Below w.heap.size w W := fun W h => ⟨(h.cell (p := ⟨b, o + 10, none⟩) lb.lt).trans z10, h⟩
  have HSS := Lib.hid hSS
  clear hSS
  have HG0 := Lib.hid hG0
  have HE0 := Lib.hid hE0
  have HU0 := Lib.hid hU0
  have HK0 := Lib.hid hK0
  have HM0 := Lib.hid hM0
  have QG := Lib.hid qG
  have QE := Lib.hid qE
  have QU := Lib.hid qU
  have QM := Lib.hid qM
  have QK := Lib.hid qK
  have QD := Lib.hid qD
  have Qn := Lib.hid qn
  clear hG0 hE0 hU0 hK0 hM0 qG qE qU qM qK qD qn
  have iU : IntKind.u32.wrap (U : Int) = U := by simp [IntKind.wrap, IntKind.bits, IntKind.signed]; omega
  have iK : IntKind.u64.wrap (k : Int) = k := by simp [IntKind.wrap, IntKind.bits, IntKind.signed]; omega
  have hS := Lib.hid hs
  have HA := Lib.hid hA
  have e4 : ¬ c = 4 := by omega
  have e8 : ¬ c = 8 := by omega
  have e124 : ¬ c = 124 := by omega
  have e4b : (4 : Int) ≤ (c : Int) := by omega
  have e8b : (8 : Int) ≤ (c : Int) := by omega
  have e10b : (10 : Int) ≤ (c : Int) := by omega
  have e124b : (124 : Int) ≤ (c : Int) := by omega
  have e128b : (128 : Int) ≤ (c : Int) := by omega
  clear hs hA
  go_enter Try.func118, Try.ntmps118
  go_upto_region 2 with (fail)
  go_cut [72] (fun v72 wx => ∃ y, v72 = .bool y ∧ (y = true → gGood s k = false) ∧ (y = false → ¬ G = 0 ∧ G = E ∧ U = M ∧ K = k ∧ D ≤ 3 ∧ n ≤ 112 ∧ (2 ≤ D ∨ n = 112) ∧ (D % 2 = 1 ∨ 0 < n)) ∧ Below w.heap.size w wx)
  case first =>
    refine wp_region_held_drew (S := fun W => W.cell? ⟨b, o + 10, none⟩ = some (.int .u8 (D : Nat)) ∧ Below w.heap.size w W) (by kernel_rfl) (HSS.out _ (Below.refl _ _).drew) (fun hHeld => ?_)
    refine tkA 0 oJgd0 ?_
    refine tkA 1 oJgd1 ?_
    refine wpAnyH_ready (rs := [2]) (by kernel_rfl) (by simp) ?_
    refine AllReadyH.cons (o := oJgd2) rfl (fun K hK => ?_) AllReadyH.nil
    go_simp
    go_at_call 107; refine (HG0.out _ _ hHeld.2).mono ?_; rintro e9 w9 ⟨rfl, rfl⟩
    refine hK.out _ _ ?_ (fun hHeld => ?_)
    · exact hHeld
    clear hK K
    try simp only [Act.put, List.setIfInBounds_toArray, List.set_cons_zero, List.set_cons_succ]
    have e1 : ¬ G = 0 := by have := HPT.out; omega
    have d1a : ((G : Int) == 0) = false := by simp; omega
    have d1b : (G == 0) = false := by simp; omega
    refine tkA 3 oJgd3 ?_
    refine tkA 4 oJgd4 ?_
    refine tkA 5 oJgd5 ?_
    refine tkA 6 oJgd6 ?_
    refine tkA 8 oJgd8 ?_
    refine tkA 9 oJgd9 ?_
    refine wpAnyH_ready (rs := [7]) (by kernel_rfl) (by simp) ?_
    refine AllReadyH.cons (o := oJgd7) rfl (fun K hK => ?_) AllReadyH.nil
    go_simp
    go_at_call 107; refine (HG0.out _ _ hHeld.2).mono ?_; rintro e9 w9 ⟨rfl, rfl⟩
    refine hK.out _ _ ?_ (fun hHeld => ?_)
    · exact hHeld
    clear hK K
    try simp only [Act.put, List.setIfInBounds_toArray, List.set_cons_zero, List.set_cons_succ]
    refine wpAnyH_ready (rs := [10]) (by kernel_rfl) (by simp) ?_
    refine AllReadyH.cons (o := oJgd10) rfl (fun K hK => ?_) AllReadyH.nil
    go_simp
    go_at_call 107; refine (HE0.out _ _ hHeld.2).mono ?_; rintro e9 w9 ⟨rfl, rfl⟩
    refine hK.out _ _ ?_ (fun hHeld => ?_)
    · exact hHeld
    clear hK K
    try simp only [Act.put, List.setIfInBounds_toArray, List.set_cons_zero, List.set_cons_succ]
    have e2 : G = E := by have := HPT.out; omega
    have d2a : ((G : Int) != (E : Int)) = false := by simp; omega
    have d2b : (G != E) = false := by simp; omega
    refine tkA 11 oJgd11 ?_
    refine tkA 12 oJgd12 ?_
    refine tkA 13 oJgd13 ?_
    refine tkA 14 oJgd14 ?_
    refine tkA 15 oJgd15 ?_
    refine tkA 18 oJgd18 ?_
    refine tkA 19 oJgd19 ?_
    refine wpAnyH_ready (rs := [16]) (by kernel_rfl) (by simp) ?_
    refine AllReadyH.cons (o := oJgd16) rfl (fun K hK => ?_) AllReadyH.nil
    go_simp
    go_at_call 107; refine (HU0.out _ _ hHeld.2).mono ?_; rintro e9 w9 ⟨rfl, rfl⟩
    refine hK.out _ _ ?_ (fun hHeld => ?_)
    · exact hHeld
    clear hK K
    try simp only [Act.put, List.setIfInBounds_toArray, List.set_cons_zero, List.set_cons_succ]
    refine tkA 17 oJgd17 ?_
    refine wpAnyH_ready (rs := [20]) (by kernel_rfl) (by simp) ?_
    refine AllReadyH.cons (o := oJgd20) rfl (fun K hK => ?_) AllReadyH.nil
    go_simp
    go_at_call 111; refine (HM0.out _ _ hHeld.2).mono ?_; rintro e9 w9 ⟨rfl, rfl⟩
    refine hK.out _ _ ?_ (fun hHeld => ?_)
    · exact hHeld
    clear hK K
    try simp only [Act.put, List.setIfInBounds_toArray, List.set_cons_zero, List.set_cons_succ]
    have e3 : U = M := by have := HPT.out; omega
    have d3a : ((U : Int) != (M : Int)) = false := by simp; omega
    have d3b : (U != M) = false := by simp; omega
    refine tkA 21 oJgd21 ?_
    refine tkA 22 oJgd22 ?_
    refine tkA 23 oJgd23 ?_
    refine tkA 24 oJgd24 ?_
    refine tkA 25 oJgd25 ?_
    refine tkA 27 oJgd27 ?_
    refine tkA 28 oJgd28 ?_
    refine wpAnyH_ready (rs := [26]) (by kernel_rfl) (by simp) ?_
    refine AllReadyH.cons (o := oJgd26) rfl (fun K hK => ?_) AllReadyH.nil
    go_simp
    go_at_call 107; refine (HK0.out _ _ hHeld.2).mono ?_; rintro e9 w9 ⟨rfl, rfl⟩
    refine hK.out _ _ ?_ (fun hHeld => ?_)
    · exact hHeld
    clear hK K
    try simp only [Act.put, List.setIfInBounds_toArray, List.set_cons_zero, List.set_cons_succ]
    have e4k : K = k := by have := HPT.out; omega
    have d4a : ((K : Int) != (k : Int)) = false := by simp; omega
    have d4b : (K != k) = false := by simp; omega
    refine tkA 29 oJgd29 ?_
    refine tkA 30 oJgd30 ?_
    refine tkA 31 oJgd31 ?_
    refine tkA 32 oJgd32 ?_
    refine tkA 33 oJgd33 ?_
    refine tkA 34 oJgd34 ?_
    have e5 : ¬ 3 < D := by have := HPT.out; omega
    have d5a : decide ((3 : Int) < (D : Int)) = false := by simp; omega
    have d5b : decide (3 < D) = false := by simp; omega
    refine tkA 35 oJgd35 ?_
    refine tkA 36 oJgd36 ?_
    refine tkA 37 oJgd37 ?_
    refine tkA 38 oJgd38 ?_
    have e6 : ¬ 112 < n := by have := HPT.out; omega
    have d6a : decide ((112 : Int) < (n : Int)) = false := by simp; omega
    have d6b : decide (112 < n) = false := by simp; omega
    refine tkA 39 oJgd39 ?_
    refine tkA 40 oJgd40 ?_
    refine tkA 41 oJgd41 ?_
    refine tkA 42 oJgd42 ?_
    refine tkA 43 oJgd43 ?_
    refine tkA 44 oJgd44 ?_
    have f1 : D < 2 := HPT.out.2
    have d7a : decide ((D : Int) < 2) = true := by simp; omega
    have d7b : decide (D < 2) = true := by simp; omega
    by_cases f2 : n = 112
    case neg =>
      have d9a : ((n : Int) != 112) = true := by simp; omega
      have d9b : (n != 112) = true := by simp; omega
      refine tkA 45 oJgd45 ?_
      refine tkA 46 oJgd46 ?_
      refine tkA 47 oJgd47 ?_
      refine tkA 48 oJgd48 ?_
      refine tkA 49 oJgd49 ?_
      refine tkA 50 oJgd50 ?_
      refine tkA 51 oJgd51 ?_
      refine tkB 52 oJgd52 ?_
      refine tkB 53 oJgd53 ?_
      refine tkB 54 oJgd54 ?_
      refine tkB 55 oJgd55 ?_
      refine tkB 56 oJgd56 ?_
      refine tkB 57 oJgd57 ?_
      refine tkB 58 oJgd58 ?_
      refine tkB 59 oJgd59 ?_
      refine tkB 60 oJgd60 ?_
      refine tkA 61 oJgd61 ?_
      refine wpAnyH_done (by kernel_rfl) ?_ _
      (try go_wp2_with (fail))
      go_meet
      exact ⟨true, rfl, fun _ => good_no hS.out hk (fun h => by have := h.2.2.2.2.2.2.1; rw [show (sKind s).toNat = D from QD.out.symm, show sLen s = n from Qn.out.symm] at this; omega), fun h => (by cases h), hHeld.2⟩
    have d9a : ((n : Int) != 112) = false := by simp; omega
    have d9b : (n != 112) = false := by simp; omega
    refine tkA 45 oJgd45 ?_
    refine tkA 46 oJgd46 ?_
    refine tkA 47 oJgd47 ?_
    refine tkA 48 oJgd48 ?_
    refine tkA 49 oJgd49 ?_
    refine tkA 50 oJgd50 ?_
    refine tkA 51 oJgd51 ?_
    refine tkA 52 oJgd52 ?_
    refine tkA 53 oJgd53 ?_
    refine tkA 54 oJgd54 ?_
    refine tkA 55 oJgd55 ?_
    by_cases f3 : D % 2 = 0
    case pos =>
      have d8a : (((D : Int).tmod 2) == 0) = true := by rw [show (D : Int).tmod 2 = ((D % 2 : Nat) : Int) from rfl]; simp; omega
      have d8b : (((D : Int) % 2) == 0) = true := by simp; omega
      have d8c : ((D % 2) == 0) = true := by simp; omega
      by_cases f4 : n = 0
      case pos =>
        have d9c : ((n : Int) == 0) = true := by simp; omega
        have d9d : (n == 0) = true := by simp; omega
        omega
      have d9c : ((n : Int) == 0) = false := by simp; omega
      have d9d : (n == 0) = false := by simp; omega
      refine tkA 56 oJgd56 ?_
      refine tkA 57 oJgd57 ?_
      refine tkA 58 oJgd58 ?_
      refine tkA 59 oJgd59 ?_
      refine tkA 60 oJgd60 ?_
      refine tkA 61 oJgd61 ?_
      refine wpAnyH_done (by kernel_rfl) ?_ _
      (try go_wp2_with (fail))
      go_meet
      exact ⟨false, rfl, fun h => (by cases h), fun _ => ⟨e1, e2, e3, e4k, by omega, by omega, by omega, by omega⟩, hHeld.2⟩
    have d8a : (((D : Int).tmod 2) == 0) = false := by rw [show (D : Int).tmod 2 = ((D % 2 : Nat) : Int) from rfl]; simp; omega
    have d8b : (((D : Int) % 2) == 0) = false := by simp; omega
    have d8c : ((D % 2) == 0) = false := by simp; omega
    refine tkA 56 oJgd56 ?_
    refine tkA 57 oJgd57 ?_
    refine tkB 58 oJgd58 ?_
    refine tkB 59 oJgd59 ?_
    refine tkA 60 oJgd60 ?_
    refine tkA 61 oJgd61 ?_
    refine wpAnyH_done (by kernel_rfl) ?_ _
    (try go_wp2_with (fail))
    go_meet
    exact ⟨false, rfl, fun h => (by cases h), fun _ => ⟨e1, e2, e3, e4k, by omega, by omega, by omega, by omega⟩, hHeld.2⟩
  case rest =>
    obtain ⟨y, rfl, hy1, hy2, hb⟩ := hcut
    cases y
    case true =>
      have EF := Lib.hid (hy1 rfl)
      clear hy1 hy2
      go_wp2
      go_ret
      exact ⟨by rw [EF.out]; rfl, hb⟩
    have HP := Lib.hid (hy2 rfl)
    have hn112 : n ≤ 112 := (hy2 rfl).2.2.2.2.2.1
    clear hy1 hy2
    go_wp2_with (fail)
    go_loopw [6] (fun v6 wr => ∃ i : Nat, 12 + n ≤ i ∧ i ≤ 124 ∧ v6 = .int .i64 i ∧ (∀ j, 12 + n ≤ j → j < i → s.getD j 0 = 0) ∧ wr = wc) (fun v6 _ => 124 - (intOf v6).toNat)
    case atStart => exact ⟨12 + n, by omega, by omega, by go_num, fun j h1 h2 => by omega, rfl⟩
    case round =>
      obtain ⟨i, hi1, hi2, rfl, hz, hwr⟩ := hrel
      have hwr := hwr.symm
      subst hwr
      have HZ := Lib.hid hz
      clear hz
      by_cases hlt : i < 124
      case neg =>
        go_wp2_with (fail)
        go_ret
        have eg : gGood s k = true := (good_ref hS.out hk).2 (by
          obtain ⟨p1, p2, p3, p4, p5, p6, p7, p8⟩ := HP.out
          refine ⟨by rw [← QG.out]; exact p1, by rw [← QG.out, ← QE.out]; exact p2, by rw [← QU.out, ← QM.out]; exact p3, by rw [← QK.out]; exact p4, ?_, ?_, ?_, ?_, ?_⟩
          · rw [show (sKind s).toNat = D from QD.out.symm]; exact p5
          · rw [show sLen s = n from Qn.out.symm]; exact p6
          · rw [show (sKind s).toNat = D from QD.out.symm, show sLen s = n from Qn.out.symm]; exact p7
          · rw [show (sKind s).toNat = D from QD.out.symm, show sLen s = n from Qn.out.symm]; exact p8
          · intro j h1 h2
            rw [show sLen s = n from Qn.out.symm] at h1
            exact HZ.out j h1 (by omega))
        exact ⟨by rw [eg]; rfl, hb⟩
      have z0 := (hb.cell (p := ⟨b, o + i, none⟩) lb.lt).trans (HCS.out i (by have := hS.out; omega))
      unfold u8v at z0
      obtain ⟨x, hx⟩ : ∃ x, x = s.getD i 0 := ⟨_, rfl⟩
      rw [← hx] at z0
      have HX := Lib.hid hx
      clear hx
      by_cases hx0 : x = 0
      case neg =>
        have d1 : ((x.toNat : Int) != 0) = true := bne_iff_ne.2 (fun h => hx0 (UInt8.toNat_inj.1 (by rw [show x.toNat = 0 by omega]; rfl)))
        have hx1 := Lib.hid hx0
        clear hx0
        go_wp2_with (fail)
        go_ret
        exact ⟨by rw [good_no hS.out hk (fun h => hx1.out (by rw [HX.out]; exact h.2.2.2.2.2.2.2.2 i (by rw [show sLen s = n from Qn.out.symm]; omega) hlt))]; rfl, hb⟩
      have d1 : ((x.toNat : Int) != 0) = false := by rw [hx0]; rfl
      have HX0 := Lib.hid hx0
      clear hx0
      go_wp2_with (fail)
      go_roundw
      case rel =>
        refine ⟨i + 1, by omega, by omega, by go_num, fun j h1 h2 => ?_, by trivial⟩
        by_cases hj : j < i
        · exact HZ.out j h1 hj
        · obtain rfl : j = i := by omega
          rw [← HX.out]; exact HX0.out
      case measure => simp [intOf]; omega
set_option maxRecDepth 20000 in
set_option maxHeartbeats 8000000 in
theorem rgood_d (A : Option Addr) (c k : Nat) (s : Bs) (w : World) (hs : s.length = 128) (hc : 128 ≤ c) (hk : k < 65536) (hA : BsAt n₀ w A s) (hp : (sGen s ≠ 0 ∧ sGen s = sEnd s ∧ sSum s = gSum (sMid s) ∧ sNum s = k ∧ (s.getD 10 0).toNat ≤ 3 ∧ (s.getD 11 0).toNat ≤ 112) ∧ ¬ (s.getD 10 0).toNat < 2) :
    Calls Try.prog 118 #[.slice A 128 c, .int .i64 (k : Int)] w fun e w' => e = .returned (.bool (gGood s k)) ∧ Below w.heap.size w w' := by
  obtain ⟨b, o, rfl, lb, hcs⟩ := id hA (by omega)
  have z11 := hcs 11 (by omega)
  have z10 := hcs 10 (by omega)
  unfold u8v at z11 z10
  have HCS := Lib.hid hcs
  clear hcs
  have l4 : ∀ x, x + 4 ≤ 128 → getL ((s.drop x).take 4) < 4294967296 := fun x h => getL_lt4 (by rw [List.length_take, List.length_drop]; omega)
  have hU : sSum s < 4294967296 := l4 4 (by decide)
  clear l4
  have hD : (s.getD 10 0).toNat < 256 := (s.getD 10 0).toNat_lt
  have hn : (s.getD 11 0).toNat < 256 := (s.getD 11 0).toNat_lt
  obtain ⟨G, qG⟩ : ∃ x, x = sGen s := ⟨_, rfl⟩
  obtain ⟨E, qE⟩ : ∃ x, x = sEnd s := ⟨_, rfl⟩
  obtain ⟨U, qU⟩ : ∃ x, x = sSum s := ⟨_, rfl⟩
  obtain ⟨M, qM⟩ : ∃ x, x = gSum (sMid s) := ⟨_, rfl⟩
  obtain ⟨K, qK⟩ : ∃ x, x = sNum s := ⟨_, rfl⟩
  obtain ⟨D, qD⟩ : ∃ x, x = (s.getD 10 0).toNat := ⟨_, rfl⟩
  obtain ⟨n, qn⟩ : ∃ x, x = (s.getD 11 0).toNat := ⟨_, rfl⟩
  try rw [← qG] at hp
  try rw [← qE] at hp
  try rw [← qU] at hp
  try rw [← qM] at hp
  try rw [← qK] at hp
  try rw [← qD] at hp
  try rw [← qn] at hp
  have HPT := Lib.hid hp
  clear hp
  rw [← qD] at z10 hD
  rw [← qn] at z11 hn
  rw [← qU] at hU
  have hG0 : ∀ W cp, Below w.heap.size w W → Calls Try.prog 107 #[.slice (some ⟨b, o, none⟩) 4 cp] W (fun e w' => e = .returned (.int .u64 (G : Nat)) ∧ w' = W) := fun W cp h => by rw [qG]; exact num_at hA 0 4 cp (by omega) (by decide) W h
  have hE0 : ∀ W cp, Below w.heap.size w W → Calls Try.prog 107 #[.slice (some ⟨b, o + 124, none⟩) 4 cp] W (fun e w' => e = .returned (.int .u64 (E : Nat)) ∧ w' = W) := fun W cp h => by rw [qE]; have h9 := num_at hA 124 4 cp (by omega) (by decide) W h; rw [List.take_of_length_le (by rw [List.length_drop]; omega)] at h9; exact h9
  have hU0 : ∀ W cp, Below w.heap.size w W → Calls Try.prog 107 #[.slice (some ⟨b, o + 4, none⟩) 4 cp] W (fun e w' => e = .returned (.int .u64 (U : Nat)) ∧ w' = W) := fun W cp h => by rw [qU]; exact num_at hA 4 4 cp (by omega) (by decide) W h
  have hK0 : ∀ W cp, Below w.heap.size w W → Calls Try.prog 107 #[.slice (some ⟨b, o + 8, none⟩) 2 cp] W (fun e w' => e = .returned (.int .u64 (K : Nat)) ∧ w' = W) := fun W cp h => by rw [qK]; exact num_at hA 8 2 cp (by omega) (by decide) W h
  have hM0 : ∀ W cp, Below w.heap.size w W → Calls Try.prog 111 #[.slice (some ⟨b, o + 8, none⟩) 116 cp] W (fun e w' => e = .returned (.int .u32 (M : Nat)) ∧ w' = W) := fun W cp h => by rw [qM]; exact sum_at hA hs cp W h
  have hSS : ∀ W, Below w.heap.size w W → W.cell? ⟨b, o + 10, none⟩ = some (.int .u8 (D : Nat)) ∧ Below w.heap.size w W := fun W h => ⟨(h.cell (p := ⟨b, o + 10, none⟩) lb.lt).trans z10, h⟩
  have HSS := Lib.hid hSS
  clear hSS
  have HG0 := Lib.hid hG0
  have HE0 := Lib.hid hE0
  have HU0 := Lib.hid hU0
  have HK0 := Lib.hid hK0
  have HM0 := Lib.hid hM0
  have QG := Lib.hid qG
  have QE := Lib.hid qE
  have QU := Lib.hid qU
  have QM := Lib.hid qM
  have QK := Lib.hid qK
  have QD := Lib.hid qD
  have Qn := Lib.hid qn
  clear hG0 hE0 hU0 hK0 hM0 qG qE qU qM qK qD qn
  have iU : IntKind.u32.wrap (U : Int) = U := by simp [IntKind.wrap, IntKind.bits, IntKind.signed]; omega
  have iK : IntKind.u64.wrap (k : Int) = k := by simp [IntKind.wrap, IntKind.bits, IntKind.signed]; omega
  have hS := Lib.hid hs
  have HA := Lib.hid hA
  have e4 : ¬ c = 4 := by omega
  have e8 : ¬ c = 8 := by omega
  have e124 : ¬ c = 124 := by omega
  have e4b : (4 : Int) ≤ (c : Int) := by omega
  have e8b : (8 : Int) ≤ (c : Int) := by omega
  have e10b : (10 : Int) ≤ (c : Int) := by omega
  have e124b : (124 : Int) ≤ (c : Int) := by omega
  have e128b : (128 : Int) ≤ (c : Int) := by omega
  clear hs hA
  go_enter Try.func118, Try.ntmps118
  go_upto_region 2 with (fail)
  go_cut [72] (fun v72 wx => ∃ y, v72 = .bool y ∧ (y = true → gGood s k = false) ∧ (y = false → ¬ G = 0 ∧ G = E ∧ U = M ∧ K = k ∧ D ≤ 3 ∧ n ≤ 112 ∧ (2 ≤ D ∨ n = 112) ∧ (D % 2 = 1 ∨ 0 < n)) ∧ Below w.heap.size w wx)
  case first =>
    refine wp_region_held_drew (S := fun W => W.cell? ⟨b, o + 10, none⟩ = some (.int .u8 (D : Nat)) ∧ Below w.heap.size w W) (by kernel_rfl) (HSS.out _ (Below.refl _ _).drew) (fun hHeld => ?_)
    refine tkA 0 oJgd0 ?_
    refine tkA 1 oJgd1 ?_
    refine wpAnyH_ready (rs := [2]) (by kernel_rfl) (by simp) ?_
    refine AllReadyH.cons (o := oJgd2) rfl (fun K hK => ?_) AllReadyH.nil
    go_simp
    go_at_call 107; refine (HG0.out _ _ hHeld.2).mono ?_; rintro e9 w9 ⟨rfl, rfl⟩
    refine hK.out _ _ ?_ (fun hHeld => ?_)
    · exact hHeld
    clear hK K
    try simp only [Act.put, List.setIfInBounds_toArray, List.set_cons_zero, List.set_cons_succ]
    have e1 : ¬ G = 0 := by have := HPT.out; omega
    have d1a : ((G : Int) == 0) = false := by simp; omega
    have d1b : (G == 0) = false := by simp; omega
    refine tkA 3 oJgd3 ?_
    refine tkA 4 oJgd4 ?_
    refine tkA 5 oJgd5 ?_
    refine tkA 6 oJgd6 ?_
    refine tkA 8 oJgd8 ?_
    refine tkA 9 oJgd9 ?_
    refine wpAnyH_ready (rs := [7]) (by kernel_rfl) (by simp) ?_
    refine AllReadyH.cons (o := oJgd7) rfl (fun K hK => ?_) AllReadyH.nil
    go_simp
    go_at_call 107; refine (HG0.out _ _ hHeld.2).mono ?_; rintro e9 w9 ⟨rfl, rfl⟩
    refine hK.out _ _ ?_ (fun hHeld => ?_)
    · exact hHeld
    clear hK K
    try simp only [Act.put, List.setIfInBounds_toArray, List.set_cons_zero, List.set_cons_succ]
    refine wpAnyH_ready (rs := [10]) (by kernel_rfl) (by simp) ?_
    refine AllReadyH.cons (o := oJgd10) rfl (fun K hK => ?_) AllReadyH.nil
    go_simp
    go_at_call 107; refine (HE0.out _ _ hHeld.2).mono ?_; rintro e9 w9 ⟨rfl, rfl⟩
    refine hK.out _ _ ?_ (fun hHeld => ?_)
    · exact hHeld
    clear hK K
    try simp only [Act.put, List.setIfInBounds_toArray, List.set_cons_zero, List.set_cons_succ]
    have e2 : G = E := by have := HPT.out; omega
    have d2a : ((G : Int) != (E : Int)) = false := by simp; omega
    have d2b : (G != E) = false := by simp; omega
    refine tkA 11 oJgd11 ?_
    refine tkA 12 oJgd12 ?_
    refine tkA 13 oJgd13 ?_
    refine tkA 14 oJgd14 ?_
    refine tkA 15 oJgd15 ?_
    refine tkA 18 oJgd18 ?_
    refine tkA 19 oJgd19 ?_
    refine wpAnyH_ready (rs := [16]) (by kernel_rfl) (by simp) ?_
    refine AllReadyH.cons (o := oJgd16) rfl (fun K hK => ?_) AllReadyH.nil
    go_simp
    go_at_call 107; refine (HU0.out _ _ hHeld.2).mono ?_; rintro e9 w9 ⟨rfl, rfl⟩
    refine hK.out _ _ ?_ (fun hHeld => ?_)
    · exact hHeld
    clear hK K
    try simp only [Act.put, List.setIfInBounds_toArray, List.set_cons_zero, List.set_cons_succ]
    refine tkA 17 oJgd17 ?_
    refine wpAnyH_ready (rs := [20]) (by kernel_rfl) (by simp) ?_
    refine AllReadyH.cons (o := oJgd20) rfl (fun K hK => ?_) AllReadyH.nil
    go_simp
    go_at_call 111; refine (HM0.out _ _ hHeld.2).mono ?_; rintro e9 w9 ⟨rfl, rfl⟩
    refine hK.out _ _ ?_ (fun hHeld => ?_)
    · exact hHeld
    clear hK K
    try simp only [Act.put, List.setIfInBounds_toArray, List.set_cons_zero, List.set_cons_succ]
    have e3 : U = M := by have := HPT.out; omega
    have d3a : ((U : Int) != (M : Int)) = false := by simp; omega
    have d3b : (U != M) = false := by simp; omega
    refine tkA 21 oJgd21 ?_
    refine tkA 22 oJgd22 ?_
    refine tkA 23 oJgd23 ?_
    refine tkA 24 oJgd24 ?_
    refine tkA 25 oJgd25 ?_
    refine tkA 27 oJgd27 ?_
    refine tkA 28 oJgd28 ?_
    refine wpAnyH_ready (rs := [26]) (by kernel_rfl) (by simp) ?_
    refine AllReadyH.cons (o := oJgd26) rfl (fun K hK => ?_) AllReadyH.nil
    go_simp
    go_at_call 107; refine (HK0.out _ _ hHeld.2).mono ?_; rintro e9 w9 ⟨rfl, rfl⟩
    refine hK.out _ _ ?_ (fun hHeld => ?_)
    · exact hHeld
    clear hK K
    try simp only [Act.put, List.setIfInBounds_toArray, List.set_cons_zero, List.set_cons_succ]
    have e4k : K = k := by have := HPT.out; omega
    have d4a : ((K : Int) != (k : Int)) = false := by simp; omega
    have d4b : (K != k) = false := by simp; omega
    refine tkA 29 oJgd29 ?_
    refine tkA 30 oJgd30 ?_
    refine tkA 31 oJgd31 ?_
    refine tkA 32 oJgd32 ?_
    refine tkA 33 oJgd33 ?_
    refine tkA 34 oJgd34 ?_
    have e5 : ¬ 3 < D := by have := HPT.out; omega
    have d5a : decide ((3 : Int) < (D : Int)) = false := by simp; omega
    have d5b : decide (3 < D) = false := by simp; omega
    refine tkA 35 oJgd35 ?_
    refine tkA 36 oJgd36 ?_
    refine tkA 37 oJgd37 ?_
    refine tkA 38 oJgd38 ?_
    have e6 : ¬ 112 < n := by have := HPT.out; omega
    have d6a : decide ((112 : Int) < (n : Int)) = false := by simp; omega
    have d6b : decide (112 < n) = false := by simp; omega
    refine tkA 39 oJgd39 ?_
    refine tkA 40 oJgd40 ?_
    refine tkA 41 oJgd41 ?_
    refine tkA 42 oJgd42 ?_
    refine tkA 43 oJgd43 ?_
    refine tkA 44 oJgd44 ?_
    have f1 : ¬ D < 2 := HPT.out.2
    have d7a : decide ((D : Int) < 2) = false := by simp; omega
    have d7b : decide (D < 2) = false := by simp; omega
    refine tkA 45 oJgd45 ?_
    refine tkA 46 oJgd46 ?_
    refine tkB 47 oJgd47 ?_
    refine tkB 48 oJgd48 ?_
    refine tkA 49 oJgd49 ?_
    refine tkA 50 oJgd50 ?_
    refine tkA 51 oJgd51 ?_
    refine tkA 52 oJgd52 ?_
    refine tkA 53 oJgd53 ?_
    refine tkA 54 oJgd54 ?_
    refine tkA 55 oJgd55 ?_
    by_cases f3 : D % 2 = 0
    case pos =>
      have d8a : (((D : Int).tmod 2) == 0) = true := by rw [show (D : Int).tmod 2 = ((D % 2 : Nat) : Int) from rfl]; simp; omega
      have d8b : (((D : Int) % 2) == 0) = true := by simp; omega
      have d8c : ((D % 2) == 0) = true := by simp; omega
      by_cases f4 : n = 0
      case pos =>
        have d9c : ((n : Int) == 0) = true := by simp; omega
        have d9d : (n == 0) = true := by simp; omega
        refine tkA 56 oJgd56 ?_
        refine tkA 57 oJgd57 ?_
        refine tkA 58 oJgd58 ?_
        refine tkA 59 oJgd59 ?_
        refine tkA 60 oJgd60 ?_
        refine tkA 61 oJgd61 ?_
        refine wpAnyH_done (by kernel_rfl) ?_ _
        (try go_wp2_with (fail))
        go_meet
        exact ⟨true, rfl, fun _ => good_no hS.out hk (fun h => by have := h.2.2.2.2.2.2.2.1; rw [show (sKind s).toNat = D from QD.out.symm, show sLen s = n from Qn.out.symm] at this; omega), fun h => (by cases h), hHeld.2⟩
      have d9c : ((n : Int) == 0) = false := by simp; omega
      have d9d : (n == 0) = false := by simp; omega
      refine tkA 56 oJgd56 ?_
      refine tkA 57 oJgd57 ?_
      refine tkA 58 oJgd58 ?_
      refine tkA 59 oJgd59 ?_
      refine tkA 60 oJgd60 ?_
      refine tkA 61 oJgd61 ?_
      refine wpAnyH_done (by kernel_rfl) ?_ _
      (try go_wp2_with (fail))
      go_meet
      exact ⟨false, rfl, fun h => (by cases h), fun _ => ⟨e1, e2, e3, e4k, by omega, by omega, by omega, by omega⟩, hHeld.2⟩
    have d8a : (((D : Int).tmod 2) == 0) = false := by rw [show (D : Int).tmod 2 = ((D % 2 : Nat) : Int) from rfl]; simp; omega
    have d8b : (((D : Int) % 2) == 0) = false := by simp; omega
    have d8c : ((D % 2) == 0) = false := by simp; omega
    refine tkA 56 oJgd56 ?_
    refine tkA 57 oJgd57 ?_
    refine tkB 58 oJgd58 ?_
    refine tkB 59 oJgd59 ?_
    refine tkA 60 oJgd60 ?_
    refine tkA 61 oJgd61 ?_
    refine wpAnyH_done (by kernel_rfl) ?_ _
    (try go_wp2_with (fail))
    go_meet
    exact ⟨false, rfl, fun h => (by cases h), fun _ => ⟨e1, e2, e3, e4k, by omega, by omega, by omega, by omega⟩, hHeld.2⟩
  case rest =>
    obtain ⟨y, rfl, hy1, hy2, hb⟩ := hcut
    cases y
    case true =>
      have EF := Lib.hid (hy1 rfl)
      clear hy1 hy2
      go_wp2
      go_ret
      exact ⟨by rw [EF.out]; rfl, hb⟩
    have HP := Lib.hid (hy2 rfl)
    have hn112 : n ≤ 112 := (hy2 rfl).2.2.2.2.2.1
    clear hy1 hy2
    go_wp2_with (fail)
    go_loopw [6] (fun v6 wr => ∃ i : Nat, 12 + n ≤ i ∧ i ≤ 124 ∧ v6 = .int .i64 i ∧ (∀ j, 12 + n ≤ j → j < i → s.getD j 0 = 0) ∧ wr = wc) (fun v6 _ => 124 - (intOf v6).toNat)
    case atStart => exact ⟨12 + n, by omega, by omega, by go_num, fun j h1 h2 => by omega, rfl⟩
    case round =>
      obtain ⟨i, hi1, hi2, rfl, hz, hwr⟩ := hrel
      have hwr := hwr.symm
      subst hwr
      have HZ := Lib.hid hz
      clear hz
      by_cases hlt : i < 124
      case neg =>
        go_wp2_with (fail)
        go_ret
        have eg : gGood s k = true := (good_ref hS.out hk).2 (by
          obtain ⟨p1, p2, p3, p4, p5, p6, p7, p8⟩ := HP.out
          refine ⟨by rw [← QG.out]; exact p1, by rw [← QG.out, ← QE.out]; exact p2, by rw [← QU.out, ← QM.out]; exact p3, by rw [← QK.out]; exact p4, ?_, ?_, ?_, ?_, ?_⟩
          · rw [show (sKind s).toNat = D from QD.out.symm]; exact p5
          · rw [show sLen s = n from Qn.out.symm]; exact p6
          · rw [show (sKind s).toNat = D from QD.out.symm, show sLen s = n from Qn.out.symm]; exact p7
          · rw [show (sKind s).toNat = D from QD.out.symm, show sLen s = n from Qn.out.symm]; exact p8
          · intro j h1 h2
            rw [show sLen s = n from Qn.out.symm] at h1
            exact HZ.out j h1 (by omega))
        exact ⟨by rw [eg]; rfl, hb⟩
      have z0 := (hb.cell (p := ⟨b, o + i, none⟩) lb.lt).trans (HCS.out i (by have := hS.out; omega))
      unfold u8v at z0
      obtain ⟨x, hx⟩ : ∃ x, x = s.getD i 0 := ⟨_, rfl⟩
      rw [← hx] at z0
      have HX := Lib.hid hx
      clear hx
      by_cases hx0 : x = 0
      case neg =>
        have d1 : ((x.toNat : Int) != 0) = true := bne_iff_ne.2 (fun h => hx0 (UInt8.toNat_inj.1 (by rw [show x.toNat = 0 by omega]; rfl)))
        have hx1 := Lib.hid hx0
        clear hx0
        go_wp2_with (fail)
        go_ret
        exact ⟨by rw [good_no hS.out hk (fun h => hx1.out (by rw [HX.out]; exact h.2.2.2.2.2.2.2.2 i (by rw [show sLen s = n from Qn.out.symm]; omega) hlt))]; rfl, hb⟩
      have d1 : ((x.toNat : Int) != 0) = false := by rw [hx0]; rfl
      have HX0 := Lib.hid hx0
      clear hx0
      go_wp2_with (fail)
      go_roundw
      case rel =>
        refine ⟨i + 1, by omega, by omega, by go_num, fun j h1 h2 => ?_, by trivial⟩
        by_cases hj : j < i
        · exact HZ.out j h1 hj
        · obtain rfl : j = i := by omega
          rw [← HX.out]; exact HX0.out
      case measure => simp [intOf]; omega
theorem rgood_t (A : Option Addr) (c k : Nat) (s : Bs) (w : World) (hs : s.length = 128) (hc : 128 ≤ c) (hk : k < 65536) (hA : BsAt n₀ w A s) : Calls Try.prog 118 #[.slice A 128 c, .int .i64 (k : Int)] w fun e w' => e = .returned (.bool (gGood s k)) ∧ Below w.heap.size w w' := by
  by_cases h1 : sGen s ≠ 0 ∧ sGen s = sEnd s ∧ sSum s = gSum (sMid s)
  case neg => exact rgood_a A c k s w hs hc hk hA h1
  by_cases h2 : sNum s = k ∧ (s.getD 10 0).toNat ≤ 3 ∧ (s.getD 11 0).toNat ≤ 112
  case neg => exact rgood_b A c k s w hs hc hk hA ⟨h1, h2⟩
  by_cases h3 : (s.getD 10 0).toNat < 2
  case pos => exact rgood_c A c k s w hs hc hk hA ⟨⟨h1.1, h1.2.1, h1.2.2, h2⟩, h3⟩
  exact rgood_d A c k s w hs hc hk hA ⟨⟨h1.1, h1.2.1, h1.2.2, h2⟩, h3⟩
end Go.Proofs.Ytckeopidedoohaa
