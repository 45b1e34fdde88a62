/-
  The reference's reading of records, as plain mathematics: it reads what the journal reads. Conditions: sectors of 128 bytes, fewer than 65536 of them.
-/
import Derived.Test.YtckeopidedoohaaJpl
namespace Go.Proofs.Ytckeopidedoohaa

theorem get_be2 {n : Nat} (h : n < 65536) : getL (beL 2 n) = n := by
  simp [getL, beL]
  omega
theorem ofNat_eq {n : Nat} {a : UInt8} (h : n % 256 = a.toNat) : UInt8.ofNat n = a := by
  apply UInt8.toNat_inj.1
  rw [UInt8.toNat_ofNat']
  exact h
theorem be_get4 {b : Bs} (h : b.length = 4) : beL 4 (getL b) = b := by
  match b, h with
  | [a, b, c, d], _ =>
    have := a.toNat_lt
    have := b.toNat_lt
    have := c.toNat_lt
    have := d.toNat_lt
    have e : getL [a, b, c, d] = ((a.toNat * 256 + b.toNat) * 256 + c.toNat) * 256 + d.toNat := by simp [getL]
    rw [e]
    simp only [beL]
    rw [ofNat_eq (a := a) (by omega), ofNat_eq (a := b) (by omega), ofNat_eq (a := c) (by omega), ofNat_eq (a := d) (by omega)]
theorem be_get2 {b : Bs} (h : b.length = 2) : beL 2 (getL b) = b := by
  match b, h with
  | [a, b], _ =>
    have := a.toNat_lt
    have := b.toNat_lt
    have e : getL [a, b] = a.toNat * 256 + b.toNat := by simp [getL]
    rw [e]
    simp only [beL]
    rw [ofNat_eq (a := a) (by omega), ofNat_eq (a := b) (by omega)]
/-- The sector's parts, as the reference reads them. -/
def sSum (s : Bs) : Nat := getL ((s.drop 4).take 4)
def sMid (s : Bs) : Bs := (s.drop 8).take 116
def sNum (s : Bs) : Nat := getL ((s.drop 8).take 2)
/-- Is a sector as the reference asks? -/
def RGood (s : Bs) (k : Nat) : Prop := sGen s ≠ 0 ∧ sGen s = sEnd s ∧ sSum s = gSum (sMid s) ∧ sNum s = k ∧ (sKind s).toNat ≤ 3 ∧ sLen s ≤ 112 ∧ (2 ≤ (sKind s).toNat ∨ sLen s = 112) ∧ ((sKind s).toNat % 2 = 1 ∨ 0 < sLen s) ∧ ∀ i, 12 + sLen s ≤ i → i < 124 → s.getD i 0 = 0
theorem drop_drop_take {s : Bs} (a b : Nat) : s.drop a = (s.drop a).take b ++ s.drop (a + b) := by
  rw [← List.drop_drop, List.take_append_drop]
theorem drop_one {s : Bs} {a : Nat} (h : a < s.length) : s.drop a = s.getD a 0 :: s.drop (a + 1) := by
  rw [List.drop_eq_getElem_cons h, List.getD_eq_getElem?_getD, List.getElem?_eq_getElem h]
  rfl
theorem mid_split {s : Bs} (h : s.length = 128) : sMid s = (s.drop 8).take 2 ++ sKind s :: s.getD 11 0 :: (s.drop 12).take 112 := by
  unfold sMid sKind
  have e : s.drop 8 = (s.drop 8).take 2 ++ (s.getD 10 0 :: s.getD 11 0 :: s.drop 12) := by
    rw [← drop_one (a := 11) (by omega), ← drop_one (a := 10) (by omega)]
    exact drop_drop_take 8 2
  have l2 : ((s.drop 8).take 2).length = 2 := by rw [List.length_take, List.length_drop]; omega
  rw [e]
  rw [List.take_append, l2]
  rw [List.take_of_length_le (by rw [l2]; omega)]
  rw [take_app l2]
  rfl
theorem good_ref {s : Bs} {k : Nat} (hl : s.length = 128) (hk : k < 65536) : gGood s k = true ↔ RGood s k := by
  constructor
  · intro h
    obtain ⟨h1, h2, h3, h4, h5, h6⟩ := good_parts h
    have hg : sGen s < 4294967296 := getL_lt4 (by simp [hl])
    have hd := sData_len hl h1
    have hdl : (sData s).length ≤ 112 := by omega
    have e8 : s.drop 8 = mid k (sKind s) (sData s) ++ beL 4 (sGen s) := by
      rw [h6, enc_gen hg, enc_kind, enc_data _ _ _ hdl]
      unfold enc
      rw [← List.append_assoc, drop_app (by simp [beL_len])]
    have e4 : s.drop 4 = beL 4 (gSum (mid k (sKind s) (sData s))) ++ (mid k (sKind s) (sData s) ++ beL 4 (sGen s)) := by
      rw [h6, enc_gen hg, enc_kind, enc_data _ _ _ hdl]
      unfold enc
      rw [drop_app (beL_len _ _)]
    have em : sMid s = mid k (sKind s) (sData s) := by
      unfold sMid
      rw [e8, take_app (mid_len _ _ hdl)]
    refine ⟨by omega, (good_ends hl h).symm, ?_, ?_, h2, h1, ?_, ?_, ?_⟩
    · unfold sSum
      rw [em, e4, take_app (beL_len _ _), get_be4 (gSum_lt _)]
    · unfold sNum
      rw [e8]
      unfold mid
      rw [List.append_assoc, take_app (beL_len _ _), get_be2 hk]
    · rcases h3 with h3 | h3
      · unfold sFin at h3
        have := of_decide_eq_true h3
        left; omega
      · right; omega
    · rcases h4 with h4 | h4
      · exact .inl (of_decide_eq_true h4)
      · exact .inr h4
    · intro i hi1 hi2
      have e9 : s.getD i 0 = (s.drop 8).getD (i - 8) 0 := by
        rw [List.getD_eq_getElem?_getD, List.getD_eq_getElem?_getD, List.getElem?_drop, show 8 + (i - 8) = i by omega]
      rw [e9, e8]
      unfold mid
      have e10 : beL 2 k ++ sKind s :: UInt8.ofNat (sData s).length :: (sData s ++ List.replicate (112 - (sData s).length) 0) ++ beL 4 (sGen s) = (beL 2 k ++ [sKind s, UInt8.ofNat (sData s).length] ++ sData s) ++ (List.replicate (112 - (sData s).length) 0 ++ beL 4 (sGen s)) := by simp
      rw [e10, List.getD_eq_getElem?_getD, List.getElem?_append_right (by simp [beL_len]; omega), List.getElem?_append_left (by simp [beL_len]; omega), List.getElem?_replicate]
      split <;> rfl
  · rintro ⟨h1, h2, h3, h4, h5, h6, h7, h8, h9⟩
    have hd := sData_len hl h6
    have l2 : ((s.drop 8).take 2).length = 2 := by rw [List.length_take, List.length_drop]; omega
    have l4 : (s.take 4).length = 4 := by rw [List.length_take]; omega
    have l44 : ((s.drop 4).take 4).length = 4 := by rw [List.length_take, List.length_drop]; omega
    have l124 : (s.drop 124).length = 4 := by rw [List.length_drop]; omega
    have lb : ((s.drop 12).take 112).length = 112 := by rw [List.length_take, List.length_drop]; omega
    have eb : (s.drop 12).take 112 = sData s ++ List.replicate (112 - (sData s).length) 0 := by
      apply List.ext_getElem?
      intro i
      rcases Nat.lt_or_ge i 112 with hi | hi
      · rcases Nat.lt_or_ge i (sLen s) with h | h
        · rw [List.getElem?_append_left (by omega)]
          unfold sData
          rw [List.getElem?_take, List.getElem?_take, if_pos hi, if_pos h]
        · rw [List.getElem?_append_right (by omega), List.getElem?_replicate, if_pos (by omega), List.getElem?_take, if_pos hi, List.getElem?_drop]
          have := h9 (12 + i) (by omega) (by omega)
          rw [List.getD_eq_getElem?_getD, List.getElem?_eq_getElem (by omega)] at this
          rw [List.getElem?_eq_getElem (by omega)]
          exact congrArg some this
      · rw [List.getElem?_eq_none (by omega), List.getElem?_eq_none (by rw [List.length_append, List.length_replicate]; omega)]
    have em : sMid s = mid k (sKind s) (sData s) := by
      rw [mid_split hl, eb]
      unfold mid
      have e2 : (s.drop 8).take 2 = beL 2 k := by rw [← h4]; exact (be_get2 l2).symm
      have e3 : UInt8.ofNat (sData s).length = s.getD 11 0 := by
        rw [hd]
        unfold sLen
        exact UInt8.ofNat_toNat
      rw [e2, e3]
    have es : s = enc (sGen s) k (sKind s) (sData s) := by
      unfold enc
      rw [← em, ← h3]
      unfold sSum
      rw [be_get4 l44]
      have e1 : beL 4 (sGen s) = s.take 4 := be_get4 l4
      have e5 : beL 4 (sGen s) = s.drop 124 := by rw [h2]; exact be_get4 l124
      have e6 : s = s.take 4 ++ ((s.drop 4).take 4 ++ (sMid s ++ s.drop 124)) := by
        have a1 : s.drop 8 = sMid s ++ s.drop 124 := drop_drop_take 8 116
        have a2 : s.drop 4 = (s.drop 4).take 4 ++ s.drop 8 := drop_drop_take 4 4
        rw [← a1, ← a2, List.take_append_drop]
      rw [← e5] at e6
      rw [← e1] at e6
      exact e6
    unfold gGood sFin sBeg
    simp only [Bool.and_eq_true, Bool.or_eq_true, decide_eq_true_eq]
    exact ⟨h6, h5, by omega, h8, by omega, es⟩
theorem scan_last (g0 last at_ : Nat) : ∀ (l : List Bs) (n : Nat) (b : Bs), scan g0 last at_ l n b = if last ≤ g0 then scan g0 0 at_ l n b else none
  | [], _, _ => by unfold scan; split <;> rfl
  | s :: r, n, b => by
    unfold scan
    by_cases h : last ≤ g0
    · rw [if_pos h]
      have e : (gGood s n = true ∧ sBeg s = decide (n = at_) ∧ sGen s = g0 ∧ last ≤ sGen s) ↔ (gGood s n = true ∧ sBeg s = decide (n = at_) ∧ sGen s = g0 ∧ 0 ≤ sGen s) := by
        constructor
        · rintro ⟨h1, h2, h3, -⟩; exact ⟨h1, h2, h3, Nat.zero_le _⟩
        · rintro ⟨h1, h2, h3, -⟩; exact ⟨h1, h2, h3, by omega⟩
      by_cases h2 : gGood s n = true ∧ sBeg s = decide (n = at_) ∧ sGen s = g0 ∧ last ≤ sGen s
      · rw [if_pos h2, if_pos (e.1 h2), scan_last g0 last at_ r, if_pos h]
      · rw [if_neg h2, if_neg (fun h3 => h2 (e.2 h3))]
    · rw [if_neg h, if_neg (fun h2 => by omega)]
theorem recAt_last (l : List Bs) (at_ last : Nat) : recAt l at_ last = if last ≤ sGen (l.getD at_ []) then recAt l at_ 0 else none := scan_last _ _ _ _ _ _
end Go.Proofs.Ytckeopidedoohaa
