/-
  The bytes of a sector as they are written one by one are the sector. Conditions: the piece has at most 112 bytes.
-/
import Derived.Test.YtckeopidedoohaaJen
namespace Go.Proofs.Ytckeopidedoohaa

theorem putB_eq (bs : Bs) (o L n : Nat) (h : o + L ≤ bs.length) : ∀ i, i ≤ L → putB bs o L n i = bs.take (o + L - i) ++ (beL i n ++ bs.drop (o + L))
  | 0, _ => by
    simp [putB, beL]
  | i + 1, hi => by
    have ih := putB_eq bs o L n h i (by omega)
    unfold putB
    rw [ih, show o + L - i = (o + (L - 1 - i)) + 1 by omega, show o + L - (i + 1) = o + (L - 1 - i) by omega]
    obtain ⟨p, hp⟩ : ∃ p, p = o + (L - 1 - i) := ⟨_, rfl⟩
    rw [← hp]
    have hpl : p < bs.length := by omega
    rw [List.take_succ_eq_append_getElem hpl, List.append_assoc, List.set_append_right _ _ (by rw [List.length_take]; omega)]
    congr 1
    rw [List.length_take, show p - min p bs.length = 0 by omega]
    rfl
theorem put_whole {bs : Bs} {a b c : Bs} {L n : Nat} (h : bs = a ++ (b ++ c)) (hb : b.length = L) : putB bs a.length L n L = a ++ (beL L n ++ c) := by
  subst h
  rw [putB_eq _ _ _ _ (by simp; omega) L (Nat.le_refl _)]
  rw [show a.length + L - L = a.length by omega]
  congr 1
  · simp
  · congr 1
    subst hb
    rw [← List.append_assoc, ← List.length_append, List.drop_left]
theorem rep_split (a b : Nat) : (List.replicate (a + b) (0 : UInt8)) = List.replicate a 0 ++ List.replicate b 0 := by rw [List.replicate_append_replicate]
/-- The sector ahead of its sum. -/
theorem enc0_eq (g num : Nat) (kind : UInt8) {b : Bs} (hb : b.length ≤ 112) : enc0 g num kind b = beL 4 g ++ (List.replicate 4 0 ++ (mid num kind b ++ beL 4 g)) := by
  unfold enc0
  have e1 : putB zs 0 4 g 4 = beL 4 g ++ List.replicate 124 0 := by
    have := put_whole (bs := zs) (a := []) (b := List.replicate 4 0) (c := List.replicate 124 0) (L := 4) (n := g) rfl rfl
    simpa using this
  rw [e1]
  have e2 : putB (beL 4 g ++ List.replicate 124 0) 8 2 num 2 = (beL 4 g ++ List.replicate 4 0) ++ (beL 2 num ++ List.replicate 118 0) := by
    have := put_whole (bs := beL 4 g ++ List.replicate 124 0) (a := beL 4 g ++ List.replicate 4 0) (b := List.replicate 2 0) (c := List.replicate 118 0) (L := 2) (n := num) (by rw [List.append_assoc]; rfl) rfl
    simpa [beL_len] using this
  rw [e2]
  have e3 : ((((beL 4 g ++ List.replicate 4 0) ++ (beL 2 num ++ List.replicate 118 0)).set 10 kind).set 11 (UInt8.ofNat b.length)) = ((beL 4 g ++ List.replicate 4 0) ++ (beL 2 num ++ [kind, UInt8.ofNat b.length])) ++ List.replicate 116 0 := by
    have hl : ((beL 4 g ++ List.replicate 4 0) ++ beL 2 num).length = 10 := by simp [beL_len]
    rw [← List.append_assoc, List.set_append_right _ _ (by rw [hl]; omega), hl, List.set_append_right _ _ (by rw [hl]; omega), hl]
    simp only [List.append_assoc]
    rfl
  rw [e3]
  have hl : ((beL 4 g ++ List.replicate 4 0) ++ (beL 2 num ++ [kind, UInt8.ofNat b.length])).length = 12 := by simp [beL_len]
  obtain ⟨x, hx⟩ : ∃ x, x = (beL 4 g ++ List.replicate 4 0) ++ (beL 2 num ++ [kind, UInt8.ofNat b.length]) := ⟨_, rfl⟩
  rw [← hx] at hl ⊢
  have e4 : splice (x ++ List.replicate 116 0) 12 b = (x ++ (b ++ List.replicate (112 - b.length) 0)) ++ (List.replicate 4 0 ++ []) := by
    unfold splice
    rw [take_app hl, List.append_nil, List.append_assoc, List.append_assoc, ← List.drop_drop, drop_app hl, List.drop_replicate, List.replicate_append_replicate, show 112 - b.length + 4 = 116 - b.length by omega]
  rw [e4]
  have hl2 : (x ++ (b ++ List.replicate (112 - b.length) 0)).length = 124 := by simp [hl]; omega
  have := put_whole (bs := (x ++ (b ++ List.replicate (112 - b.length) 0)) ++ (List.replicate 4 0 ++ [])) (a := x ++ (b ++ List.replicate (112 - b.length) 0)) (b := List.replicate 4 0) (c := []) (L := 4) (n := g) rfl rfl
  rw [hl2] at this
  rw [this, hx]
  simp [mid]
theorem enc1_eq (g num : Nat) (kind : UInt8) {b : Bs} (hb : b.length ≤ 112) : enc1 g num kind b = enc g num kind b := by
  unfold enc1
  rw [enc0_eq g num kind hb]
  have hs : ((beL 4 g ++ (List.replicate 4 0 ++ (mid num kind b ++ beL 4 g))).drop 8).take 116 = mid num kind b := by
    rw [← List.append_assoc, drop_app (by simp [beL_len]), take_app (mid_len num kind hb)]
  rw [hs]
  have := put_whole (bs := beL 4 g ++ (List.replicate 4 0 ++ (mid num kind b ++ beL 4 g))) (a := beL 4 g) (b := List.replicate 4 0) (c := mid num kind b ++ beL 4 g) (L := 4) (n := gSum (mid num kind b)) rfl rfl
  rw [beL_len] at this
  exact this
end Go.Proofs.Ytckeopidedoohaa
