/-
  A sector of a record. Conditions: bytes lie as plain data. | The bytes of a sector as they are written one by one are the sector. Conditions: the piece has at most 112 bytes. | Whether a sector has the form of one of a record. Conditions: the sector lies as plain data.
-/
import Derived.Test.YtckeopidedoohaaJap
import Derived.Deep.CutBlock
import Derived.Deep.RegionHeld3
import Derived.Deep.QuietTactic
import Derived.Deep.DeepCutAuto
namespace Go.Proofs.Ytckeopidedoohaa
open Go.RowKit
variable {n₀ : Nat}
attribute [local go_sem] Oper.semAt_some

theorem zc132 : Try.zeroCells132 = (bcells zs).toArray := by rfl
theorem blk_part {w : World} {B t : Nat} {bs : Bs} (h : Blk w B t (bcells bs).toArray) (ht : rowT t = true) (o n : Nat) (hn : o + n ≤ bs.length) : BsAt n₀ w (some ⟨B, o, none⟩) ((bs.drop o).take n) := fun h0 => by
  refine ⟨B, o, rfl, .of_blk h ht, fun i hi => ?_⟩
  rw [List.length_take, List.length_drop] at hi
  rw [h.cell, List.getElem?_toArray, bcells_get bs (o + i) (by omega)]
  congr 2
  simp only [List.getD_eq_getElem?_getD, List.getElem?_take, List.getElem?_drop]
  rw [if_pos (by omega)]
/-- The bytes of a sector as they are written one by one. -/
def enc0 (g num : Nat) (kind : UInt8) (b : Bs) : Bs := putB (splice ((((putB (putB zs 0 4 g 4) 8 2 num 2).set 10 kind).set 11 (UInt8.ofNat b.length))) 12 b) 124 4 g 4
def enc1 (g num : Nat) (kind : UInt8) (b : Bs) : Bs := putB (enc0 g num kind b) 4 4 (gSum (((enc0 g num kind b).drop 8).take 116)) 4
theorem splice_lenB (l : Bs) (o : Nat) (b : Bs) (h : o + b.length ≤ l.length) : (splice l o b).length = l.length := by simp [splice]; omega
theorem bcells_splice (l : Bs) (o : Nat) (b : Bs) : splice (bcells l) o (bcells b) = bcells (splice l o b) := by simp [splice, bcells]
theorem enc0_len (g num : Nat) (kind : UInt8) {b : Bs} (hb : b.length ≤ 112) : (enc0 g num kind b).length = 128 := by
  unfold enc0
  rw [putB_len, splice_lenB _ _ _ (by simp [putB_len, zs_len]; omega)]
  simp [putB_len, zs_len]

set_option maxRecDepth 20000 in
set_option maxHeartbeats 4000000 in
theorem encode_t (A : Option Addr) (c g num : Nat) (kind : UInt8) (b : Bs) (w : World) (hg : g < 18446744073709551616) (hnum : num ≤ 100000) (hb : b.length ≤ 112) (h : BsAt n₀ w A b) :
    Calls Try.prog 91 #[.int .u64 (g : Nat), .int .i64 (num : Nat), .int .u8 kind.toNat, .slice A b.length c] w fun e w' => ∃ B, e = .returned (.slice (some ⟨B, 0, none⟩) 128 128) ∧ Blk w' B 132 (bcells (enc1 g num kind b)).toArray ∧ w.heap.size ≤ B ∧ Below w.heap.size w w' := by
  obtain ⟨bn, hbn⟩ : ∃ n, n = b.length := ⟨_, rfl⟩
  rw [← hbn]
  rw [← hbn] at hb
  have HBN := Lib.hid hbn
  clear hbn
  have hkl : (kind.toNat : Int) ≤ 255 := by have := kind.toNat_lt; omega
  go_enter Try.func91, Try.ntmps91
  go_upto_region 2 with (fail)
  obtain ⟨B, hB⟩ : ∃ B, B = w.heap.size := ⟨_, rfl⟩
  obtain ⟨W1, hW1⟩ : ∃ W, W = w.alloc (.cells Try.zeroCells132 132) := ⟨_, rfl⟩
  rw [← hW1, ← hB]
  have hw : Below w.heap.size w W1 := by rw [hW1]; exact (Below.refl _ _).alloc (Nat.le_refl _) _
  have x : Blk W1 B 132 (bcells zs).toArray := by rw [hW1, hB, ← zc132]; exact Blk.new w 132 _
  have HBE := Lib.hid hB
  clear hW1 hB
  have K := put_t B 0 4 128 g (zs) 132 W1 (by decide) (by rw [zs_len]; decide) (by omega) x
  go_wp2_with (fail)
  go_at_call 108
  refine K.mono ?_
  rintro e W2 ⟨rfl, x2, hk⟩
  clear K
  replace hw := hw.trans (hk.below hw.size (fun r hr h => by have := HBE.out; omega))
  clear x hk
  have x := x2
  clear x2
  have K := put_t B 8 2 120 num (putB zs 0 4 g 4) 132 W2 (by decide) (by rw [putB_len, zs_len]; decide) (by omega) x
  go_wp2_with (fail)
  go_at_call 108
  refine K.mono ?_
  rintro e W3 ⟨rfl, x2, hk⟩
  clear K
  replace hw := hw.trans (hk.below hw.size (fun r hr h => by have := HBE.out; omega))
  clear x hk
  have x := x2
  clear x2
  obtain ⟨l3, hl3⟩ : ∃ l, l = putB (putB zs 0 4 g 4) 8 2 num 2 := ⟨_, rfl⟩
  rw [← hl3] at x
  have hl3n : l3.length = 128 := by rw [hl3, putB_len, putB_len, zs_len]
  have HL3 := Lib.hid hl3
  clear hl3
  obtain ⟨v10, hv10⟩ : ∃ v, W3.cell? ⟨B, 10, none⟩ = some v := by
    rw [x.cell, List.getElem?_toArray]
    exact ⟨_, List.getElem?_eq_getElem (by rw [bcells_len]; omega)⟩
  obtain ⟨v11, hv11⟩ : ∃ v, W3.cell? ⟨B, 11, none⟩ = some v := by
    rw [x.cell, List.getElem?_toArray]
    exact ⟨_, List.getElem?_eq_getElem (by rw [bcells_len]; omega)⟩
  have f10 := x.frozen 10
  have f11 := x.frozen 11
  have hbi : (bn : Int) ≤ 112 := by omega
  go_upto_region 5 with (fail)
  obtain ⟨W4, hW4⟩ : ∃ W, W = (W3.setCell ⟨B, 10, none⟩ (.int .u8 kind.toNat)).setCell ⟨B, 11, none⟩ (.int .u8 (bn : Nat)) := ⟨_, rfl⟩
  rw [← hW4]
  obtain ⟨l4, hl4⟩ : ∃ l, l = (l3.set 10 kind).set 11 (UInt8.ofNat bn) := ⟨_, rfl⟩
  have x4 : Blk W4 B 132 (bcells l4).toArray := by
    have h1 := (x.set 10 (.int .u8 kind.toNat)).set 11 (.int .u8 (bn : Nat))
    have e1 : (Value.int .u8 (bn : Nat)) = u8v (UInt8.ofNat bn) := by
      unfold u8v
      congr 1
      simp
      omega
    rw [hW4, hl4, ← bcells_set, ← bcells_set, ← e1]
    exact h1
  replace hw : Below w.heap.size w W4 := by rw [hW4]; exact (hw.setCell (by rw [HBE.out]; exact Nat.le_refl _) _).setCell (by rw [HBE.out]; exact Nat.le_refl _) _
  have hl4n : l4.length = 128 := by rw [hl4]; simp [hl3n]
  have HL4 := Lib.hid hl4
  have H0 := Lib.hid h
  have HW4 := Lib.hid hw
  have hgz : W4.heap[B]? = some (.cells (bcells l4).toArray 132 (0, 0)) := x4
  have HGZ := Lib.hid hgz
  clear hgz
  clear hW4 hl4 x hv10 hv11 f10 f11 hw x4 h
  go_wp2_with (with_reducible refine wpList_copy_splice rfl (.tmp 23) (.tmp 24) 35 35 rfl 5 Try.underlying35 (by kernel_rfl) (some ⟨B, 12, none⟩) A 116 116 bn c rfl rfl B 12 (bcells l4) 132 HGZ.out (bcells b) (by rw [bcells_len, ← HBN.out]; simp [Nat.min_def]; omega) (fun hp => ⟨rfl, bs_src H0.out HW4.out (by rw [bcells_len] at hp; exact hp)⟩) (by rw [bcells_len, bcells_len, ← HBN.out]; omega) (bcells_one b) w.heap.size w HW4.out (by rw [HBE.out]; exact Nat.le_refl _) ?_; intro w5 hx5 hw5)
  have x : Blk w5 B 132 (bcells (splice l4 12 b)).toArray := by rw [← bcells_splice]; exact hx5.out
  have hw := hw5
  clear hx5 hw5
  obtain ⟨l5, hl5⟩ : ∃ l, l = splice l4 12 b := ⟨_, rfl⟩
  rw [← hl5] at x
  have hl5n : l5.length = 128 := by rw [hl5, splice_lenB _ _ _ (by rw [← HBN.out]; omega), hl4n]
  have HL5 := Lib.hid hl5
  clear hl5
  have K := put_t B 124 4 4 g (l5) 132 w5 (by decide) (by rw [hl5n]; decide) (by omega) x
  go_wp2_with (fail)
  go_at_call 108
  refine K.mono ?_
  rintro e W6 ⟨rfl, x2, hk⟩
  clear K
  replace hw := hw.trans (hk.below hw.size (fun r hr h => by have := HBE.out; omega))
  clear x hk
  have x := x2
  clear x2
  obtain ⟨l6, hl6⟩ : ∃ l, l = putB l5 124 4 g 4 := ⟨_, rfl⟩
  rw [← hl6] at x
  have hl6n : l6.length = 128 := by rw [hl6, putB_len, hl5n]
  have HL6 := Lib.hid hl6
  clear hl6
  obtain ⟨gs, hgs⟩ : ∃ n, n = gSum ((l6.drop 8).take 116) := ⟨_, rfl⟩
  have hgl : gs < 4294967296 := by rw [hgs]; exact gSum_lt _
  have hsum : ∀ W', Blk W' B 132 (bcells l6).toArray → Calls Try.prog 109 #[.slice (some ⟨B, 8, none⟩) 116 120] W' (fun e w' => e = .returned (.int .u32 (gs : Nat)) ∧ w' = W') := fun W' hx => by
    have hl : ((l6.drop 8).take 116).length = 116 := by simp [hl6n]
    have h := sum_t (n₀ := 0) (some ⟨B, 8, none⟩) 120 _ W' (by rw [hl]; decide) (blk_part hx rfl 8 116 (by omega))
    rw [hl, ← hgs] at h
    exact h
  have HSUM := Lib.hid hsum
  have HGS := Lib.hid hgs
  have hgi : (gs : Int) ≤ 4294967295 := by omega
  clear hsum hgs
  have hput : ∀ W', Blk W' B 132 (bcells l6).toArray → Calls Try.prog 108 #[.slice (some ⟨B, 4, none⟩) 4 124, .int .u64 (gs : Nat)] W' (fun e w' => e = .returned (.tuple #[]) ∧ Blk w' B 132 (bcells (putB l6 4 4 gs 4)).toArray ∧ Keep (fun r => r = B) W' w') := fun W' hx => put_t B 4 4 124 gs l6 132 W' (by decide) (by rw [hl6n]; decide) (by omega) hx
  have HPUT := Lib.hid hput
  have hx6d : Blk W6.drew B 132 (bcells l6).toArray := x.below (Below.drew (Below.refl _ _)) x.lt
  have HK6 := HSUM.out W6.drew hx6d
  have HK7 := HPUT.out W6.drew hx6d
  have ew : IntKind.u64.wrap (gs : Int) = (gs : Int) := by rw [IntKind.wrap_u64]; omega
  rw [← ew] at HK7
  clear ew
  have HKA := Lib.hid HK6
  have HKB := Lib.hid HK7
  clear HK6 HK7 HSUM HPUT
  have HX6 := Lib.hid x
  have hx6l := x.lt
  have HW6 := Lib.hid hw
  clear hput x hw
  go_upto_region 7 with (fail)
  go_region_held3 (fun W => B < W.heap.size) (first | exact hx6l | exact x8.lt)
    (first | (go_at_call 109; refine HKA.out.mono ?_; rintro e w7 ⟨rfl, hw7⟩; subst hw7) | (go_at_call 108; refine HKB.out.mono ?_; rintro e w8 ⟨rfl, x8, hk8⟩))
  all_goals
    go_wp2
    go_ret
    refine ⟨B, rfl, ?_, by rw [HBE.out]; exact Nat.le_refl _, ?_⟩
    · unfold enc1 enc0
      have e6 : l6 = putB (splice ((((putB (putB zs 0 4 g 4) 8 2 num 2).set 10 kind).set 11 (UInt8.ofNat b.length))) 12 b) 124 4 g 4 := by rw [HL6.out, HL5.out, HL4.out, HL3.out, HBN.out]
      rw [← e6, ← HGS.out]
      exact x8
    · have hwd : Below w.heap.size w W6.drew := HW6.out.drew
      exact hwd.trans (hk8.below hwd.size (fun r hr h => by have := HBE.out; omega))
end Go.Proofs.Ytckeopidedoohaa

namespace Go.Proofs.Ytckeopidedoohaa

theorem putB_eq (bs : Bs) (o L n : Nat) (h : o + L ≤ bs.length) : ∀ i, i ≤ L → putB bs o L n i = bs.take (o + L - i) ++ (beL i n ++ bs.drop (o + L))
  | 0, _ => by
    simp [putB, beL]
  | i + 1, hi => by
    have ih := putB_eq bs o L n h i (by omega)
    unfold putB
    rw [ih, show o + L - i = (o + (L - 1 - i)) + 1 by omega, show o + L - (i + 1) = o + (L - 1 - i) by omega]
    obtain ⟨p, hp⟩ : ∃ p, p = o + (L - 1 - i) := ⟨_, rfl⟩
    rw [← hp]
    have hpl : p < bs.length := by omega
    rw [List.take_succ_eq_append_getElem hpl, List.append_assoc, List.set_append_right _ _ (by rw [List.length_take]; omega)]
    congr 1
    rw [List.length_take, show p - min p bs.length = 0 by omega]
    rfl
theorem put_whole {bs : Bs} {a b c : Bs} {L n : Nat} (h : bs = a ++ (b ++ c)) (hb : b.length = L) : putB bs a.length L n L = a ++ (beL L n ++ c) := by
  subst h
  rw [putB_eq _ _ _ _ (by simp; omega) L (Nat.le_refl _)]
  rw [show a.length + L - L = a.length by omega]
  congr 1
  · simp
  · congr 1
    subst hb
    rw [← List.append_assoc, ← List.length_append, List.drop_left]
theorem rep_split (a b : Nat) : (List.replicate (a + b) (0 : UInt8)) = List.replicate a 0 ++ List.replicate b 0 := by rw [List.replicate_append_replicate]
/-- The sector ahead of its sum. -/
theorem enc0_eq (g num : Nat) (kind : UInt8) {b : Bs} (hb : b.length ≤ 112) : enc0 g num kind b = beL 4 g ++ (List.replicate 4 0 ++ (mid num kind b ++ beL 4 g)) := by
  unfold enc0
  have e1 : putB zs 0 4 g 4 = beL 4 g ++ List.replicate 124 0 := by
    have := put_whole (bs := zs) (a := []) (b := List.replicate 4 0) (c := List.replicate 124 0) (L := 4) (n := g) rfl rfl
    simpa using this
  rw [e1]
  have e2 : putB (beL 4 g ++ List.replicate 124 0) 8 2 num 2 = (beL 4 g ++ List.replicate 4 0) ++ (beL 2 num ++ List.replicate 118 0) := by
    have := put_whole (bs := beL 4 g ++ List.replicate 124 0) (a := beL 4 g ++ List.replicate 4 0) (b := List.replicate 2 0) (c := List.replicate 118 0) (L := 2) (n := num) (by rw [List.append_assoc]; rfl) rfl
    simpa [beL_len] using this
  rw [e2]
  have e3 : ((((beL 4 g ++ List.replicate 4 0) ++ (beL 2 num ++ List.replicate 118 0)).set 10 kind).set 11 (UInt8.ofNat b.length)) = ((beL 4 g ++ List.replicate 4 0) ++ (beL 2 num ++ [kind, UInt8.ofNat b.length])) ++ List.replicate 116 0 := by
    have hl : ((beL 4 g ++ List.replicate 4 0) ++ beL 2 num).length = 10 := by simp [beL_len]
    rw [← List.append_assoc, List.set_append_right _ _ (by rw [hl]; omega), hl, List.set_append_right _ _ (by rw [hl]; omega), hl]
    simp only [List.append_assoc]
    rfl
  rw [e3]
  have hl : ((beL 4 g ++ List.replicate 4 0) ++ (beL 2 num ++ [kind, UInt8.ofNat b.length])).length = 12 := by simp [beL_len]
  obtain ⟨x, hx⟩ : ∃ x, x = (beL 4 g ++ List.replicate 4 0) ++ (beL 2 num ++ [kind, UInt8.ofNat b.length]) := ⟨_, rfl⟩
  rw [← hx] at hl ⊢
  have e4 : splice (x ++ List.replicate 116 0) 12 b = (x ++ (b ++ List.replicate (112 - b.length) 0)) ++ (List.replicate 4 0 ++ []) := by
    unfold splice
    rw [take_app hl, List.append_nil, List.append_assoc, List.append_assoc, ← List.drop_drop, drop_app hl, List.drop_replicate, List.replicate_append_replicate, show 112 - b.length + 4 = 116 - b.length by omega]
  rw [e4]
  have hl2 : (x ++ (b ++ List.replicate (112 - b.length) 0)).length = 124 := by simp [hl]; omega
  have := put_whole (bs := (x ++ (b ++ List.replicate (112 - b.length) 0)) ++ (List.replicate 4 0 ++ [])) (a := x ++ (b ++ List.replicate (112 - b.length) 0)) (b := List.replicate 4 0) (c := []) (L := 4) (n := g) rfl rfl
  rw [hl2] at this
  rw [this, hx]
  simp [mid]
theorem enc1_eq (g num : Nat) (kind : UInt8) {b : Bs} (hb : b.length ≤ 112) : enc1 g num kind b = enc g num kind b := by
  unfold enc1
  rw [enc0_eq g num kind hb]
  have hs : ((beL 4 g ++ (List.replicate 4 0 ++ (mid num kind b ++ beL 4 g))).drop 8).take 116 = mid num kind b := by
    rw [← List.append_assoc, drop_app (by simp [beL_len]), take_app (mid_len num kind hb)]
  rw [hs]
  have := put_whole (bs := beL 4 g ++ (List.replicate 4 0 ++ (mid num kind b ++ beL 4 g))) (a := beL 4 g) (b := List.replicate 4 0) (c := mid num kind b ++ beL 4 g) (L := 4) (n := gSum (mid num kind b)) rfl rfl
  rw [beL_len] at this
  exact this
end Go.Proofs.Ytckeopidedoohaa

namespace Go.Proofs.Ytckeopidedoohaa
open Go.RowKit
variable {n₀ : Nat}
attribute [local go_sem] Oper.semAt_some

/-- A part of bytes that lie somewhere. -/
theorem bs_part {w : World} {b o : Nat} {bs : Bs} (h : BsAt n₀ w (some ⟨b, o, none⟩) bs) (x n : Nat) (hn : x + n ≤ bs.length) : BsAt n₀ w (some ⟨b, o + x, none⟩) ((bs.drop x).take n) := fun h0 => by
  rw [List.length_take, List.length_drop] at h0
  obtain ⟨b', o', e, hl, hc⟩ := h (by omega)
  cases e
  refine ⟨b, o + x, rfl, hl, fun i hi => ?_⟩
  rw [List.length_take, List.length_drop] at hi
  rw [Nat.add_assoc, hc (x + i) (by omega)]
  congr 2
  simp only [List.getD_eq_getElem?_getD, List.getElem?_take, List.getElem?_drop]
  rw [if_pos (by omega)]
/-- What Good looks at first. -/
def badK (n k : Nat) : Bool := decide (112 < n) || decide (3 < k) || (decide (k / 2 % 2 = 0) && decide (n < 112)) || (decide (k % 2 = 0) && decide (n = 0))
theorem good_bad {s : Bs} {num : Nat} (h : badK (sLen s) (sKind s).toNat = true) : gGood s num = false := by
  cases hg : gGood s num
  · rfl
  · obtain ⟨h1, h2, h3, h4, -, -⟩ := good_parts hg
    unfold badK at h
    unfold sFin at h3
    unfold sBeg at h4
    simp only [Bool.or_eq_true, Bool.and_eq_true, decide_eq_true_eq] at h h3 h4
    omega
theorem good_rest {s : Bs} {num : Nat} (h : badK (sLen s) (sKind s).toNat = false) : gGood s num = (decide (0 < sGen s) && decide (s = enc (sGen s) num (sKind s) (sData s))) := by
  unfold badK at h
  simp only [Bool.or_eq_false_iff, Bool.and_eq_false_imp, decide_eq_true_eq, decide_eq_false_iff_not] at h
  obtain ⟨⟨⟨h1, h2⟩, h3⟩, h4⟩ := h
  unfold gGood sFin sBeg
  rw [decide_eq_true (show sLen s ≤ 112 by omega), decide_eq_true (show (sKind s).toNat ≤ 3 by omega)]
  have e3 : (decide ((sKind s).toNat / 2 % 2 = 1) || decide (112 ≤ sLen s)) = true := by
    simp only [Bool.or_eq_true, decide_eq_true_eq]
    omega
  have e4 : (decide ((sKind s).toNat % 2 = 1) || decide (0 < sLen s)) = true := by
    simp only [Bool.or_eq_true, decide_eq_true_eq]
    omega
  rw [e3, e4]
  rfl
theorem and_two {k : Nat} (h : k < 256) : bits .and .u8 (k : Int) 2 = ((k / 2 % 2 * 2 : Nat) : Int) := by
  have e : k &&& 2 = k / 2 % 2 * 2 := by
    apply Nat.eq_of_testBit_eq
    intro i
    rw [Nat.testBit_and, show (2 : Nat) = 2 ^ 1 from rfl, Nat.testBit_two_pow]
    have h2 : (k / 2 % 2 * 2 ^ 1).testBit i = (decide (1 = i) && decide (k / 2 % 2 = 1)) := by
      rcases Nat.mod_two_eq_zero_or_one (k / 2) with e | e <;> rw [e]
      · simp
      · rw [Nat.one_mul, Nat.testBit_two_pow]; simp
    rw [h2]
    by_cases hi : 1 = i
    · subst hi
      simp [Nat.testBit_succ, Nat.testBit_zero]
    · simp [hi]
  have := u8_and_nat k 2 h (by decide)
  rw [e] at this
  exact this
theorem and_one {k : Nat} (h : k < 256) : bits .and .u8 (k : Int) 1 = ((k % 2 : Nat) : Int) := by
  have := u8_and_nat k 1 h (by decide)
  rw [Nat.and_one_is_mod] at this
  exact this

set_option maxRecDepth 20000 in
set_option maxHeartbeats 4000000 in
theorem good_t (A : Option Addr) (c num : Nat) (s : Bs) (w : World) (hs : s.length = 128) (hc : 128 ≤ c) (hnum : num ≤ 100000) (h : BsAt n₀ w A s) :
    Calls Try.prog 105 #[.slice A 128 c, .int .i64 (num : Nat)] w fun e w' => e = .returned (.bool (gGood s num)) ∧ Below w.heap.size w w' := by
  obtain ⟨b, o, rfl, hbl, hcell⟩ := h (by omega)
  have z10 := hcell 10 (by omega)
  have z11 := hcell 11 (by omega)
  obtain ⟨kd, hkd⟩ : ∃ k, k = s.getD 10 0 := ⟨_, rfl⟩
  rw [← hkd] at z10
  obtain ⟨nl, hnl⟩ : ∃ n, n = s.getD 11 0 := ⟨_, rfl⟩
  rw [← hnl] at z11
  unfold u8v at z10 z11
  obtain ⟨n, hn⟩ : ∃ n, n = nl.toNat := ⟨_, rfl⟩
  obtain ⟨k, hk⟩ : ∃ k, k = kd.toNat := ⟨_, rfl⟩
  rw [← hk] at z10
  rw [← hn] at z11
  have hkl : k < 256 := by rw [hk]; exact kd.toNat_lt
  have hnn : n < 256 := by rw [hn]; exact nl.toNat_lt
  have hsn : sLen s = n := by rw [hn, hnl]; rfl
  have hsk : (sKind s).toNat = k := by rw [hk, hkd]; rfl
  have hskd : sKind s = kd := hkd.symm
  obtain ⟨m2, hm2⟩ : ∃ m : Nat, m = k / 2 % 2 * 2 := ⟨_, rfl⟩
  obtain ⟨m1, hm1⟩ : ∃ m : Nat, m = k % 2 := ⟨_, rfl⟩
  have a2 : bits .and .u8 (k : Int) 2 = (m2 : Int) := by rw [hm2]; exact and_two hkl
  have a1 : bits .and .u8 (k : Int) 1 = (m1 : Int) := by rw [hm1]; exact and_one hkl
  have HS := Lib.hid (And.intro hsn (And.intro hsk hskd))
  have H0 := Lib.hid h
  have HM := Lib.hid (And.intro hm2 hm1)
  have HK := Lib.hid hk
  clear hcell hkd hnl hn hk hsn hsk hskd hm2 hm1 h
  have k0 : (k : Int) ≤ 255 := by omega
  have n0 : (n : Int) ≤ 255 := by omega
  go_enter Try.func105, Try.ntmps105
  go_upto_region 2 with (fail)
  obtain ⟨y, hy⟩ : ∃ y, y = badK n k := ⟨_, rfl⟩
  have HY := Lib.hid hy
  go_cut [40] (fun s40 wx => s40 = .bool y ∧ wx = w)
  case first =>
    by_cases c1 : 112 < n
    case pos =>
      have e : y = true := by rw [hy]; unfold badK; rw [decide_eq_true c1]; rfl
      subst e
      have d1 : decide (112 < (n : Int)) = true := decide_eq_true (by omega)
      clear hy c1
      go_wp2_with (fail)
      go_meet
      exact ⟨rfl, rfl⟩
    have d1 : decide (112 < (n : Int)) = false := decide_eq_false (by omega)
    by_cases c2 : 3 < k
    case pos =>
      have e : y = true := by rw [hy]; unfold badK; rw [decide_eq_true c2]; simp
      subst e
      have d2 : decide (3 < (k : Int)) = true := decide_eq_true (by omega)
      clear hy c1 c2
      go_wp2_with (fail)
      go_meet
      exact ⟨rfl, rfl⟩
    have d2 : decide (3 < (k : Int)) = false := decide_eq_false (by omega)
    by_cases c3 : m2 = 0
    case pos =>
      have d3 : ((m2 : Int) == 0) = true := beq_iff_eq.2 (by omega)
      by_cases c4 : n < 112
      case pos =>
        have d4 : decide ((n : Int) < 112) = true := decide_eq_true (by omega)
        have e : y = true := by rw [hy]; unfold badK; have h1 := HM.out.1; have h2 := HM.out.2; simp only [Bool.or_eq_true, Bool.and_eq_true, decide_eq_true_eq]; omega
        subst e
        clear hy c1 c2 c3 c4
        go_wp2_with (fail)
        go_meet
        exact ⟨rfl, rfl⟩
      case neg =>
        have d4 : decide ((n : Int) < 112) = false := decide_eq_false (by omega)
        by_cases c5 : m1 = 0
        case pos =>
          have d5 : ((m1 : Int) == 0) = true := beq_iff_eq.2 (by omega)
          by_cases c6 : n = 0
          case pos =>
            have e : y = true := by rw [hy]; unfold badK; have h1 := HM.out.1; have h2 := HM.out.2; simp only [Bool.or_eq_true, Bool.and_eq_true, decide_eq_true_eq]; omega
            subst e
            have d6 : ((n : Int) == 0) = true := beq_iff_eq.2 (by omega)
            clear hy c1 c2 c3 c5 c6 c4
            go_wp2_with (fail)
            go_meet
            exact ⟨rfl, rfl⟩
          case neg =>
            have e : y = false := by rw [hy]; unfold badK; have h1 := HM.out.1; have h2 := HM.out.2; simp only [Bool.or_eq_false_iff, Bool.and_eq_false_imp, decide_eq_true_eq, decide_eq_false_iff_not]; omega
            subst e
            have d6 : ((n : Int) == 0) = false := beq_eq_false_iff_ne.2 (by omega)
            clear hy c1 c2 c3 c5 c6 c4
            go_wp2_with (fail)
            go_meet
            exact ⟨rfl, rfl⟩
        case neg =>
          have d5 : ((m1 : Int) == 0) = false := beq_eq_false_iff_ne.2 (by omega)
          have e : y = false := by rw [hy]; unfold badK; have h1 := HM.out.1; have h2 := HM.out.2; simp only [Bool.or_eq_false_iff, Bool.and_eq_false_imp, decide_eq_true_eq, decide_eq_false_iff_not]; omega
          subst e
          clear hy c1 c2 c3 c5 c4
          go_wp2_with (fail)
          go_meet
          exact ⟨rfl, rfl⟩
    case neg =>
      have d3 : ((m2 : Int) == 0) = false := beq_eq_false_iff_ne.2 (by omega)
      by_cases c5 : m1 = 0
      case pos =>
        have d5 : ((m1 : Int) == 0) = true := beq_iff_eq.2 (by omega)
        by_cases c6 : n = 0
        case pos =>
          have e : y = true := by rw [hy]; unfold badK; have h1 := HM.out.1; have h2 := HM.out.2; simp only [Bool.or_eq_true, Bool.and_eq_true, decide_eq_true_eq]; omega
          subst e
          have d6 : ((n : Int) == 0) = true := beq_iff_eq.2 (by omega)
          clear hy c1 c2 c3 c5 c6
          go_wp2_with (fail)
          go_meet
          exact ⟨rfl, rfl⟩
        case neg =>
          have e : y = false := by rw [hy]; unfold badK; have h1 := HM.out.1; have h2 := HM.out.2; simp only [Bool.or_eq_false_iff, Bool.and_eq_false_imp, decide_eq_true_eq, decide_eq_false_iff_not]; omega
          subst e
          have d6 : ((n : Int) == 0) = false := beq_eq_false_iff_ne.2 (by omega)
          clear hy c1 c2 c3 c5 c6
          go_wp2_with (fail)
          go_meet
          exact ⟨rfl, rfl⟩
      case neg =>
        have d5 : ((m1 : Int) == 0) = false := beq_eq_false_iff_ne.2 (by omega)
        have e : y = false := by rw [hy]; unfold badK; have h1 := HM.out.1; have h2 := HM.out.2; simp only [Bool.or_eq_false_iff, Bool.and_eq_false_imp, decide_eq_true_eq, decide_eq_false_iff_not]; omega
        subst e
        clear hy c1 c2 c3 c5
        go_wp2_with (fail)
        go_meet
        exact ⟨rfl, rfl⟩
  case rest =>
    obtain ⟨rfl, hwc⟩ := hcut
    have hwc := hwc.symm
    subst hwc
    cases y
    case true =>
      have E := Lib.hid (good_bad (s := s) (num := num) (by rw [HS.out.1, HS.out.2.1]; exact hy.symm))
      go_wp2
      go_ret
      exact ⟨by rw [E.out]; rfl, Below.refl _ _⟩
    have E := Lib.hid (good_rest (s := s) (num := num) (by rw [HS.out.1, HS.out.2.1]; exact hy.symm))
    have hn112 : n ≤ 112 := by
      have h1 := hy
      unfold badK at h1
      have h2 : decide (112 < n) = false := by
        cases h3 : decide (112 < n)
        · rfl
        · rw [h3] at h1; cases h1
      have := of_decide_eq_false h2
      omega
    clear hy a1 a2
    have g4 : BsAt n₀ w (some ⟨b, o, none⟩) (s.take 4) := by have h := bs_part H0.out 0 4 (by omega); simpa using h
    have hg4l : (s.take 4).length = 4 := by rw [List.length_take, hs]; rfl
    have K := get_t (some ⟨b, o, none⟩) c (s.take 4) w (by rw [hg4l]; decide) g4
    rw [hg4l] at K
    obtain ⟨gn, hgn⟩ : ∃ x, x = getL (s.take 4) := ⟨_, rfl⟩
    rw [← hgn] at K
    have hgl : gn < 4294967296 := by rw [hgn]; exact getL_lt4 hg4l
    have HG := Lib.hid (show sGen s = gn from hgn.symm)
    clear hgn hg4l g4
    have hc64 : (4 : Int) ≤ (c : Int) := by omega
    have hc128 : (128 : Int) ≤ (c : Int) := by omega
    go_wp2_with (fail)
    go_at_call 88
    refine K.mono ?_
    rintro e w2 ⟨rfl, hw2⟩
    have hw2 := hw2.symm
    subst hw2
    clear K
    by_cases c7 : 0 < gn
    case neg =>
      have E2 := Lib.hid (show gGood s num = false by rw [E.out, HG.out, decide_eq_false c7]; rfl)
      obtain rfl : gn = 0 := by omega
      clear c7
      go_upto_region 5 with (fail)
      go_quiet (fail)
      all_goals
        go_wp2
        go_ret
        exact ⟨by rw [E2.out]; rfl, by first | exact Below.refl _ _ | exact (Below.refl _ _).drew | exact below_drewN (Below.refl _ _) _⟩
    have d7 : decide (0 < (gn : Int)) = true := decide_eq_true (by omega)
    have d7n : decide (0 < gn) = true := decide_eq_true c7
    have d7p : 0 < gn := c7
    have hdl : ((s.drop 12).take n).length = n := by rw [List.length_take, List.length_drop, hs]; omega
    have hsd : sData s = (s.drop 12).take n := by unfold sData; rw [HS.out.1]
    have gd : BsAt n₀ w (some ⟨b, o + 12, none⟩) ((s.drop 12).take n) := bs_part H0.out 12 n (by omega)
    have hen : ∀ cc W, Below w.heap.size w W → Calls Try.prog 91 #[.int .u64 (gn : Nat), .int .i64 (num : Nat), .int .u8 (k : Nat), .slice (some ⟨b, o + 12, none⟩) ((12 + (n : Int)).toNat - 12) cc] W (fun e w' => ∃ B, e = .returned (.slice (some ⟨B, 0, none⟩) 128 128) ∧ Blk w' B 132 (bcells (enc gn num kd (sData s))).toArray ∧ W.heap.size ≤ B ∧ Below W.heap.size W w') := fun cc W hW => by
      have h := encode_t (some ⟨b, o + 12, none⟩) cc gn num kd _ W (by omega) hnum (by rw [hdl]; exact hn112) (gd.below hW)
      rw [hdl, enc1_eq _ _ _ (by rw [hdl]; exact hn112), ← hsd, ← HK.out] at h
      rw [show (12 + (n : Int)).toNat - 12 = n by omega]
      exact h
    have HEN := Lib.hid hen
    have heq : ∀ B W, Below w.heap.size w W → Blk W B 132 (bcells (enc gn num kd (sData s))).toArray → Calls Try.prog 90 #[.slice (some ⟨b, o, none⟩) 128 c, .slice (some ⟨B, 0, none⟩) 128 128] W (fun e w' => e = .returned (.bool (decide (s = enc gn num kd (sData s)))) ∧ w' = W) := fun B W hW hB => by
      have hel : (enc gn num kd (sData s)).length = 128 := enc_len _ _ _ (by rw [hsd, hdl]; exact hn112)
      have hb2 : BsAt n₀ W (some ⟨B, 0, none⟩) (enc gn num kd (sData s)) := by
        have h := blk_part (n₀ := n₀) hB rfl 0 128 (by omega)
        rw [List.drop_zero, List.take_of_length_le (by omega)] at h
        exact h
      have h := equal_t (some ⟨b, o, none⟩) (some ⟨B, 0, none⟩) c 128 s _ W (H0.out.below hW) hb2
      rw [hs, hel] at h
      exact h
    have HEQ := Lib.hid heq
    obtain ⟨yy, hyy⟩ : ∃ y, y = decide (s = enc gn num kd (sData s)) := ⟨_, rfl⟩
    have E2 := Lib.hid (show gGood s num = yy by rw [E.out, HG.out, decide_eq_true c7, HS.out.2.2, hyy]; rfl)
    have HYY := Lib.hid hyy
    clear hen heq gd hyy c7 hdl hsd
    have hsl2 : Below w.heap.size w w := Below.refl _ _
    have i12 : IntKind.i64.wrap (12 + (n : Int)) = 12 + n := IntWalk.i64_in _ (by omega)
    have n1 : (n : Int) ≤ 112 := by omega
    have n2 : (12 : Int) + n ≤ c := by omega
    have n3 : (0 : Int) ≤ (n : Int) := by omega
    have n4 : 12 + n ≤ c := by omega
    have n6 : ¬ c = 12 := by omega
    have n5 : (12 : Int) ≤ 12 + n := by omega
    have hbl2 := hbl.lt
    have hks : ∀ W : World, Below w.heap.size w W → W.cell? ⟨b, o + 10, none⟩ = some (.int .u8 (k : Int)) := fun W hb => (hb.cell (p := ⟨b, _, none⟩) hbl2).trans z10
    have HKS := Lib.hid hks
    clear hks
    go_upto_region 5 with (fail)
    go_region_held3 (fun W => W.cell? ⟨b, o + 10, none⟩ = some (.int .u8 (k : Int))) ((refine HKS.out _ ?_; repeat (first | with_reducible exact h9 | with_reducible exact Below.refl _ _ | refine Below.drew ?_)))
      (first | (go_at_call 91; refine (HEN.out _ _ (by repeat (first | with_reducible exact h9 | with_reducible exact Below.refl _ _ | refine Below.drew ?_))).mono ?_; rintro e w9 ⟨B, rfl, xB, lB, hb9⟩; have h9 : Below w.heap.size w w9 := Below.trans (by repeat (first | with_reducible exact Below.refl _ _ | refine Below.drew ?_)) (Below.mono hb9 (Nat.le_refl _))) | (go_at_call 90; refine (HEQ.out _ _ h9 xB).mono ?_; rintro e w10 ⟨rfl, hw10⟩; have hw10 := hw10.symm; subst hw10))
    all_goals
      go_wp2
      go_ret
      exact ⟨by rw [E2.out, HYY.out]; rfl, h9⟩
end Go.Proofs.Ytckeopidedoohaa
