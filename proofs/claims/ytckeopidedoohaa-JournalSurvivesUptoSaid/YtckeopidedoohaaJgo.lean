/-
  Whether a sector has the form of one of a record. Conditions: the sector lies as plain data.
-/
import Derived.Test.YtckeopidedoohaaJel
import Derived.Deep.QuietTactic
import Derived.Deep.RegionHeld3
import Derived.Deep.DeepCutAuto
namespace Go.Proofs.Ytckeopidedoohaa
open Go.RowKit
variable {n₀ : Nat}
attribute [local go_sem] Oper.semAt_some

/-- A part of bytes that lie somewhere. -/
theorem bs_part {w : World} {b o : Nat} {bs : Bs} (h : BsAt n₀ w (some ⟨b, o, none⟩) bs) (x n : Nat) (hn : x + n ≤ bs.length) : BsAt n₀ w (some ⟨b, o + x, none⟩) ((bs.drop x).take n) := fun h0 => by
  rw [List.length_take, List.length_drop] at h0
  obtain ⟨b', o', e, hl, hc⟩ := h (by omega)
  cases e
  refine ⟨b, o + x, rfl, hl, fun i hi => ?_⟩
  rw [List.length_take, List.length_drop] at hi
  rw [Nat.add_assoc, hc (x + i) (by omega)]
  congr 2
  simp only [List.getD_eq_getElem?_getD, List.getElem?_take, List.getElem?_drop]
  rw [if_pos (by omega)]
/-- What Good looks at first. -/
def badK (n k : Nat) : Bool := decide (112 < n) || decide (3 < k) || (decide (k / 2 % 2 = 0) && decide (n < 112)) || (decide (k % 2 = 0) && decide (n = 0))
theorem good_bad {s : Bs} {num : Nat} (h : badK (sLen s) (sKind s).toNat = true) : gGood s num = false := by
  cases hg : gGood s num
  · rfl
  · obtain ⟨h1, h2, h3, h4, -, -⟩ := good_parts hg
    unfold badK at h
    unfold sFin at h3
    unfold sBeg at h4
    simp only [Bool.or_eq_true, Bool.and_eq_true, decide_eq_true_eq] at h h3 h4
    omega
theorem good_rest {s : Bs} {num : Nat} (h : badK (sLen s) (sKind s).toNat = false) : gGood s num = (decide (0 < sGen s) && decide (s = enc (sGen s) num (sKind s) (sData s))) := by
  unfold badK at h
  simp only [Bool.or_eq_false_iff, Bool.and_eq_false_imp, decide_eq_true_eq, decide_eq_false_iff_not] at h
  obtain ⟨⟨⟨h1, h2⟩, h3⟩, h4⟩ := h
  unfold gGood sFin sBeg
  rw [decide_eq_true (show sLen s ≤ 112 by omega), decide_eq_true (show (sKind s).toNat ≤ 3 by omega)]
  have e3 : (decide ((sKind s).toNat / 2 % 2 = 1) || decide (112 ≤ sLen s)) = true := by
    simp only [Bool.or_eq_true, decide_eq_true_eq]
    omega
  have e4 : (decide ((sKind s).toNat % 2 = 1) || decide (0 < sLen s)) = true := by
    simp only [Bool.or_eq_true, decide_eq_true_eq]
    omega
  rw [e3, e4]
  rfl
theorem and_two {k : Nat} (h : k < 256) : bits .and .u8 (k : Int) 2 = ((k / 2 % 2 * 2 : Nat) : Int) := by
  have e : k &&& 2 = k / 2 % 2 * 2 := by
    apply Nat.eq_of_testBit_eq
    intro i
    rw [Nat.testBit_and, show (2 : Nat) = 2 ^ 1 from rfl, Nat.testBit_two_pow]
    have h2 : (k / 2 % 2 * 2 ^ 1).testBit i = (decide (1 = i) && decide (k / 2 % 2 = 1)) := by
      rcases Nat.mod_two_eq_zero_or_one (k / 2) with e | e <;> rw [e]
      · simp
      · rw [Nat.one_mul, Nat.testBit_two_pow]; simp
    rw [h2]
    by_cases hi : 1 = i
    · subst hi
      simp [Nat.testBit_succ, Nat.testBit_zero]
    · simp [hi]
  have := u8_and_nat k 2 h (by decide)
  rw [e] at this
  exact this
theorem and_one {k : Nat} (h : k < 256) : bits .and .u8 (k : Int) 1 = ((k % 2 : Nat) : Int) := by
  have := u8_and_nat k 1 h (by decide)
  rw [Nat.and_one_is_mod] at this
  exact this

set_option maxRecDepth 20000 in
set_option maxHeartbeats 4000000 in
theorem good_t (A : Option Addr) (c num : Nat) (s : Bs) (w : World) (hs : s.length = 128) (hc : 128 ≤ c) (hnum : num ≤ 100000) (h : BsAt n₀ w A s) :
    Calls Try.prog 105 #[.slice A 128 c, .int .i64 (num : Nat)] w fun e w' => e = .returned (.bool (gGood s num)) ∧ Below w.heap.size w w' := by
  obtain ⟨b, o, rfl, hbl, hcell⟩ := h (by omega)
  have z10 := hcell 10 (by omega)
  have z11 := hcell 11 (by omega)
  obtain ⟨kd, hkd⟩ : ∃ k, k = s.getD 10 0 := ⟨_, rfl⟩
  rw [← hkd] at z10
  obtain ⟨nl, hnl⟩ : ∃ n, n = s.getD 11 0 := ⟨_, rfl⟩
  rw [← hnl] at z11
  unfold u8v at z10 z11
  obtain ⟨n, hn⟩ : ∃ n, n = nl.toNat := ⟨_, rfl⟩
  obtain ⟨k, hk⟩ : ∃ k, k = kd.toNat := ⟨_, rfl⟩
  rw [← hk] at z10
  rw [← hn] at z11
  have hkl : k < 256 := by rw [hk]; exact kd.toNat_lt
  have hnn : n < 256 := by rw [hn]; exact nl.toNat_lt
  have hsn : sLen s = n := by rw [hn, hnl]; rfl
  have hsk : (sKind s).toNat = k := by rw [hk, hkd]; rfl
  have hskd : sKind s = kd := hkd.symm
  obtain ⟨m2, hm2⟩ : ∃ m : Nat, m = k / 2 % 2 * 2 := ⟨_, rfl⟩
  obtain ⟨m1, hm1⟩ : ∃ m : Nat, m = k % 2 := ⟨_, rfl⟩
  have a2 : bits .and .u8 (k : Int) 2 = (m2 : Int) := by rw [hm2]; exact and_two hkl
  have a1 : bits .and .u8 (k : Int) 1 = (m1 : Int) := by rw [hm1]; exact and_one hkl
  have HS := Lib.hid (And.intro hsn (And.intro hsk hskd))
  have H0 := Lib.hid h
  have HM := Lib.hid (And.intro hm2 hm1)
  have HK := Lib.hid hk
  clear hcell hkd hnl hn hk hsn hsk hskd hm2 hm1 h
  have k0 : (k : Int) ≤ 255 := by omega
  have n0 : (n : Int) ≤ 255 := by omega
  go_enter Try.func105, Try.ntmps105
  go_upto_region 2 with (fail)
  obtain ⟨y, hy⟩ : ∃ y, y = badK n k := ⟨_, rfl⟩
  have HY := Lib.hid hy
  go_cut [40] (fun s40 wx => s40 = .bool y ∧ wx = w)
  case first =>
    by_cases c1 : 112 < n
    case pos =>
      have e : y = true := by rw [hy]; unfold badK; rw [decide_eq_true c1]; rfl
      subst e
      have d1 : decide (112 < (n : Int)) = true := decide_eq_true (by omega)
      clear hy c1
      go_wp2_with (fail)
      go_meet
      exact ⟨rfl, rfl⟩
    have d1 : decide (112 < (n : Int)) = false := decide_eq_false (by omega)
    by_cases c2 : 3 < k
    case pos =>
      have e : y = true := by rw [hy]; unfold badK; rw [decide_eq_true c2]; simp
      subst e
      have d2 : decide (3 < (k : Int)) = true := decide_eq_true (by omega)
      clear hy c1 c2
      go_wp2_with (fail)
      go_meet
      exact ⟨rfl, rfl⟩
    have d2 : decide (3 < (k : Int)) = false := decide_eq_false (by omega)
    by_cases c3 : m2 = 0
    case pos =>
      have d3 : ((m2 : Int) == 0) = true := beq_iff_eq.2 (by omega)
      by_cases c4 : n < 112
      case pos =>
        have d4 : decide ((n : Int) < 112) = true := decide_eq_true (by omega)
        have e : y = true := by rw [hy]; unfold badK; have h1 := HM.out.1; have h2 := HM.out.2; simp only [Bool.or_eq_true, Bool.and_eq_true, decide_eq_true_eq]; omega
        subst e
        clear hy c1 c2 c3 c4
        go_wp2_with (fail)
        go_meet
        exact ⟨rfl, rfl⟩
      case neg =>
        have d4 : decide ((n : Int) < 112) = false := decide_eq_false (by omega)
        by_cases c5 : m1 = 0
        case pos =>
          have d5 : ((m1 : Int) == 0) = true := beq_iff_eq.2 (by omega)
          by_cases c6 : n = 0
          case pos =>
            have e : y = true := by rw [hy]; unfold badK; have h1 := HM.out.1; have h2 := HM.out.2; simp only [Bool.or_eq_true, Bool.and_eq_true, decide_eq_true_eq]; omega
            subst e
            have d6 : ((n : Int) == 0) = true := beq_iff_eq.2 (by omega)
            clear hy c1 c2 c3 c5 c6 c4
            go_wp2_with (fail)
            go_meet
            exact ⟨rfl, rfl⟩
          case neg =>
            have e : y = false := by rw [hy]; unfold badK; have h1 := HM.out.1; have h2 := HM.out.2; simp only [Bool.or_eq_false_iff, Bool.and_eq_false_imp, decide_eq_true_eq, decide_eq_false_iff_not]; omega
            subst e
            have d6 : ((n : Int) == 0) = false := beq_eq_false_iff_ne.2 (by omega)
            clear hy c1 c2 c3 c5 c6 c4
            go_wp2_with (fail)
            go_meet
            exact ⟨rfl, rfl⟩
        case neg =>
          have d5 : ((m1 : Int) == 0) = false := beq_eq_false_iff_ne.2 (by omega)
          have e : y = false := by rw [hy]; unfold badK; have h1 := HM.out.1; have h2 := HM.out.2; simp only [Bool.or_eq_false_iff, Bool.and_eq_false_imp, decide_eq_true_eq, decide_eq_false_iff_not]; omega
          subst e
          clear hy c1 c2 c3 c5 c4
          go_wp2_with (fail)
          go_meet
          exact ⟨rfl, rfl⟩
    case neg =>
      have d3 : ((m2 : Int) == 0) = false := beq_eq_false_iff_ne.2 (by omega)
      by_cases c5 : m1 = 0
      case pos =>
        have d5 : ((m1 : Int) == 0) = true := beq_iff_eq.2 (by omega)
        by_cases c6 : n = 0
        case pos =>
          have e : y = true := by rw [hy]; unfold badK; have h1 := HM.out.1; have h2 := HM.out.2; simp only [Bool.or_eq_true, Bool.and_eq_true, decide_eq_true_eq]; omega
          subst e
          have d6 : ((n : Int) == 0) = true := beq_iff_eq.2 (by omega)
          clear hy c1 c2 c3 c5 c6
          go_wp2_with (fail)
          go_meet
          exact ⟨rfl, rfl⟩
        case neg =>
          have e : y = false := by rw [hy]; unfold badK; have h1 := HM.out.1; have h2 := HM.out.2; simp only [Bool.or_eq_false_iff, Bool.and_eq_false_imp, decide_eq_true_eq, decide_eq_false_iff_not]; omega
          subst e
          have d6 : ((n : Int) == 0) = false := beq_eq_false_iff_ne.2 (by omega)
          clear hy c1 c2 c3 c5 c6
          go_wp2_with (fail)
          go_meet
          exact ⟨rfl, rfl⟩
      case neg =>
        have d5 : ((m1 : Int) == 0) = false := beq_eq_false_iff_ne.2 (by omega)
        have e : y = false := by rw [hy]; unfold badK; have h1 := HM.out.1; have h2 := HM.out.2; simp only [Bool.or_eq_false_iff, Bool.and_eq_false_imp, decide_eq_true_eq, decide_eq_false_iff_not]; omega
        subst e
        clear hy c1 c2 c3 c5
        go_wp2_with (fail)
        go_meet
        exact ⟨rfl, rfl⟩
  case rest =>
    obtain ⟨rfl, hwc⟩ := hcut
    have hwc := hwc.symm
    subst hwc
    cases y
    case true =>
      have E := Lib.hid (good_bad (s := s) (num := num) (by rw [HS.out.1, HS.out.2.1]; exact hy.symm))
      go_wp2
      go_ret
      exact ⟨by rw [E.out]; rfl, Below.refl _ _⟩
    have E := Lib.hid (good_rest (s := s) (num := num) (by rw [HS.out.1, HS.out.2.1]; exact hy.symm))
    have hn112 : n ≤ 112 := by
      have h1 := hy
      unfold badK at h1
      have h2 : decide (112 < n) = false := by
        cases h3 : decide (112 < n)
        · rfl
        · rw [h3] at h1; cases h1
      have := of_decide_eq_false h2
      omega
    clear hy a1 a2
    have g4 : BsAt n₀ w (some ⟨b, o, none⟩) (s.take 4) := by have h := bs_part H0.out 0 4 (by omega); simpa using h
    have hg4l : (s.take 4).length = 4 := by rw [List.length_take, hs]; rfl
    have K := get_t (some ⟨b, o, none⟩) c (s.take 4) w (by rw [hg4l]; decide) g4
    rw [hg4l] at K
    obtain ⟨gn, hgn⟩ : ∃ x, x = getL (s.take 4) := ⟨_, rfl⟩
    rw [← hgn] at K
    have hgl : gn < 4294967296 := by rw [hgn]; exact getL_lt4 hg4l
    have HG := Lib.hid (show sGen s = gn from hgn.symm)
    clear hgn hg4l g4
    have hc64 : (4 : Int) ≤ (c : Int) := by omega
    have hc128 : (128 : Int) ≤ (c : Int) := by omega
    go_wp2_with (fail)
    go_at_call 88
    refine K.mono ?_
    rintro e w2 ⟨rfl, hw2⟩
    have hw2 := hw2.symm
    subst hw2
    clear K
    by_cases c7 : 0 < gn
    case neg =>
      have E2 := Lib.hid (show gGood s num = false by rw [E.out, HG.out, decide_eq_false c7]; rfl)
      obtain rfl : gn = 0 := by omega
      clear c7
      go_upto_region 5 with (fail)
      go_quiet (fail)
      all_goals
        go_wp2
        go_ret
        exact ⟨by rw [E2.out]; rfl, by first | exact Below.refl _ _ | exact (Below.refl _ _).drew | exact below_drewN (Below.refl _ _) _⟩
    have d7 : decide (0 < (gn : Int)) = true := decide_eq_true (by omega)
    have d7n : decide (0 < gn) = true := decide_eq_true c7
    have d7p : 0 < gn := c7
    have hdl : ((s.drop 12).take n).length = n := by rw [List.length_take, List.length_drop, hs]; omega
    have hsd : sData s = (s.drop 12).take n := by unfold sData; rw [HS.out.1]
    have gd : BsAt n₀ w (some ⟨b, o + 12, none⟩) ((s.drop 12).take n) := bs_part H0.out 12 n (by omega)
    have hen : ∀ cc W, Below w.heap.size w W → Calls Try.prog 91 #[.int .u64 (gn : Nat), .int .i64 (num : Nat), .int .u8 (k : Nat), .slice (some ⟨b, o + 12, none⟩) ((12 + (n : Int)).toNat - 12) cc] W (fun e w' => ∃ B, e = .returned (.slice (some ⟨B, 0, none⟩) 128 128) ∧ Blk w' B 132 (bcells (enc gn num kd (sData s))).toArray ∧ W.heap.size ≤ B ∧ Below W.heap.size W w') := fun cc W hW => by
      have h := encode_t (some ⟨b, o + 12, none⟩) cc gn num kd _ W (by omega) hnum (by rw [hdl]; exact hn112) (gd.below hW)
      rw [hdl, enc1_eq _ _ _ (by rw [hdl]; exact hn112), ← hsd, ← HK.out] at h
      rw [show (12 + (n : Int)).toNat - 12 = n by omega]
      exact h
    have HEN := Lib.hid hen
    have heq : ∀ B W, Below w.heap.size w W → Blk W B 132 (bcells (enc gn num kd (sData s))).toArray → Calls Try.prog 90 #[.slice (some ⟨b, o, none⟩) 128 c, .slice (some ⟨B, 0, none⟩) 128 128] W (fun e w' => e = .returned (.bool (decide (s = enc gn num kd (sData s)))) ∧ w' = W) := fun B W hW hB => by
      have hel : (enc gn num kd (sData s)).length = 128 := enc_len _ _ _ (by rw [hsd, hdl]; exact hn112)
      have hb2 : BsAt n₀ W (some ⟨B, 0, none⟩) (enc gn num kd (sData s)) := by
        have h := blk_part (n₀ := n₀) hB rfl 0 128 (by omega)
        rw [List.drop_zero, List.take_of_length_le (by omega)] at h
        exact h
      have h := equal_t (some ⟨b, o, none⟩) (some ⟨B, 0, none⟩) c 128 s _ W (H0.out.below hW) hb2
      rw [hs, hel] at h
      exact h
    have HEQ := Lib.hid heq
    obtain ⟨yy, hyy⟩ : ∃ y, y = decide (s = enc gn num kd (sData s)) := ⟨_, rfl⟩
    have E2 := Lib.hid (show gGood s num = yy by rw [E.out, HG.out, decide_eq_true c7, HS.out.2.2, hyy]; rfl)
    have HYY := Lib.hid hyy
    clear hen heq gd hyy c7 hdl hsd
    have hsl2 : Below w.heap.size w w := Below.refl _ _
    have i12 : IntKind.i64.wrap (12 + (n : Int)) = 12 + n := IntWalk.i64_in _ (by omega)
    have n1 : (n : Int) ≤ 112 := by omega
    have n2 : (12 : Int) + n ≤ c := by omega
    have n3 : (0 : Int) ≤ (n : Int) := by omega
    have n4 : 12 + n ≤ c := by omega
    have n6 : ¬ c = 12 := by omega
    have n5 : (12 : Int) ≤ 12 + n := by omega
    have hbl2 := hbl.lt
    have hks : ∀ W : World, Below w.heap.size w W → W.cell? ⟨b, o + 10, none⟩ = some (.int .u8 (k : Int)) := fun W hb => (hb.cell (p := ⟨b, _, none⟩) hbl2).trans z10
    have HKS := Lib.hid hks
    clear hks
    go_upto_region 5 with (fail)
    go_region_held3 (fun W => W.cell? ⟨b, o + 10, none⟩ = some (.int .u8 (k : Int))) ((refine HKS.out _ ?_; repeat (first | with_reducible exact h9 | with_reducible exact Below.refl _ _ | refine Below.drew ?_)))
      (first | (go_at_call 91; refine (HEN.out _ _ (by repeat (first | with_reducible exact h9 | with_reducible exact Below.refl _ _ | refine Below.drew ?_))).mono ?_; rintro e w9 ⟨B, rfl, xB, lB, hb9⟩; have h9 : Below w.heap.size w w9 := Below.trans (by repeat (first | with_reducible exact Below.refl _ _ | refine Below.drew ?_)) (Below.mono hb9 (Nat.le_refl _))) | (go_at_call 90; refine (HEQ.out _ _ h9 xB).mono ?_; rintro e w10 ⟨rfl, hw10⟩; have hw10 := hw10.symm; subst hw10))
    all_goals
      go_wp2
      go_ret
      exact ⟨by rw [E2.out, HYY.out]; rfl, h9⟩
end Go.Proofs.Ytckeopidedoohaa
