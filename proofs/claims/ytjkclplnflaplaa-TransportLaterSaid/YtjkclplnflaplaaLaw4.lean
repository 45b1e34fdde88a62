/-
  The law TransportLater walked: it answers true.
-/
import Derived.Test.YtjkclplnflaplaaLat
import Derived.Test.YtjkclplnflaplaaApp
namespace Go.Proofs.Ytjkclplnflaplaa
open Go.RowKit
attribute [local go_sem] Oper.semAt_some

theorem info40 : (Try.prog.info? 40).map (fun i => (i.zero, i.size, i.bytes)) = some (some (.agg #[.int .i64 0, .int .i64 0, .int .i64 0, .int .i64 0]), 4, 32) := by kernel_rfl
theorem own_slice4 {w : World} {base : Nat} {e : TypeId} {size : Nat} {v : Value} {n : Nat} {xs : List Value} (h : w.ownsRow base e size v n xs) : ∃ A c, v = .slice A n c ∧ n ≤ c := by
  rcases h.2 with ⟨rfl, rfl⟩ | ⟨g, cap, cur, rfl, _, _, hnc, _⟩
  · exact ⟨none, 0, rfl, Nat.le_refl _⟩
  · exact ⟨_, _, rfl, hnc⟩
theorem own_some4 {w : World} {base : Nat} {e : TypeId} {size : Nat} {A : Option Addr} {n c : Nat} {xs : List Value} (h : w.ownsRow base e size (.slice A n c) n xs) (hn : 0 < n) : ∃ g, A = some ⟨g, 0, none⟩ ∧ base ≤ g ∧ g < w.heap.size := by
  rcases h.2 with ⟨h1, _⟩ | ⟨g, cap, cur, hv, hb, hh, _⟩
  · cases h1
    omega
  · have hA : A = some ⟨g, 0, none⟩ := by injection hv
    exact ⟨g, hA, hb, (Array.getElem?_eq_some_iff.1 hh).1⟩
theorem own_base4 {w : World} {base : Nat} {e : TypeId} {size : Nat} {v : Value} {n : Nat} {xs : List Value} (h : w.ownsRow base e size v n xs) : ∀ k, v.ownBlock = some k → base ≤ k := fun k hk => (h.lt k hk).1
theorem ordc_len (l : List Ord) : (ordc l).length = l.length * 4 := by
  induction l with
  | nil => rfl
  | cons x xs ih => simp only [ordc, List.length_cons, ih]; omega
theorem ordc_one (l : List Ord) : ∀ u ∈ ordc l, u.oneCell' = true := by
  induction l with
  | nil => intro u hu; cases hu
  | cons x xs ih =>
    intro u hu
    simp only [ordc, List.mem_cons] at hu
    rcases hu with rfl | rfl | rfl | rfl | hu
    · rfl
    · rfl
    · rfl
    · rfl
    · exact ih u hu
theorem ordc_append (a b : List Ord) : ordc (a ++ b) = ordc a ++ ordc b := by
  induction a with
  | nil => rfl
  | cons x xs ih => simp only [List.cons_append, ordc, ih]
theorem ords_src {w w' : World} {A : Option Addr} {l : List Ord} (h : SlAt w A l) (hb : Below w.heap.size w w') : 0 < l.length → ∃ ad, A = some ad ∧ ∀ j u, (ordc l)[j]? = some u → w'.cell? (ad.add j) = some u := fun hp => by
  obtain ⟨b, o, rfl, hm⟩ := h hp
  have hm := hm.below hb
  refine ⟨_, rfl, fun j u hu => ?_⟩
  have hj : j < l.length * 4 := by
    rw [← ordc_len]
    exact (List.getElem?_eq_some_iff.1 hu).1
  have hg := ordc_get l (j / 4) (by omega)
  have e : (⟨b, o, none⟩ : Addr).add j = ⟨b, o + j, none⟩ := by
    unfold Addr.add
    split
    · rename_i h0; rw [h0]; rfl
    · rfl
  rw [e]
  rcases (show j % 4 = 0 ∨ j % 4 = 1 ∨ j % 4 = 2 ∨ j % 4 = 3 by omega) with hr | hr | hr | hr
  · rw [show j = j / 4 * 4 by omega] at hu ⊢
    rw [hg.1] at hu
    rw [hm.c0 _ (by omega), ← hu]
  · rw [show j = j / 4 * 4 + 1 by omega] at hu ⊢
    rw [hg.2.1] at hu
    rw [← Nat.add_assoc, hm.c1 _ (by omega), ← hu]
  · rw [show j = j / 4 * 4 + 2 by omega] at hu ⊢
    rw [hg.2.2.1] at hu
    rw [← Nat.add_assoc, hm.c2 _ (by omega), ← hu]
  · rw [show j = j / 4 * 4 + 3 by omega] at hu ⊢
    rw [hg.2.2.2] at hu
    rw [← Nat.add_assoc, hm.c3 _ (by omega), ← hu]
theorem own_SlAt {w : World} {base : Nat} {A : Option Addr} {n c : Nat} {l : List Ord} (h : w.ownsRow base 40 4 (.slice A n c) n (ordc l)) (hn : n = l.length) : SlAt w A l := fun h0 => by
  obtain ⟨g, rfl, _, hlt⟩ := own_some4 h (by omega)
  refine ⟨g, 0, rfl, hlt, fun i hi => ?_, fun i hi => ?_, fun i hi => ?_, fun i hi => ?_⟩
  · rw [Nat.zero_add, h.cellAt _ (by omega)]; exact (ordc_get l i hi).1
  · rw [Nat.zero_add, h.cellAt _ (by omega)]; exact (ordc_get l i hi).2.1
  · rw [Nat.zero_add, h.cellAt _ (by omega)]; exact (ordc_get l i hi).2.2.1
  · rw [Nat.zero_add, h.cellAt _ (by omega)]; exact (ordc_get l i hi).2.2.2
/-- The first k orders come later. -/
def mixL (d : Int) (l : List Ord) (k : Nat) : List Ord := (l.take k).map (shO d) ++ l.drop k
theorem mixL_len (d : Int) (l : List Ord) (k : Nat) : (mixL d l k).length = l.length := by simp [mixL]; omega
theorem mixL_all (d : Int) (l : List Ord) : mixL d l l.length = shL d l := by simp [mixL, shL]
theorem mixL_set (d : Int) (l : List Ord) (k : Nat) (h : k < l.length) : ordc (mixL d l (k + 1)) = (ordc (mixL d l k)).set (k * 4) (.int .i64 (oT l k + d)) := by
  have hd : l.drop k = l[k] :: l.drop (k + 1) := List.drop_eq_getElem_cons h
  have e1 : ((l.take k).map (shO d)).length = k := by simp; omega
  unfold mixL
  rw [List.take_succ_eq_append_getElem h, List.map_append, hd, List.append_assoc]
  simp only [ordc_append]
  rw [List.set_append_right _ _ (by rw [ordc_len, e1]; omega), ordc_len, e1, Nat.sub_self]
  have e2 : oT l k = l[k].at_ := by unfold oT; simp [List.getD, h]
  rw [e2]
  rfl
theorem mixL_at (d : Int) (l : List Ord) (k : Nat) (h : k < l.length) : (ordc (mixL d l k))[k * 4]? = some (.int .i64 (oT l k)) := by
  rw [(ordc_get _ k (by rw [mixL_len]; exact h)).1]
  congr 2
  unfold oT mixL
  simp [List.getD, List.getElem?_append, List.getElem?_drop]
  rw [if_neg (by omega)]
  congr 3
  omega

def LaterW (w3 : World) (d : Int) (l : List Ord) (A : Option Addr) (c : Nat) (i : Value) (wr : World) : Prop :=
  ∃ k : Nat, k ≤ l.length ∧ i = .int .i64 k ∧ wr.ownsRow w3.heap.size 40 4 (.slice A l.length c) l.length (ordc (mixL d l k)) ∧ Below w3.heap.size w3 wr

set_option maxRecDepth 20000 in
set_option maxHeartbeats 4000000 in
theorem later_t (A : Option Addr) (c : Nat) (l : List Ord) (t d : Int) (w : World) (h : SlAt w A l) (hcap : l.length ≤ c) (hmax : l.length ≤ maxLen) (ht64 : -9223372036854775808 ≤ t ∧ t ≤ 9223372036854775807) (hd64 : -9223372036854775808 ≤ d ∧ d ≤ 9223372036854775807) :
    Calls Try.prog 7 #[.slice A l.length c, .int .i64 t, .int .i64 d] w (Yes w) := by
  by_cases hl : l.length ≤ 300
  case neg =>
    have hf : decide (l.length ≤ 300) = false := decide_eq_false hl
    clear hl
    go_enter Try.func7, Try.ntmps7
    go_wp2_with (first
      | (go_at_call 10; refine (sane_t _).mono ?_; rintro e w1 ⟨rfl, hw1⟩)
      | (go_at_call 11; refine (few_t _ _ _ _).mono ?_; rintro e w2 ⟨rfl, hw2⟩; rw [hf]; have b2 := hw1.trans (hw2.mono hw1.size)))
    go_ret
    exact ⟨rfl, b2⟩
  have hn : l.length ≤ 1000000 := by omega
  have hf : decide (l.length ≤ 300) = true := decide_eq_true hl
  clear hl
  by_cases hc : gCheck l = 0
  case neg =>
    have d : (gCheck l != 0) = true := bne_iff_ne.2 hc
    clear hc
    go_enter Try.func7, Try.ntmps7
    go_wp2_with (first
      | (go_at_call 10; refine (sane_t _).mono ?_; rintro e w1 ⟨rfl, hw1⟩; have h1 := h.below hw1)
      | (go_at_call 11; refine (few_t _ _ _ _).mono ?_; rintro e w2 ⟨rfl, hw2⟩; rw [hf]; have h2 := h1.below hw2; have b2 := hw1.trans (hw2.mono hw1.size))
      | (go_at_call 13; refine (rcheck_t _ _ l _ (by omega) h2).mono ?_; rintro e w3 ⟨rfl, hw3⟩; have h3 := h2.below hw3; have b3 := b2.trans (hw3.mono b2.size)))
    go_ret
    exact ⟨rfl, b3⟩
  have HC := Lib.hid hc
  clear hc
  by_cases r0 : t < 0
  case pos =>
    have d0 : decide (t < 0) = true := decide_eq_true r0
    clear r0
    go_enter Try.func7, Try.ntmps7
    go_wp2_with (first
      | (go_at_call 10; refine (sane_t _).mono ?_; rintro e w1 ⟨rfl, hw1⟩; have h1 := h.below hw1)
      | (go_at_call 11; refine (few_t _ _ _ _).mono ?_; rintro e w2 ⟨rfl, hw2⟩; rw [hf]; have h2 := h1.below hw2; have b2 := hw1.trans (hw2.mono hw1.size))
      | (go_at_call 13; refine (rcheck_t _ _ l _ (by omega) h2).mono ?_; rintro e w3 ⟨rfl, hw3⟩; rw [HC.out]; have h3 := h2.below hw3; have b3 := b2.trans (hw3.mono b2.size)))
    go_ret
    exact ⟨rfl, b3⟩
  have d0 : decide (t < 0) = false := decide_eq_false r0
  by_cases r1 : d < 0
  case pos =>
    have d1 : decide (d < 0) = true := decide_eq_true r1
    clear r1
    go_enter Try.func7, Try.ntmps7
    go_wp2_with (first
      | (go_at_call 10; refine (sane_t _).mono ?_; rintro e w1 ⟨rfl, hw1⟩; have h1 := h.below hw1)
      | (go_at_call 11; refine (few_t _ _ _ _).mono ?_; rintro e w2 ⟨rfl, hw2⟩; rw [hf]; have h2 := h1.below hw2; have b2 := hw1.trans (hw2.mono hw1.size))
      | (go_at_call 13; refine (rcheck_t _ _ l _ (by omega) h2).mono ?_; rintro e w3 ⟨rfl, hw3⟩; rw [HC.out]; have h3 := h2.below hw3; have b3 := b2.trans (hw3.mono b2.size)))
    go_ret
    exact ⟨rfl, b3⟩
  have d1 : decide (d < 0) = false := decide_eq_false r1
  by_cases r2 : 1099511627776 < t
  case pos =>
    have d2 : decide (1099511627776 < t) = true := decide_eq_true r2
    clear r2
    go_enter Try.func7, Try.ntmps7
    go_wp2_with (first
      | (go_at_call 10; refine (sane_t _).mono ?_; rintro e w1 ⟨rfl, hw1⟩; have h1 := h.below hw1)
      | (go_at_call 11; refine (few_t _ _ _ _).mono ?_; rintro e w2 ⟨rfl, hw2⟩; rw [hf]; have h2 := h1.below hw2; have b2 := hw1.trans (hw2.mono hw1.size))
      | (go_at_call 13; refine (rcheck_t _ _ l _ (by omega) h2).mono ?_; rintro e w3 ⟨rfl, hw3⟩; rw [HC.out]; have h3 := h2.below hw3; have b3 := b2.trans (hw3.mono b2.size)))
    go_ret
    exact ⟨rfl, b3⟩
  have d2 : decide (1099511627776 < t) = false := decide_eq_false r2
  by_cases r3 : 1099511627776 - t < d
  case pos =>
    have d3 : decide (1099511627776 - t < d) = true := decide_eq_true r3
    clear r3
    go_enter Try.func7, Try.ntmps7
    go_wp2_with (first
      | (go_at_call 10; refine (sane_t _).mono ?_; rintro e w1 ⟨rfl, hw1⟩; have h1 := h.below hw1)
      | (go_at_call 11; refine (few_t _ _ _ _).mono ?_; rintro e w2 ⟨rfl, hw2⟩; rw [hf]; have h2 := h1.below hw2; have b2 := hw1.trans (hw2.mono hw1.size))
      | (go_at_call 13; refine (rcheck_t _ _ l _ (by omega) h2).mono ?_; rintro e w3 ⟨rfl, hw3⟩; rw [HC.out]; have h3 := h2.below hw3; have b3 := b2.trans (hw3.mono b2.size)))
    go_ret
    exact ⟨rfl, b3⟩
  have d3 : decide (1099511627776 - t < d) = false := decide_eq_false r3
  have t0 : 0 ≤ t := by omega
  have t1 : t ≤ 1099511627776 := by omega
  have u0 : 0 ≤ d := by omega
  have u1 : d ≤ 1099511627776 - t := by omega
  have hlen := len_of_check HC.out
  have hgood := good_of_check HC.out
  have HR := Lib.hid (fun k hk => (hgood.1 k hk : Right _))
  obtain ⟨i0, hi0, hz0, hz1, hz2⟩ := info_parts info40
  clear r0 r1 r2 r3 hgood hmax
  go_enter Try.func7, Try.ntmps7
  go_wp2_with (first
    | (go_at_call 10; refine (sane_t _).mono ?_; rintro e w1 ⟨rfl, hw1⟩; have h1 := h.below hw1)
    | (go_at_call 11; refine (few_t _ _ _ _).mono ?_; rintro e w2 ⟨rfl, hw2⟩; rw [hf]; have h2 := h1.below hw2; have b2 := hw1.trans (hw2.mono hw1.size))
    | (go_at_call 13; refine (rcheck_t _ _ l _ (by omega) h2).mono ?_; rintro e w3 ⟨rfl, hw3⟩; rw [HC.out]; have h3 := h2.below hw3; have b3 := b2.trans (hw3.mono b2.size); have ow := World.ownsRow_lit (base := w3.heap.size) (e := 40) (size := 4) w3 #[] 0 (Nat.le_refl _) (by simp [maxLen]) rfl; have hal : Below w3.heap.size w3 (w3.alloc (.cells #[] 40)) := (Below.refl _ _).alloc (Nat.le_refl _) _)
    | (at_builtin; refine wpList_append_any (by rfl) (.tmp 45) (.tmp 46) 22 rfl w3.heap.size 40 i0 (.agg #[.int .i64 0, .int .i64 0, .int .i64 0, .int .i64 0]) 4 32 Try.underlying22 hi0 hz0 hz1 hz2 rfl (by decide) _ 0 [] rfl ow A l.length c (ordc l) rfl (ordc_len l) (ords_src h3 hal) (ordc_one l) (by simp [maxLen]; omega) (by omega) (by simp) ?_; intro v7 w7 hown7 hgrow7; simp only [Nat.zero_add, List.nil_append] at hown7; obtain ⟨A7, c7, rfl, hc7⟩ := own_slice4 hown7; have b7 := hal.grown hgrow7 (by simp) (own_base4 ow)))
  clear h h1 h2 hw1 hw2 hw3 b2 ow hal hgrow7
  go_loopw [50] (fun i wr => LaterW w3 d l A7 c7 i wr) (fun i _ => l.length - (intOf i).toNat)
  case atStart => exact ⟨0, by omega, rfl, by simpa [mixL] using hown7, b7⟩
  case round =>
    obtain ⟨k, hk, rfl, hown, hwr⟩ := hrel
    by_cases hlt : k < l.length
    case pos =>
      obtain ⟨g, rfl, hg0, hg1⟩ := own_some4 hown (by omega)
      have g0 := hown.cellAt (k * 4) (by omega)
      rw [mixL_at d l k hlt] at g0
      have f0 := hown.frozenAt (k * 4)
      have hst := (hown.stored (k * 4) (.int .i64 (oT l k + d))).1
      rw [← mixL_set d l k hlt] at hst
      have hR := HR.out k hlt
      obtain ⟨xt, ht⟩ : ∃ x, x = oT l k := ⟨_, rfl⟩
      have hx0 : 0 ≤ xt := by rw [ht]; exact hR.1
      have hx1 : xt ≤ 1099511627776 := by rw [ht]; exact hR.2.1
      rw [← ht] at g0 hst
      have HST := Lib.hid hst
      clear hst ht hR hown hown7 b7 h3 b3
      go_wp2
      go_roundw
      case rel => exact ⟨k + 1, by omega, by go_num, HST.out, hwr.setCell (p := ⟨g, k * 4, none⟩) hg0 _⟩
      case measure => simp [intOf]; omega
    case neg =>
      obtain rfl : k = l.length := by omega
      rw [mixL_all] at hown
      clear hown7 b7 hlt
      have sl := own_SlAt hown (shL_len d l).symm
      have hsl := shL_len d l
      have b8 := b3.trans (hwr.mono b3.size)
      have l8 := h3.below hwr
      have KC := fun (cc : Nat) (W : World) (hw : SlAt W A7 (shL d l)) => rcheck_t A7 cc (shL d l) W (by omega) hw
      rw [hsl] at KC
      clear hown hwr h3
      go_wp2_with (fail)
      go_at_call 13
      refine (KC _ _ sl).mono ?_
      rintro e w4 ⟨rfl, hw4⟩
      have b4 := b8.trans (hw4.mono b8.size)
      have l4 := l8.below hw4
      have s4 := sl.below hw4
      clear KC b8 l8 sl hw4 b3
      by_cases hc2 : gCheck (shL d l) = 0
      case neg =>
        have e : (gCheck (shL d l) != 0) = true := bne_iff_ne.2 hc2
        clear hc2
        go_wp2
        go_ret
        exact ⟨rfl, b4⟩
      have HC2 := Lib.hid hc2
      rw [hc2]
      have hs0 := gSong_of HC.out (t := t) t0 t1
      have hs1 := later_song HC.out hc2 t0 u0 (by omega)
      rw [hs0] at hs1
      obtain ⟨p, hp⟩ : ∃ x, x = (atS l t).pos := ⟨_, rfl⟩
      obtain ⟨r, hr⟩ : ∃ x, x = (atS l t).roll := ⟨_, rfl⟩
      obtain ⟨q, hq⟩ : ∃ x, x = recB (atS l t) := ⟨_, rfl⟩
      rw [← hp, ← hr, ← hq] at hs0 hs1
      have H0 := Lib.hid hs0
      have H1 := Lib.hid hs1
      have KS := fun (cc : Nat) (W : World) (hw : SlAt W A7 (shL d l)) => songIs (c := cc) (by omega) H1.out hw
      rw [hsl] at KS
      clear hs0 hs1 hp hr hq hc2
      by_cases hz : d = 0
      · subst hz
        rw [Int.add_zero] at KS
        clear hsl
        go_wp2_with (fail)
        go_at_call 14
        refine (songIs hn H0.out l4).mono ?_
        rintro e w5 ⟨rfl, hw5⟩
        have b5 := b4.trans (hw5.mono b4.size)
        have s5 := s4.below hw5
        clear l4 s4 hw5 b4
        go_wp2_with (go_at_call 14; refine (KS _ _ s5).mono ?_; rintro e w6 ⟨rfl, hw6⟩; have b6 := b5.trans (hw6.mono b5.size))
        go_ret
        exact ⟨rfl, b6⟩
      · have hs2 := later_early HC.out HC2.out (by omega) (by omega)
        have H2 := Lib.hid hs2
        have KE := fun (cc : Nat) (W : World) (hw : SlAt W A7 (shL d l)) => songIs (c := cc) (by omega) H2.out hw
        rw [hsl] at KE
        have dz : (d == 0) = false := beq_eq_false_iff_ne.2 hz
        have u2 : 1 ≤ d := by omega
        clear hs2 hz hsl
        go_wp2_with (fail)
        go_at_call 14
        refine (songIs hn H0.out l4).mono ?_
        rintro e w5 ⟨rfl, hw5⟩
        have b5 := b4.trans (hw5.mono b4.size)
        have s5 := s4.below hw5
        clear l4 s4 hw5 b4
        go_wp2_with (fail)
        go_at_call 14
        refine (KS _ _ s5).mono ?_
        rintro e w6 ⟨rfl, hw6⟩
        have b6 := b5.trans (hw6.mono b5.size)
        have s6 := s5.below hw6
        clear s5 hw6 b5
        go_wp2_with (go_at_call 14; refine (KE _ _ s6).mono ?_; rintro e w7 ⟨rfl, hw7⟩; have b7 := b6.trans (hw7.mono b6.size))
        go_ret
        exact ⟨rfl, b7⟩
end Go.Proofs.Ytjkclplnflaplaa
