/-
  The law TransportLoops walked: it answers true.
-/
import Derived.Test.YtjkclplnflaplaaLp
import Derived.IntWalk
namespace Go.Proofs.Ytjkclplnflaplaa
open Go.RowKit
attribute [local go_sem] Oper.semAt_some

/-- What the samples behind a sample show, up to the next order. -/
structure After (l : List Ord) (t p : Int) (r : Bool) (n kd xa xb : Int) : Prop where
  nlo : t < n
  nhi : n ≤ 1099511627777
  plo : 0 ≤ p
  phi : p ≤ 2199023255552
  lp : kd = 4 → 0 ≤ xa ∧ xa < xb ∧ xb ≤ 1099511627776
  song : ∃ q, gSong l t = (p, r, q, 0)
  still : r = false → ∀ d, 0 ≤ d → d < n - t → ∃ q, gSong l (t + d) = (p, r, q, 0)
  on : r = true → ¬ (kd = 4 ∧ p < xb) → ∀ d, 0 ≤ d → d < n - t → ∃ q, gSong l (t + d) = (p + d, r, q, 0)
  up : r = true → ∀ d, 0 ≤ d → d < n - t → p + d < xb → ∃ q, gSong l (t + d) = (p + d, r, q, 0)
  back : r = true → kd = 4 → xa ≤ p → p < xb → ∀ k, 0 ≤ k → k * (xb - xa) < n - t → ∃ q, gSong l (t + k * (xb - xa)) = (p, r, q, 0)
theorem lop_right {l : List Ord} (hg : GoodTo l l.length) (t : Int) (k : Nat) (hk : k ≤ l.length) : (lopK l t k).kind = 4 → 0 ≤ (lopK l t k).a ∧ (lopK l t k).a < (lopK l t k).b ∧ (lopK l t k).b ≤ 1099511627776 := by
  induction k with
  | zero => intro h; exact absurd (show (0 : Int) = 4 from h) (by decide)
  | succ k ih =>
    unfold lopK
    split
    · intro h
      have hR := hg.1 k (by omega)
      unfold Right at hR
      omega
    · exact ih (by omega)
theorem after_of {l : List Ord} (h : gCheck l = 0) {t : Int} (h0 : 0 ≤ t) (h1 : t ≤ 1099511627776) :
    After l t (atS l t).pos (atS l t).roll (nxtK l t l.length) (lopK l t l.length).kind (lopK l t l.length).a (lopK l t l.length).b := by
  have hg := good_of_check h
  have hN := nxt_gt l h1 l.length
  have hN2 := (nxt_le l t l.length).1
  obtain ⟨e1, e2⟩ := at_lop hg t
  have hok := (at_ok hg h0).1
  have key : ∀ d, 0 ≤ d → d < nxtK l t l.length - t → ∃ q, gSong l (t + d) = ((advS (atS l t) d).pos, (atS l t).roll, q, 0) := fun d d0 d1 => by
    rw [gSong_of h (by omega) (by omega), at_same hg h0 (by omega) (cut_same (by omega) (by omega)), show t + d - t = d by omega]
    exact ⟨_, by rw [adv_roll]⟩
  have hR := lop_right hg t l.length (Nat.le_refl _)
  have p0 := hok.p0
  have p1 := hok.p1
  refine ⟨hN, hN2, p0, by omega, hR, ⟨_, gSong_of h h0 h1⟩, fun hr d d0 d1 => ?_, fun hr hk d d0 d1 => ?_, fun hr d d0 d1 d2 => ?_, fun hr hk ha hb k k0 k1 => ?_⟩
  · obtain ⟨q, e⟩ := key d d0 d1
    exact ⟨q, by rw [e, (adv_still hr d).1]⟩
  · obtain ⟨q, e⟩ := key d d0 d1
    have h2 := adv_on hr (n := d) (fun hl hlt => by
      have := (e2 hl).2
      rw [e1] at hl
      exact absurd ⟨of_decide_eq_true hl, by omega⟩ hk)
    exact ⟨q, by rw [e, h2]⟩
  · obtain ⟨q, e⟩ := key d d0 d1
    have h2 := adv_on hr (n := d) (fun hl hlt => by
      have := (e2 hl).2
      omega)
    exact ⟨q, by rw [e, h2]⟩
  · have hl : (atS l t).lon = true := by rw [e1]; exact decide_eq_true hk
    obtain ⟨ea, eb⟩ := e2 hl
    have h3 := hR hk
    have h4 : 0 ≤ k * ((lopK l t l.length).b - (lopK l t l.length).a) := Int.mul_nonneg k0 (by omega)
    obtain ⟨q, e⟩ := key _ h4 k1
    refine ⟨q, ?_⟩
    rw [e]
    have := adv_back hr hl (by omega) (by omega) k0
    rw [ea, eb] at this
    rw [this]

theorem if_min (a b : Int) : (if b < a then b else a) = min a b := by split <;> omega
def LoopsW (w3 : World) (l : List Ord) (t : Int) (nv i : Value) (wr : World) : Prop :=
  ∃ k : Nat, k ≤ l.length ∧ i = .int .i64 k ∧ nv = .int .i64 (nxtK l t k) ∧ Blk wr w3.heap.size 40 (oc (lopK l t k)) ∧ Below w3.heap.size w3 wr

set_option maxRecDepth 20000 in
set_option maxHeartbeats 4000000 in
theorem loops_t (A : Option Addr) (c : Nat) (l : List Ord) (t tm : Int) (w : World) (h : SlAt w A l) (_ : l.length ≤ c) (_ : l.length ≤ maxLen) (_ : -9223372036854775808 ≤ t ∧ t ≤ 9223372036854775807) (htm : 0 ≤ tm ∧ tm ≤ 4294967295) :
    Calls Try.prog 8 #[.slice A l.length c, .int .i64 t, .int .u32 tm] w (Yes w) := by
  by_cases hl : l.length ≤ 300
  case neg =>
    have hf : decide (l.length ≤ 300) = false := decide_eq_false hl
    clear hl
    go_enter Try.func8, Try.ntmps8
    go_wp2_with (first
      | (go_at_call 10; refine (sane_t _).mono ?_; rintro e w1 ⟨rfl, hw1⟩)
      | (go_at_call 11; refine (few_t _ _ _ _).mono ?_; rintro e w2 ⟨rfl, hw2⟩; rw [hf]; have b2 := hw1.trans (hw2.mono hw1.size)))
    go_ret
    exact ⟨rfl, b2⟩
  have hn : l.length ≤ 1000000 := by omega
  have hf : decide (l.length ≤ 300) = true := decide_eq_true hl
  clear hl
  by_cases hc : gCheck l = 0
  case neg =>
    have d : (gCheck l != 0) = true := bne_iff_ne.2 hc
    clear hc
    go_enter Try.func8, Try.ntmps8
    go_wp2_with (first
      | (go_at_call 10; refine (sane_t _).mono ?_; rintro e w1 ⟨rfl, hw1⟩; have h1 := h.below hw1)
      | (go_at_call 11; refine (few_t _ _ _ _).mono ?_; rintro e w2 ⟨rfl, hw2⟩; rw [hf]; have h2 := h1.below hw2; have b2 := hw1.trans (hw2.mono hw1.size))
      | (go_at_call 13; refine (rcheck_t _ _ l _ (by omega) h2).mono ?_; rintro e w3 ⟨rfl, hw3⟩; have b3 := b2.trans (hw3.mono b2.size)))
    go_ret
    exact ⟨rfl, b3⟩
  by_cases r1 : t < 0
  · have d : decide (t < 0) = true := decide_eq_true r1
    clear r1
    go_enter Try.func8, Try.ntmps8
    go_wp2_with (first
      | (go_at_call 10; refine (sane_t _).mono ?_; rintro e w1 ⟨rfl, hw1⟩; have h1 := h.below hw1)
      | (go_at_call 11; refine (few_t _ _ _ _).mono ?_; rintro e w2 ⟨rfl, hw2⟩; rw [hf]; have h2 := h1.below hw2; have b2 := hw1.trans (hw2.mono hw1.size))
      | (go_at_call 13; refine (rcheck_t _ _ l _ (by omega) h2).mono ?_; rintro e w3 ⟨rfl, hw3⟩; rw [hc]; have b3 := b2.trans (hw3.mono b2.size)))
    go_ret
    exact ⟨rfl, b3⟩
  have d : decide (t < 0) = false := decide_eq_false r1
  by_cases r2 : 1099511627776 < t
  · have d2 : decide (1099511627776 < t) = true := decide_eq_true r2
    clear r2 r1
    go_enter Try.func8, Try.ntmps8
    go_wp2_with (first
      | (go_at_call 10; refine (sane_t _).mono ?_; rintro e w1 ⟨rfl, hw1⟩; have h1 := h.below hw1)
      | (go_at_call 11; refine (few_t _ _ _ _).mono ?_; rintro e w2 ⟨rfl, hw2⟩; rw [hf]; have h2 := h1.below hw2; have b2 := hw1.trans (hw2.mono hw1.size))
      | (go_at_call 13; refine (rcheck_t _ _ l _ (by omega) h2).mono ?_; rintro e w3 ⟨rfl, hw3⟩; rw [hc]; have b3 := b2.trans (hw3.mono b2.size)))
    go_ret
    exact ⟨rfl, b3⟩
  have d2 : decide (1099511627776 < t) = false := decide_eq_false r2
  have HA := Lib.hid (after_of hc (t := t) (by omega) (by omega))
  have HC := Lib.hid hc
  have t0 : 0 ≤ t := by omega
  have t1 : t ≤ 1099511627776 := by omega
  clear hc r1 r2
  go_enter Try.func8, Try.ntmps8
  go_wp2_with (first
    | (go_at_call 10; refine (sane_t _).mono ?_; rintro e w1 ⟨rfl, hw1⟩; have h1 := h.below hw1)
    | (go_at_call 11; refine (few_t _ _ _ _).mono ?_; rintro e w2 ⟨rfl, hw2⟩; rw [hf]; have h2 := h1.below hw2; have b2 := hw1.trans (hw2.mono hw1.size))
    | (go_at_call 13; refine (rcheck_t _ _ l _ (by omega) h2).mono ?_; rintro e w3 ⟨rfl, hw3⟩; rw [HC.out]; have h3 := h2.below hw3; have b3 := b2.trans (hw3.mono b2.size)))
  clear h h1 h2 hw1 hw2 hw3 b2
  have b4 := b3.alloc b3.size (.cells #[.int .i64 0, .int .i64 0, .int .i64 0, .int .i64 0] 40)
  go_loopw [8, 41] (fun nv i wr => LoopsW w3 l t nv i wr) (fun _ i _ => l.length - (intOf i).toNat)
  case atStart => exact ⟨0, by omega, rfl, rfl, Blk.new _ _ _, (Below.refl _ w3).alloc (Nat.le_refl _) _⟩
  case round =>
    obtain ⟨k, hk, rfl, rfl, hP, hwr⟩ := hrel
    by_cases hlt : k < l.length
    · obtain ⟨b, o, rfl, hm0⟩ := h3 (by omega)
      have hm := hm0.below hwr
      have hb := hm0.lt
      have lP := hP.lt
      have g0 := hm.c0 k hlt
      have g1 := hm.c1 k hlt
      have g2 := hm.c2 k hlt
      have g3 := hm.c3 k hlt
      obtain ⟨xt, ht⟩ : ∃ x, x = oT l k := ⟨_, rfl⟩
      obtain ⟨kd, hkd⟩ : ∃ x, x = oK l k := ⟨_, rfl⟩
      obtain ⟨xa, hxa⟩ : ∃ x, x = oA l k := ⟨_, rfl⟩
      obtain ⟨xb, hxb⟩ : ∃ x, x = oB l k := ⟨_, rfl⟩
      obtain ⟨nk, hnk⟩ : ∃ x, x = nxtK l t k := ⟨_, rfl⟩
      rw [← ht] at g0
      rw [← hkd] at g1
      rw [← hxa] at g2
      rw [← hxb] at g3
      rw [← hnk]
      have hx : l.getD k o0 = ⟨xt, kd, xa, xb⟩ := by rw [ht, hkd, hxa, hxb]; rfl
      have f0 := hP.frozen 0
      have f1 := hP.frozen 1
      have f2 := hP.frozen 2
      have f3 := hP.frozen 3
      have q0 : wr.cell? ⟨w3.heap.size, 0, none⟩ = some (.int .i64 (lopK l t k).at_) := hP.cell 0
      have q1 : wr.cell? ⟨w3.heap.size, 1, none⟩ = some (.int .i64 (lopK l t k).kind) := hP.cell 1
      have q2 : wr.cell? ⟨w3.heap.size, 2, none⟩ = some (.int .i64 (lopK l t k).a) := hP.cell 2
      have q3 : wr.cell? ⟨w3.heap.size, 3, none⟩ = some (.int .i64 (lopK l t k).b) := hP.cell 3
      by_cases hp : t < xt
      · have hp2 : lopK l t (k + 1) = lopK l t k := by
          show (if _ then _ else _) = _
          rw [hx, if_neg (fun h => by have := h.2; dsimp only at this; omega)]
        have hn2 : nxtK l t (k + 1) = min nk xt := by
          show (if _ then _ else _) = _
          rw [← ht, if_pos hp, ← hnk]
        have HP2 := Lib.hid hp2
        have HN2 := Lib.hid hn2
        have d3 : decide (t < xt) = true := decide_eq_true hp
        clear hp hp2 hn2 hx ht hkd hxa hxb hm0 hm h3 b4 hnk
        go_wp2
        go_roundw
        case rel => exact ⟨k + 1, by omega, by go_num, by rw [HN2.out, if_min], by rw [HP2.out]; exact hP.alloc _, hwr.alloc hwr.size _⟩
        case measure => simp [intOf]; omega
      · have hn2 : nxtK l t (k + 1) = nk := by
          show (if _ then _ else _) = _
          rw [← ht, if_neg hp, ← hnk]
        have HN2 := Lib.hid hn2
        have d3 : decide (t < xt) = false := decide_eq_false hp
        by_cases hk4 : kd = 4 ∨ kd = 5
        · have hp2 : lopK l t (k + 1) = ⟨xt, kd, xa, xb⟩ := by
            show (if _ then _ else _) = _
            rw [hx, if_pos ⟨hk4, by dsimp only; omega⟩]
          have HP2 := Lib.hid hp2
          rcases hk4 with hk4 | hk4
          all_goals
            subst hk4
            clear hp hp2 hn2 hx ht hkd hxa hxb hm0 hm h3 b4 hnk
            go_wp2
            go_roundw
            case rel => exact ⟨k + 1, by omega, by go_num, by rw [HN2.out], by rw [HP2.out]; exact (((((hP.set 0 _).set 1 _).set 2 _).set 3 _).alloc _), ((((hwr.setCell (p := ⟨w3.heap.size, 0, none⟩) (Nat.le_refl _) _).setCell (p := ⟨w3.heap.size, 1, none⟩) (Nat.le_refl _) _).setCell (p := ⟨w3.heap.size, 2, none⟩) (Nat.le_refl _) _).setCell (p := ⟨w3.heap.size, 3, none⟩) (Nat.le_refl _) _).alloc (by simpa using hwr.size) _⟩
            case measure => simp [intOf]; omega
        · have hp2 : lopK l t (k + 1) = lopK l t k := by
            show (if _ then _ else _) = _
            rw [hx, if_neg (fun h => hk4 h.1)]
          have HP2 := Lib.hid hp2
          have d4 : (kd == 4) = false := beq_eq_false_iff_ne.2 (by omega)
          have d5 : (kd == 5) = false := beq_eq_false_iff_ne.2 (by omega)
          clear hk4 hp hp2 hn2 hx ht hkd hxa hxb hm0 hm h3 b4 hnk
          go_wp2
          go_roundw
          case rel => exact ⟨k + 1, by omega, by go_num, by rw [HN2.out], by rw [HP2.out]; exact hP.alloc _, hwr.alloc hwr.size _⟩
          case measure => simp [intOf]; omega
    · obtain rfl : k = l.length := by omega
      have b5 : Below w.heap.size w wr := b3.trans (hwr.mono b3.size)
      have h5 := h3.below hwr
      obtain ⟨⟨xt, kd, xa, xb⟩, hx⟩ : ∃ x, x = lopK l t l.length := ⟨_, rfl⟩
      obtain ⟨n, hnn⟩ : ∃ x, x = nxtK l t l.length := ⟨_, rfl⟩
      obtain ⟨p, hpp⟩ : ∃ x, x = (atS l t).pos := ⟨_, rfl⟩
      obtain ⟨r, hrr⟩ : ∃ x, x = (atS l t).roll := ⟨_, rfl⟩
      have ha := HA.out
      rw [← hx] at hP ha
      rw [← hnn] at ha ⊢
      rw [← hpp, ← hrr] at ha
      dsimp only at ha
      clear hx hnn hpp hrr b4 h3 HA hwr
      have lP := hP.lt
      obtain ⟨nlo, nhi, plo, phi, lp, ⟨q, hs⟩, still, on, up, back⟩ := ha
      have HS := Lib.hid hs
      have HL := Lib.hid lp
      have HB := Lib.hid back
      have HU := Lib.hid up
      have HT := Lib.hid still
      have HO := Lib.hid on
      clear hs lp back up still on
      go_wp2_with (fail)
      go_at_call 14
      refine (songIs hn HS.out h5).mono ?_
      rintro e w6 ⟨rfl, hw6⟩
      have b6 := b5.trans (hw6.mono b5.size)
      have h6 := h5.below hw6
      have hP6 := hP.below hw6 lP
      have q1 : w6.cell? ⟨w3.heap.size, 1, none⟩ = some (.int .i64 kd) := hP6.cell 1
      have q2 : w6.cell? ⟨w3.heap.size, 2, none⟩ = some (.int .i64 xa) := hP6.cell 2
      have q3 : w6.cell? ⟨w3.heap.size, 3, none⟩ = some (.int .i64 xb) := hP6.cell 3
      clear hP hP6 h5 hw6 b5
      cases r
      · by_cases hd : n - t ≤ tm
        · have d9 : decide (n - t ≤ tm) = true := decide_eq_true hd
          clear hd
          go_wp2
          go_ret
          exact ⟨rfl, b6⟩
        · have d9 : decide (n - t ≤ tm) = false := decide_eq_false hd
          obtain ⟨q', hq'⟩ := HT.out rfl tm (by omega) (by omega)
          have HQ := Lib.hid hq'
          clear hd hq'
          go_wp2_with (go_at_call 14; refine (songIs hn HQ.out h6).mono ?_; rintro e w7 ⟨rfl, hw7⟩)
          go_ret
          exact ⟨rfl, b6.trans (hw7.mono b6.size)⟩
      · by_cases hk : kd = 4 ∧ p < xb
        · obtain ⟨rfl, hpb⟩ := hk
          have hl3 := HL.out rfl
          have d5 : decide (p < xb) = true := decide_eq_true hpb
          by_cases hpa : p < xa
          · have d6 : decide (p < xa) = true := decide_eq_true hpa
            have b0 : 0 ≤ xb - 1 - p := by omega
            have b1 : xb - 1 - p ≤ 1099511627776 := by omega
            by_cases hmt : xb - 1 - p < tm
            · by_cases hd : n - t ≤ xb - 1 - p
              · have d9 : decide (n - t ≤ xb - 1 - p) = true := decide_eq_true hd
                clear hd hpa hpb
                go_wp2
                go_ret
                exact ⟨rfl, b6⟩
              · have d9 : decide (n - t ≤ xb - 1 - p) = false := decide_eq_false hd
                obtain ⟨q', hq'⟩ := HU.out rfl (xb - 1 - p) (by omega) (by omega) (by omega)
                have HQ := Lib.hid hq'
                clear hd hq' hpa hpb
                go_wp2_with (go_at_call 14; refine (songIs hn HQ.out h6).mono ?_; rintro e w7 ⟨rfl, hw7⟩)
                go_ret
                exact ⟨rfl, b6.trans (hw7.mono b6.size)⟩
            · by_cases hd : n - t ≤ tm
              · have d9 : decide (n - t ≤ tm) = true := decide_eq_true hd
                clear hd hpa hpb
                go_wp2
                go_ret
                exact ⟨rfl, b6⟩
              · have d9 : decide (n - t ≤ tm) = false := decide_eq_false hd
                obtain ⟨q', hq'⟩ := HU.out rfl tm (by omega) (by omega) (by omega)
                have HQ := Lib.hid hq'
                clear hd hq' hpa hpb
                go_wp2_with (go_at_call 14; refine (songIs hn HQ.out h6).mono ?_; rintro e w7 ⟨rfl, hw7⟩)
                go_ret
                exact ⟨rfl, b6.trans (hw7.mono b6.size)⟩
          · have d6 : decide (p < xa) = false := decide_eq_false hpa
            have b0 : 0 < xb - xa := by omega
            have b1 : xb - xa ≤ 1099511627776 := by omega
            have b2 : 0 ≤ n - t := by omega
            by_cases hg : (n - t) / (xb - xa) < tm
            · have d7 : decide ((n - t) / (xb - xa) < tm) = true := decide_eq_true hg
              clear hg hpa hpb
              go_wp2
              go_ret
              exact ⟨rfl, b6⟩
            · have d7 : decide ((n - t) / (xb - xa) < tm) = false := decide_eq_false hg
              have hm0 : 0 ≤ tm * (xb - xa) := Int.mul_nonneg htm.1 (by omega)
              have hm1 : tm * (xb - xa) ≤ n - t := Int.le_trans (Int.mul_le_mul_of_nonneg_right (show tm ≤ (n - t) / (xb - xa) by omega) (by omega)) (Int.ediv_mul_le _ (by omega))
              by_cases hd : n - t ≤ tm * (xb - xa)
              · have d9 : decide (n - t ≤ tm * (xb - xa)) = true := decide_eq_true hd
                clear hd hpa hpb hg
                go_wp2
                go_ret
                exact ⟨rfl, b6⟩
              · have d9 : decide (n - t ≤ tm * (xb - xa)) = false := decide_eq_false hd
                obtain ⟨q', hq'⟩ := HB.out rfl rfl (by omega) hpb tm htm.1 (by omega)
                have HQ := Lib.hid hq'
                clear hd hq' hpa hpb hg
                go_wp2_with (go_at_call 14; refine (songIs hn HQ.out h6).mono ?_; rintro e w7 ⟨rfl, hw7⟩)
                go_ret
                exact ⟨rfl, b6.trans (hw7.mono b6.size)⟩
        · have HK := Lib.hid hk
          by_cases hd : n - t ≤ tm
          · have d9 : decide (n - t ≤ tm) = true := decide_eq_true hd
            clear hd
            by_cases h4 : kd = 4
            · subst h4
              have d5 : decide (p < xb) = false := decide_eq_false (fun h => hk ⟨rfl, h⟩)
              clear hk
              go_wp2
              go_ret
              exact ⟨rfl, b6⟩
            · have d5 : (kd == 4) = false := beq_eq_false_iff_ne.2 h4
              clear hk h4
              go_wp2
              go_ret
              exact ⟨rfl, b6⟩
          · have d9 : decide (n - t ≤ tm) = false := decide_eq_false hd
            obtain ⟨q', hq'⟩ := HO.out rfl hk tm (by omega) (by omega)
            have HQ := Lib.hid hq'
            clear hd hq'
            by_cases h4 : kd = 4
            · subst h4
              have d5 : decide (p < xb) = false := decide_eq_false (fun h => hk ⟨rfl, h⟩)
              clear hk
              go_wp2_with (go_at_call 14; refine (songIs hn HQ.out h6).mono ?_; rintro e w7 ⟨rfl, hw7⟩)
              go_ret
              exact ⟨rfl, b6.trans (hw7.mono b6.size)⟩
            · have d5 : (kd == 4) = false := beq_eq_false_iff_ne.2 h4
              clear hk h4
              go_wp2_with (go_at_call 14; refine (songIs hn HQ.out h6).mono ?_; rintro e w7 ⟨rfl, hw7⟩)
              go_ret
              exact ⟨rfl, b6.trans (hw7.mono b6.size)⟩
end Go.Proofs.Ytjkclplnflaplaa
