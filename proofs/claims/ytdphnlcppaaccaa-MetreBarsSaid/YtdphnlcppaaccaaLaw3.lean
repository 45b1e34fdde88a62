/-
  The law MetreBars walked: it answers true.
-/
import Derived.Test.YtdphnlcppaaccaaBl
import Derived.Deep.Cut
import Derived.Test.YtdphnlcppaaccaaApp
namespace Go.Proofs.Ytdphnlcppaaccaa
open Go.RowKit
attribute [local go_sem] Oper.semAt_some

/-- Place as the walk meets it at a bar's tick. -/
def PlaceAt (A : Option Addr) (c n : Nat) (ms : List Met) (t b : Int) : Prop :=
  ∀ W, SlAt W A ms → Calls Try.prog 15 #[.slice A n c, .int .i64 t] W fun e w' => e = .returned (.tuple #[.int .i64 b, .int .i64 0, .int .i64 0, .int .i64 0]) ∧ Below W.heap.size W w'
theorem placeAt {A : Option Addr} {c : Nat} {ms : List Met} {t b : Int} (hn : ms.length ≤ 1000000000) (h : gPlace ms t = (b, 0, 0, 0)) : PlaceAt A c ms.length ms t b := fun W hW => by
  have := pplace_a A c ms t W hn hW
  rwa [h] at this
/-- Place as the walk meets it. -/
def PlaceIs (A : Option Addr) (c n : Nat) (ms : List Met) (t b d f e : Int) : Prop :=
  ∀ W, SlAt W A ms → Calls Try.prog 15 #[.slice A n c, .int .i64 t] W fun x w' => x = .returned (.tuple #[.int .i64 b, .int .i64 d, .int .i64 f, .int .i64 e]) ∧ Below W.heap.size W w'
/-- Bars as the walk meets it. -/
def BarsIs (A : Option Addr) (c n : Nat) (ms : List Met) (lo hi : Int) (x : List Int) : Prop :=
  ∀ W, SlAt W A ms → Calls Try.prog 17 #[.slice A n c, .int .i64 lo, .int .i64 hi] W fun e w' => ∃ A c, e = .returned (.tuple #[.slice A x.length c, .int .i64 0]) ∧ IntsAt .i64 w' A x ∧ Below W.heap.size W w'

theorem barsIs {A : Option Addr} {c : Nat} {ms : List Met} {lo hi : Int} (hn : ms.length ≤ 1000000000) (h : (gBars ms lo hi).2 = 0) : BarsIs A c ms.length ms lo hi (gBars ms lo hi).1 := fun W hW => by
  have := pbars_a A c ms lo hi W hn hW
  unfold IntsErr at this
  rwa [h] at this

theorem ints_src {w w' : World} {A : Option Addr} {xs : List Int} (h : IntsAt .i64 w A xs) (hb : Below w.heap.size w w') : 0 < xs.length → ∃ ad, A = some ad ∧ ∀ j u, (xs.map (Value.int .i64))[j]? = some u → w'.cell? (ad.add j) = some u := fun h0 => by
  obtain ⟨b, o, rfl, hlt, hc⟩ := h h0
  refine ⟨_, rfl, fun j u hj => ?_⟩
  have hjl : j < xs.length := by
    rcases Nat.lt_or_ge j xs.length with h | h
    · exact h
    · rw [List.getElem?_eq_none (by simpa using h)] at hj; cases hj
  have e := (hb.cell (p := ⟨b, o + j, none⟩) hlt).trans (hc j hjl)
  rw [List.getElem?_map, List.getElem?_eq_getElem hjl] at hj
  simp only [Option.map_some, Option.some.injEq] at hj
  rw [← hj]
  simpa [Addr.add_lit, gi, hjl] using e
theorem ints_one (xs : List Int) : ∀ u ∈ xs.map (Value.int .i64), u.oneCell' = true := fun u hu => by
  obtain ⟨x, _, rfl⟩ := List.mem_map.1 hu
  rfl

set_option maxRecDepth 20000 in
set_option maxHeartbeats 4000000 in
theorem bars_t (A : Option Addr) (c : Nat) (ms : List Met) (lo mid hi tick : Int) (w : World) (h : SlAt w A ms) :
    Calls Try.prog 7 #[.slice A ms.length c, .int .i64 lo, .int .i64 mid, .int .i64 hi, .int .i64 tick] w (Yes w) := by
  by_cases hl : 100 < ms.length
  · have d : decide (100 < (ms.length : Int)) = true := decide_eq_true (by omega)
    go_enter Try.func7, Try.ntmps7
    go_wp2_with (go_at_call 10; refine (sane_t _).mono ?_; rintro e w1 ⟨rfl, hw1⟩)
    go_ret
    exact ⟨rfl, hw1⟩
  have d : decide (100 < (ms.length : Int)) = false := decide_eq_false (by omega)
  have hn : ms.length ≤ 1000000000 := by omega
  have KB : ∀ W, SlAt W A ms → Calls Try.prog 17 #[.slice A ms.length c, .int .i64 lo, .int .i64 hi] W (IntsErr W (gBars ms lo hi)) := fun W h => pbars_a A c ms lo hi W hn h
  have G := gbars_ok ms lo hi
  obtain ⟨P, hP⟩ : ∃ P, P = gBars ms lo hi := ⟨_, rfl⟩
  rw [← hP] at KB G
  clear hP
  obtain ⟨x, er⟩ := P
  unfold IntsErr at KB
  dsimp only at KB G
  rcases G with ⟨g1, g2⟩ | ⟨g1, hB⟩
  · subst g2
    have de : (er != 0) = true := bne_iff_ne.2 g1
    go_enter Try.func7, Try.ntmps7
    go_wp2_with (first
      | (go_at_call 10; refine (sane_t _).mono ?_; rintro e w1 ⟨rfl, hw1⟩; have h1 := h.below hw1)
      | (go_at_call 17; refine (KB _ h1).mono ?_; rintro e w2 ⟨A2, c2, rfl, hI2, hw2⟩; have b2 := hw1.trans (hw2.mono hw1.size)))
    go_ret
    exact ⟨rfl, b2⟩
  subst g1
  have hxl := hB.few
  have HB := Lib.hid hB
  clear hB
  go_enter Try.func7, Try.ntmps7
  go_wp2_with (first
    | (go_at_call 10; refine (sane_t _).mono ?_; rintro e w1 ⟨rfl, hw1⟩; have h1 := h.below hw1)
    | (go_at_call 17; refine (KB _ h1).mono ?_; rintro e w2 ⟨A2, c2, rfl, hI2, hw2⟩; have b2 := hw1.trans (hw2.mono hw1.size); have h2 := h1.below hw2))
  clear KB
  go_loopw [57] (fun i wr => ∃ k : Nat, k ≤ x.length ∧ i = .int .i64 k ∧ Below w2.heap.size w2 wr) (fun i _ => x.length - (intOf i).toNat)
  case atStart => exact ⟨0, by omega, rfl, Below.refl _ _⟩
  case round =>
    obtain ⟨k, hk, rfl, hwr⟩ := hrel
    by_cases hlt : k < x.length
    · have hr := h2.below hwr
      have hmem : gi x k ∈ x := by
        have : gi x k = x[k] := by simp [gi, hlt]
        rw [this]; exact List.getElem_mem _
      obtain ⟨bk, hbe, hpk, bk0, bk1, hlo, hhi⟩ := HB.out.bar hmem
      clear hbe
      have hIr := hI2.below hwr
      obtain ⟨b, o, rfl, hbb, hc⟩ := hIr (by omega)
      have g1 := hc k hlt
      have KP : PlaceAt A c ms.length ms (gi x k) bk := placeAt hn hpk
      have HP := Lib.hid hpk
      clear hmem hpk
      obtain ⟨t, ht⟩ : ∃ t, t = gi x k := ⟨_, rfl⟩
      rw [← ht] at g1 KP hlo hhi HP
      have HT := Lib.hid ht
      clear ht
      have d1 : decide (t < lo) = false := decide_eq_false (by omega)
      have d2 : decide (hi ≤ t) = false := decide_eq_false (by omega)
      by_cases hk0 : k = 0
      · have d3 : decide (0 < (k : Int)) = false := decide_eq_false (by omega)
        have d9 : decide (0 < k) = false := decide_eq_false (by omega)
        have d4 : decide (50 < (k : Int)) = false := decide_eq_false (by omega)
        clear hk0 hc
        go_wp2_with (go_at_call 15; refine (KP _ hr).mono ?_; rintro e w3 ⟨rfl, hw3⟩)
        go_roundw
        case rel => exact ⟨k + 1, by omega, by go_num, hwr.trans (hw3.mono hwr.size)⟩
        case measure => simp [intOf]; omega
      obtain ⟨j, rfl⟩ : ∃ j, k = j + 1 := ⟨k - 1, by omega⟩
      clear hk0
      have hmem : gi x j ∈ x := by
        have : gi x j = x[j] := by simp [gi, show j < x.length by omega]
        rw [this]; exact List.getElem_mem _
      obtain ⟨bj, hbe, hpj, bj0, bj1, _, _⟩ := HB.out.bar hmem
      clear hbe hmem
      have hnx := HB.out.next (i := j) hlt
      rw [← HT.out, HP.out, hpj] at hnx
      obtain ⟨n1, n2⟩ := hnx
      dsimp only at n2
      subst n2
      have KQ : PlaceAt A c ms.length ms (gi x j) bj := placeAt hn hpj
      clear hpj
      have g0 := hc j (by omega)
      obtain ⟨s, hs⟩ : ∃ s, s = gi x j := ⟨_, rfl⟩
      rw [← hs] at g0 KQ n1
      clear hs hc
      have d3 : decide (0 < (j : Int) + 1) = true := decide_eq_true (by omega)
      have d8 : decide (t ≤ s) = false := decide_eq_false (by omega)
      by_cases c1 : 50 < j + 1
      case neg =>
        have d4 : decide (50 < (j : Int) + 1) = false := decide_eq_false (by omega)
        go_wp2_with (fail)
        go_at_call 15
        refine (KP _ hr).mono ?_
        rintro e w3 ⟨rfl, hw3⟩
        have q1 := (hw3.cell (p := ⟨b, o + (j + 1), none⟩) hbb).trans g1
        have q0 := (hw3.cell (p := ⟨b, o + j, none⟩) hbb).trans g0
        have b3 := hwr.trans (hw3.mono hwr.size)
        have hr3 := h2.below b3
        go_wp2_with (fail)
        go_at_call 15
        refine (KQ _ hr3).mono ?_
        rintro e w4 ⟨rfl, hw4⟩
        have b4 := b3.trans (hw4.mono b3.size)
        have hr4 := h2.below b4
        go_wp2_with (fail)
        go_at_call 15
        refine (KP _ hr4).mono ?_
        rintro e w5 ⟨rfl, hw5⟩
        have b5 := b4.trans (hw5.mono b4.size)
        go_wp2_with (fail)
        go_roundw
        case rel => exact ⟨j + 1 + 1, by omega, by go_num, b5⟩
        case measure => simp [intOf]; omega
      have d4 : decide (50 < (j : Int) + 1) = true := decide_eq_true (by omega)
      by_cases c2 : j + 1 < x.length - 50
      case neg =>
        have d5 : decide ((j : Int) + 1 < (x.length : Int) - 50) = false := decide_eq_false (by omega)
        go_wp2_with (fail)
        go_at_call 15
        refine (KP _ hr).mono ?_
        rintro e w3 ⟨rfl, hw3⟩
        have q1 := (hw3.cell (p := ⟨b, o + (j + 1), none⟩) hbb).trans g1
        have q0 := (hw3.cell (p := ⟨b, o + j, none⟩) hbb).trans g0
        have b3 := hwr.trans (hw3.mono hwr.size)
        have hr3 := h2.below b3
        go_wp2_with (fail)
        go_at_call 15
        refine (KQ _ hr3).mono ?_
        rintro e w4 ⟨rfl, hw4⟩
        have b4 := b3.trans (hw4.mono b3.size)
        have hr4 := h2.below b4
        go_wp2_with (fail)
        go_at_call 15
        refine (KP _ hr4).mono ?_
        rintro e w5 ⟨rfl, hw5⟩
        have b5 := b4.trans (hw5.mono b4.size)
        go_wp2_with (fail)
        go_roundw
        case rel => exact ⟨j + 1 + 1, by omega, by go_num, b5⟩
        case measure => simp [intOf]; omega
      have d5 : decide ((j : Int) + 1 < (x.length : Int) - 50) = true := decide_eq_true (by omega)
      by_cases c3 : t = tick
      case pos =>
        have d6 : (t != tick) = false := bne_eq_false_iff_eq.2 c3
        clear c3
        go_wp2_with (fail)
        go_at_call 15
        refine (KP _ hr).mono ?_
        rintro e w3 ⟨rfl, hw3⟩
        have q1 := (hw3.cell (p := ⟨b, o + (j + 1), none⟩) hbb).trans g1
        have q0 := (hw3.cell (p := ⟨b, o + j, none⟩) hbb).trans g0
        have b3 := hwr.trans (hw3.mono hwr.size)
        have hr3 := h2.below b3
        go_wp2_with (fail)
        go_at_call 15
        refine (KQ _ hr3).mono ?_
        rintro e w4 ⟨rfl, hw4⟩
        have b4 := b3.trans (hw4.mono b3.size)
        have hr4 := h2.below b4
        go_wp2_with (fail)
        go_at_call 15
        refine (KP _ hr4).mono ?_
        rintro e w5 ⟨rfl, hw5⟩
        have b5 := b4.trans (hw5.mono b4.size)
        go_wp2_with (fail)
        go_roundw
        case rel => exact ⟨j + 1 + 1, by omega, by go_num, b5⟩
        case measure => simp [intOf]; omega
      have d6 : (t != tick) = true := bne_iff_ne.2 c3
      clear c3
      go_wp2_with (fail)
      go_at_call 15
      refine (KP _ hr).mono ?_
      rintro e w3 ⟨rfl, hw3⟩
      have q1 := (hw3.cell (p := ⟨b, o + (j + 1), none⟩) hbb).trans g1
      have q0 := (hw3.cell (p := ⟨b, o + j, none⟩) hbb).trans g0
      go_wp2_with (fail)
      go_roundw
      case rel => exact ⟨j + 1 + 1, by omega, by go_num, hwr.trans (hw3.mono hwr.size)⟩
      case measure => simp [intOf]; omega
    · obtain rfl : k = x.length := by omega
      have hrW := h2.below hwr
      have bW := b2.trans (hwr.mono b2.size)
      by_cases r1 : lo ≤ tick
      case neg =>
        have dr : decide (lo ≤ tick) = false := decide_eq_false r1
        clear r1
        by_cases m1 : mid < lo
        · have dm : decide (mid < lo) = true := decide_eq_true m1
          clear m1
          go_wp2_with (fail)
          go_ret
          exact ⟨rfl, bW⟩
        have dm : decide (mid < lo) = false := decide_eq_false m1
        by_cases m2 : hi < mid
        · have dn : decide (hi < mid) = true := decide_eq_true m2
          clear m2
          go_wp2_with (fail)
          go_ret
          exact ⟨rfl, bW⟩
        have dn : decide (hi < mid) = false := decide_eq_false m2
        have hcut := HB.out.cut (mid := mid) (by omega) (by omega)
        have KA := barsIs (A := A) (c := c) hn hcut.1
        have KC := barsIs (A := A) (c := c) hn hcut.2.1
        have hx := hcut.2.2
        clear hcut
        generalize (gBars ms lo mid).1 = x1 at KA hx
        generalize (gBars ms mid hi).1 = x2 at KC hx
        have hlen : x1.length + x2.length = x.length := by rw [← hx, List.length_append]
        have HX := Lib.hid hx
        have HL := Lib.hid hlen
        have hl1 : x1.length ≤ 4096 := by omega
        have hl2 : x2.length ≤ 4096 := by omega
        clear hx hlen
        go_wp2_with (fail)
        go_at_call 17
        refine (KA _ hrW).mono ?_
        rintro e w5 ⟨A5, c5, rfl, hI5, hw5⟩
        have b5 := bW.trans (hw5.mono bW.size)
        have hr5 := hrW.below hw5
        go_wp2_with (fail)
        go_at_call 17
        refine (KC _ hr5).mono ?_
        rintro e w6 ⟨A6, c6, rfl, hI6, hw6⟩
        have b6 := b5.trans (hw6.mono b5.size)
        have hI5 := hI5.below hw6
        obtain ⟨i0, hi0, hz0, hz1, hz2⟩ := info_parts info3
        have ow := World.ownsRow_lit (base := w6.heap.size) (e := 3) (size := 1) w6 #[] 0 (Nat.le_refl _) (by simp [maxLen]) rfl
        have hal : Below w6.heap.size w6 (w6.alloc (.cells #[] 3)) := (Below.refl _ _).alloc (Nat.le_refl _) _
        go_wp2_with (first
          | (at_builtin; refine wpList_append_any (by rfl) (.tmp 214) (.tmp 215) 31 rfl w6.heap.size 3 i0 (.int .i64 0) 1 8 Try.underlying31 hi0 hz0 hz1 hz2 rfl (by decide) _ 0 [] rfl ow A5 x1.length c5 (x1.map (Value.int .i64)) rfl (by simp) (ints_src hI5 hal) (ints_one x1) (by simp [maxLen]; omega) (by omega) (by simp) ?_; intro v7 w7 hown7 hgrow7; simp only [Nat.zero_add, List.nil_append] at hown7; obtain ⟨A7, c7, rfl⟩ := own_slice hown7; have b7 := hal.grown hgrow7 (by simp) (own_base ow))
          | (at_builtin; refine wpList_append_any (by rfl) (.tmp 216) (.tmp 217) 31 rfl w6.heap.size 3 i0 (.int .i64 0) 1 8 Try.underlying31 hi0 hz0 hz1 hz2 rfl (by decide) _ x1.length _ rfl hown7 A6 x2.length c6 (x2.map (Value.int .i64)) rfl (by simp) (ints_src hI6 b7) (ints_one x2) (by simp [maxLen]; omega) (by omega) b7.size ?_; intro v8 w8 hown8 hgrow8; rw [← List.map_append] at hown8; obtain ⟨A8, c8, rfl⟩ := own_slice hown8))
        have b8 := b7.grown hgrow8 b7.size (own_base hown7)
        have hI8 := (IntsAt.of_own hown8).2
        have hI9 := (hI2.below (hwr.trans ((hw5.mono hwr.size).trans ((hw6.mono (hwr.trans (hw5.mono hwr.size)).size).trans (b8.mono (hwr.trans ((hw5.mono hwr.size).trans (hw6.mono (hwr.trans (hw5.mono hwr.size)).size))).size)))))
        have KS := same_t A8 A2 (x1.length + x2.length) x.length c8 c2 (x1 ++ x2) x w8 (by simp) rfl hI8 hI9 (by simp; omega) (by omega)
        rw [decide_eq_true HX.out] at KS
        go_wp2_with (fail)
        go_at_call 19
        refine KS.mono ?_
        rintro e w9 ⟨rfl, hw9⟩
        go_wp2_with (fail)
        go_ret
        exact ⟨rfl, (b6.trans (b8.mono b6.size)).trans (hw9.mono (b6.trans (b8.mono b6.size)).size)⟩
      have dr : decide (lo ≤ tick) = true := decide_eq_true r1
      by_cases r2 : tick < hi
      case neg =>
        have ds : decide (tick < hi) = false := decide_eq_false r2
        clear r2
        by_cases m1 : mid < lo
        · have dm : decide (mid < lo) = true := decide_eq_true m1
          clear m1
          go_wp2_with (fail)
          go_ret
          exact ⟨rfl, bW⟩
        have dm : decide (mid < lo) = false := decide_eq_false m1
        by_cases m2 : hi < mid
        · have dn : decide (hi < mid) = true := decide_eq_true m2
          clear m2
          go_wp2_with (fail)
          go_ret
          exact ⟨rfl, bW⟩
        have dn : decide (hi < mid) = false := decide_eq_false m2
        have hcut := HB.out.cut (mid := mid) (by omega) (by omega)
        have KA := barsIs (A := A) (c := c) hn hcut.1
        have KC := barsIs (A := A) (c := c) hn hcut.2.1
        have hx := hcut.2.2
        clear hcut
        generalize (gBars ms lo mid).1 = x1 at KA hx
        generalize (gBars ms mid hi).1 = x2 at KC hx
        have hlen : x1.length + x2.length = x.length := by rw [← hx, List.length_append]
        have HX := Lib.hid hx
        have HL := Lib.hid hlen
        have hl1 : x1.length ≤ 4096 := by omega
        have hl2 : x2.length ≤ 4096 := by omega
        clear hx hlen
        go_wp2_with (fail)
        go_at_call 17
        refine (KA _ hrW).mono ?_
        rintro e w5 ⟨A5, c5, rfl, hI5, hw5⟩
        have b5 := bW.trans (hw5.mono bW.size)
        have hr5 := hrW.below hw5
        go_wp2_with (fail)
        go_at_call 17
        refine (KC _ hr5).mono ?_
        rintro e w6 ⟨A6, c6, rfl, hI6, hw6⟩
        have b6 := b5.trans (hw6.mono b5.size)
        have hI5 := hI5.below hw6
        obtain ⟨i0, hi0, hz0, hz1, hz2⟩ := info_parts info3
        have ow := World.ownsRow_lit (base := w6.heap.size) (e := 3) (size := 1) w6 #[] 0 (Nat.le_refl _) (by simp [maxLen]) rfl
        have hal : Below w6.heap.size w6 (w6.alloc (.cells #[] 3)) := (Below.refl _ _).alloc (Nat.le_refl _) _
        go_wp2_with (first
          | (at_builtin; refine wpList_append_any (by rfl) (.tmp 214) (.tmp 215) 31 rfl w6.heap.size 3 i0 (.int .i64 0) 1 8 Try.underlying31 hi0 hz0 hz1 hz2 rfl (by decide) _ 0 [] rfl ow A5 x1.length c5 (x1.map (Value.int .i64)) rfl (by simp) (ints_src hI5 hal) (ints_one x1) (by simp [maxLen]; omega) (by omega) (by simp) ?_; intro v7 w7 hown7 hgrow7; simp only [Nat.zero_add, List.nil_append] at hown7; obtain ⟨A7, c7, rfl⟩ := own_slice hown7; have b7 := hal.grown hgrow7 (by simp) (own_base ow))
          | (at_builtin; refine wpList_append_any (by rfl) (.tmp 216) (.tmp 217) 31 rfl w6.heap.size 3 i0 (.int .i64 0) 1 8 Try.underlying31 hi0 hz0 hz1 hz2 rfl (by decide) _ x1.length _ rfl hown7 A6 x2.length c6 (x2.map (Value.int .i64)) rfl (by simp) (ints_src hI6 b7) (ints_one x2) (by simp [maxLen]; omega) (by omega) b7.size ?_; intro v8 w8 hown8 hgrow8; rw [← List.map_append] at hown8; obtain ⟨A8, c8, rfl⟩ := own_slice hown8))
        have b8 := b7.grown hgrow8 b7.size (own_base hown7)
        have hI8 := (IntsAt.of_own hown8).2
        have hI9 := (hI2.below (hwr.trans ((hw5.mono hwr.size).trans ((hw6.mono (hwr.trans (hw5.mono hwr.size)).size).trans (b8.mono (hwr.trans ((hw5.mono hwr.size).trans (hw6.mono (hwr.trans (hw5.mono hwr.size)).size))).size)))))
        have KS := same_t A8 A2 (x1.length + x2.length) x.length c8 c2 (x1 ++ x2) x w8 (by simp) rfl hI8 hI9 (by simp; omega) (by omega)
        rw [decide_eq_true HX.out] at KS
        go_wp2_with (fail)
        go_at_call 19
        refine KS.mono ?_
        rintro e w9 ⟨rfl, hw9⟩
        go_wp2_with (fail)
        go_ret
        exact ⟨rfl, (b6.trans (b8.mono b6.size)).trans (hw9.mono (b6.trans (b8.mono b6.size)).size)⟩
      have ds : decide (tick < hi) = true := decide_eq_true r2
      have hat := HB.out.at (t := tick) r1 r2
      clear r1 r2
      obtain ⟨pb, pd, pf, pe, hpt⟩ : ∃ b d f e, gPlace ms tick = (b, d, f, e) := ⟨_, _, _, _, rfl⟩
      have KT : PlaceIs A c ms.length ms tick pb pd pf pe := fun W hW => by
        have := pplace_a A c ms tick W hn hW
        rwa [hpt] at this
      rw [hpt] at hat
      dsimp only at hat
      clear hpt
      have HAT := Lib.hid hat
      clear hat
      go_wp2_with (fail)
      go_at_call 15
      refine (KT _ hrW).mono ?_
      rintro e w4 ⟨rfl, hw4⟩
      have b4 := hwr.trans (hw4.mono hwr.size)
      go_wp2_with (fail)
      go_loopw [31, 162] (fun v i wk => ∃ (m : Nat) (v' : Bool), m ≤ x.length ∧ i = .int .i64 m ∧ v = .bool v' ∧ Hid (v' = decide (tick ∈ x.take m)) ∧ wk = w4) (fun _ i _ => x.length - (intOf i).toNat)
      case atStart => exact ⟨0, false, by omega, rfl, rfl, Lib.hid (by simp), by first | rfl | trivial⟩
      case round =>
        obtain ⟨m, v', hm, rfl, rfl, hv, rfl⟩ := hrel
        by_cases hmt : m < x.length
        · obtain ⟨b, o, rfl, hbb, hc⟩ := (hI2.below b4) (by omega)
          have g1 := hc m hmt
          clear hc
          have hstep : decide (tick ∈ x.take (m + 1)) = (decide (tick ∈ x.take m) || decide (gi x m = tick)) := by
            rw [List.take_succ_eq_append_getElem hmt]
            simp only [List.mem_append, List.mem_singleton, gi, List.getD_eq_getElem?_getD, List.getElem?_eq_getElem hmt, Option.getD_some]
            by_cases q : tick ∈ x.take m <;> simp [q, eq_comm]
          rw [← hv.out] at hstep
          have HS := Lib.hid hstep
          clear hstep
          obtain ⟨t, ht⟩ : ∃ t, t = gi x m := ⟨_, rfl⟩
          rw [← ht] at g1 HS
          clear ht
          cases v'
          · by_cases hq : t = tick
            · have dq : (t == tick) = true := beq_iff_eq.2 hq
              have HS2 : Hid (true = decide (tick ∈ x.take (m + 1))) := Lib.hid (by rw [HS.out]; simp [hq])
              clear hq
              go_wp2_with (fail)
              go_roundw
              case rel => exact ⟨m + 1, true, by omega, by go_num, rfl, HS2, by first | rfl | trivial⟩
              case measure => simp [intOf]; omega
            · have dq : (t == tick) = false := beq_eq_false_iff_ne.2 hq
              have HS2 : Hid (false = decide (tick ∈ x.take (m + 1))) := Lib.hid (by rw [HS.out]; simp [hq])
              clear hq
              go_wp2_with (fail)
              go_roundw
              case rel => exact ⟨m + 1, false, by omega, by go_num, rfl, HS2, by first | rfl | trivial⟩
              case measure => simp [intOf]; omega
          · have HS2 : Hid (true = decide (tick ∈ x.take (m + 1))) := Lib.hid (by rw [HS.out]; simp)
            go_wp2_with (fail)
            go_roundw
            case rel => exact ⟨m + 1, true, by omega, by go_num, rfl, HS2, by first | rfl | trivial⟩
            case measure => simp [intOf]; omega
        · obtain rfl : m = x.length := by omega
          rw [List.take_length] at hv
          have hwr0 := hwr
          have hwr := b4
          have hrW := h2.below hwr
          have bW := b2.trans (hwr.mono b2.size)
          by_cases z1 : pe = 0
          case neg =>
            have e1 : (pe == 0) = false := beq_eq_false_iff_ne.2 z1
            obtain rfl : v' = false := by rw [hv.out]; exact decide_eq_false fun h => z1 (HAT.out.1 h).1
            clear hv z1
            by_cases m1 : mid < lo
            · have dm : decide (mid < lo) = true := decide_eq_true m1
              clear m1
              go_wp2_with (fail)
              go_ret
              exact ⟨rfl, bW⟩
            have dm : decide (mid < lo) = false := decide_eq_false m1
            by_cases m2 : hi < mid
            · have dn : decide (hi < mid) = true := decide_eq_true m2
              clear m2
              go_wp2_with (fail)
              go_ret
              exact ⟨rfl, bW⟩
            have dn : decide (hi < mid) = false := decide_eq_false m2
            have hcut := HB.out.cut (mid := mid) (by omega) (by omega)
            have KA := barsIs (A := A) (c := c) hn hcut.1
            have KC := barsIs (A := A) (c := c) hn hcut.2.1
            have hx := hcut.2.2
            clear hcut
            generalize (gBars ms lo mid).1 = x1 at KA hx
            generalize (gBars ms mid hi).1 = x2 at KC hx
            have hlen : x1.length + x2.length = x.length := by rw [← hx, List.length_append]
            have HX := Lib.hid hx
            have HL := Lib.hid hlen
            have hl1 : x1.length ≤ 4096 := by omega
            have hl2 : x2.length ≤ 4096 := by omega
            clear hx hlen
            go_wp2_with (fail)
            go_at_call 17
            refine (KA _ hrW).mono ?_
            rintro e w5 ⟨A5, c5, rfl, hI5, hw5⟩
            have b5 := bW.trans (hw5.mono bW.size)
            have hr5 := hrW.below hw5
            go_wp2_with (fail)
            go_at_call 17
            refine (KC _ hr5).mono ?_
            rintro e w6 ⟨A6, c6, rfl, hI6, hw6⟩
            have b6 := b5.trans (hw6.mono b5.size)
            have hI5 := hI5.below hw6
            obtain ⟨i0, hi0, hz0, hz1, hz2⟩ := info_parts info3
            have ow := World.ownsRow_lit (base := w6.heap.size) (e := 3) (size := 1) w6 #[] 0 (Nat.le_refl _) (by simp [maxLen]) rfl
            have hal : Below w6.heap.size w6 (w6.alloc (.cells #[] 3)) := (Below.refl _ _).alloc (Nat.le_refl _) _
            go_wp2_with (first
              | (at_builtin; refine wpList_append_any (by rfl) (.tmp 214) (.tmp 215) 31 rfl w6.heap.size 3 i0 (.int .i64 0) 1 8 Try.underlying31 hi0 hz0 hz1 hz2 rfl (by decide) _ 0 [] rfl ow A5 x1.length c5 (x1.map (Value.int .i64)) rfl (by simp) (ints_src hI5 hal) (ints_one x1) (by simp [maxLen]; omega) (by omega) (by simp) ?_; intro v7 w7 hown7 hgrow7; simp only [Nat.zero_add, List.nil_append] at hown7; obtain ⟨A7, c7, rfl⟩ := own_slice hown7; have b7 := hal.grown hgrow7 (by simp) (own_base ow))
              | (at_builtin; refine wpList_append_any (by rfl) (.tmp 216) (.tmp 217) 31 rfl w6.heap.size 3 i0 (.int .i64 0) 1 8 Try.underlying31 hi0 hz0 hz1 hz2 rfl (by decide) _ x1.length _ rfl hown7 A6 x2.length c6 (x2.map (Value.int .i64)) rfl (by simp) (ints_src hI6 b7) (ints_one x2) (by simp [maxLen]; omega) (by omega) b7.size ?_; intro v8 w8 hown8 hgrow8; rw [← List.map_append] at hown8; obtain ⟨A8, c8, rfl⟩ := own_slice hown8))
            have b8 := b7.grown hgrow8 b7.size (own_base hown7)
            have hI8 := (IntsAt.of_own hown8).2
            have hI9 := (hI2.below (hwr.trans ((hw5.mono hwr.size).trans ((hw6.mono (hwr.trans (hw5.mono hwr.size)).size).trans (b8.mono (hwr.trans ((hw5.mono hwr.size).trans (hw6.mono (hwr.trans (hw5.mono hwr.size)).size))).size)))))
            have KS := same_t A8 A2 (x1.length + x2.length) x.length c8 c2 (x1 ++ x2) x w8 (by simp) rfl hI8 hI9 (by simp; omega) (by omega)
            rw [decide_eq_true HX.out] at KS
            go_wp2_with (fail)
            go_at_call 19
            refine KS.mono ?_
            rintro e w9 ⟨rfl, hw9⟩
            go_wp2_with (fail)
            go_ret
            exact ⟨rfl, (b6.trans (b8.mono b6.size)).trans (hw9.mono (b6.trans (b8.mono b6.size)).size)⟩
          have e1 : (pe == 0) = true := beq_iff_eq.2 z1
          by_cases z2 : pd = 0
          case neg =>
            have e2 : (pd == 0) = false := beq_eq_false_iff_ne.2 z2
            obtain rfl : v' = false := by rw [hv.out]; exact decide_eq_false fun h => z2 (HAT.out.1 h).2.1
            clear hv z1 z2
            by_cases m1 : mid < lo
            · have dm : decide (mid < lo) = true := decide_eq_true m1
              clear m1
              go_wp2_with (fail)
              go_ret
              exact ⟨rfl, bW⟩
            have dm : decide (mid < lo) = false := decide_eq_false m1
            by_cases m2 : hi < mid
            · have dn : decide (hi < mid) = true := decide_eq_true m2
              clear m2
              go_wp2_with (fail)
              go_ret
              exact ⟨rfl, bW⟩
            have dn : decide (hi < mid) = false := decide_eq_false m2
            have hcut := HB.out.cut (mid := mid) (by omega) (by omega)
            have KA := barsIs (A := A) (c := c) hn hcut.1
            have KC := barsIs (A := A) (c := c) hn hcut.2.1
            have hx := hcut.2.2
            clear hcut
            generalize (gBars ms lo mid).1 = x1 at KA hx
            generalize (gBars ms mid hi).1 = x2 at KC hx
            have hlen : x1.length + x2.length = x.length := by rw [← hx, List.length_append]
            have HX := Lib.hid hx
            have HL := Lib.hid hlen
            have hl1 : x1.length ≤ 4096 := by omega
            have hl2 : x2.length ≤ 4096 := by omega
            clear hx hlen
            go_wp2_with (fail)
            go_at_call 17
            refine (KA _ hrW).mono ?_
            rintro e w5 ⟨A5, c5, rfl, hI5, hw5⟩
            have b5 := bW.trans (hw5.mono bW.size)
            have hr5 := hrW.below hw5
            go_wp2_with (fail)
            go_at_call 17
            refine (KC _ hr5).mono ?_
            rintro e w6 ⟨A6, c6, rfl, hI6, hw6⟩
            have b6 := b5.trans (hw6.mono b5.size)
            have hI5 := hI5.below hw6
            obtain ⟨i0, hi0, hz0, hz1, hz2⟩ := info_parts info3
            have ow := World.ownsRow_lit (base := w6.heap.size) (e := 3) (size := 1) w6 #[] 0 (Nat.le_refl _) (by simp [maxLen]) rfl
            have hal : Below w6.heap.size w6 (w6.alloc (.cells #[] 3)) := (Below.refl _ _).alloc (Nat.le_refl _) _
            go_wp2_with (first
              | (at_builtin; refine wpList_append_any (by rfl) (.tmp 214) (.tmp 215) 31 rfl w6.heap.size 3 i0 (.int .i64 0) 1 8 Try.underlying31 hi0 hz0 hz1 hz2 rfl (by decide) _ 0 [] rfl ow A5 x1.length c5 (x1.map (Value.int .i64)) rfl (by simp) (ints_src hI5 hal) (ints_one x1) (by simp [maxLen]; omega) (by omega) (by simp) ?_; intro v7 w7 hown7 hgrow7; simp only [Nat.zero_add, List.nil_append] at hown7; obtain ⟨A7, c7, rfl⟩ := own_slice hown7; have b7 := hal.grown hgrow7 (by simp) (own_base ow))
              | (at_builtin; refine wpList_append_any (by rfl) (.tmp 216) (.tmp 217) 31 rfl w6.heap.size 3 i0 (.int .i64 0) 1 8 Try.underlying31 hi0 hz0 hz1 hz2 rfl (by decide) _ x1.length _ rfl hown7 A6 x2.length c6 (x2.map (Value.int .i64)) rfl (by simp) (ints_src hI6 b7) (ints_one x2) (by simp [maxLen]; omega) (by omega) b7.size ?_; intro v8 w8 hown8 hgrow8; rw [← List.map_append] at hown8; obtain ⟨A8, c8, rfl⟩ := own_slice hown8))
            have b8 := b7.grown hgrow8 b7.size (own_base hown7)
            have hI8 := (IntsAt.of_own hown8).2
            have hI9 := (hI2.below (hwr.trans ((hw5.mono hwr.size).trans ((hw6.mono (hwr.trans (hw5.mono hwr.size)).size).trans (b8.mono (hwr.trans ((hw5.mono hwr.size).trans (hw6.mono (hwr.trans (hw5.mono hwr.size)).size))).size)))))
            have KS := same_t A8 A2 (x1.length + x2.length) x.length c8 c2 (x1 ++ x2) x w8 (by simp) rfl hI8 hI9 (by simp; omega) (by omega)
            rw [decide_eq_true HX.out] at KS
            go_wp2_with (fail)
            go_at_call 19
            refine KS.mono ?_
            rintro e w9 ⟨rfl, hw9⟩
            go_wp2_with (fail)
            go_ret
            exact ⟨rfl, (b6.trans (b8.mono b6.size)).trans (hw9.mono (b6.trans (b8.mono b6.size)).size)⟩
          have e2 : (pd == 0) = true := beq_iff_eq.2 z2
          by_cases z3 : pf = 0
          case neg =>
            have e3 : (pf == 0) = false := beq_eq_false_iff_ne.2 z3
            obtain rfl : v' = false := by rw [hv.out]; exact decide_eq_false fun h => z3 (HAT.out.1 h).2.2
            clear hv z1 z2 z3
            by_cases m1 : mid < lo
            · have dm : decide (mid < lo) = true := decide_eq_true m1
              clear m1
              go_wp2_with (fail)
              go_ret
              exact ⟨rfl, bW⟩
            have dm : decide (mid < lo) = false := decide_eq_false m1
            by_cases m2 : hi < mid
            · have dn : decide (hi < mid) = true := decide_eq_true m2
              clear m2
              go_wp2_with (fail)
              go_ret
              exact ⟨rfl, bW⟩
            have dn : decide (hi < mid) = false := decide_eq_false m2
            have hcut := HB.out.cut (mid := mid) (by omega) (by omega)
            have KA := barsIs (A := A) (c := c) hn hcut.1
            have KC := barsIs (A := A) (c := c) hn hcut.2.1
            have hx := hcut.2.2
            clear hcut
            generalize (gBars ms lo mid).1 = x1 at KA hx
            generalize (gBars ms mid hi).1 = x2 at KC hx
            have hlen : x1.length + x2.length = x.length := by rw [← hx, List.length_append]
            have HX := Lib.hid hx
            have HL := Lib.hid hlen
            have hl1 : x1.length ≤ 4096 := by omega
            have hl2 : x2.length ≤ 4096 := by omega
            clear hx hlen
            go_wp2_with (fail)
            go_at_call 17
            refine (KA _ hrW).mono ?_
            rintro e w5 ⟨A5, c5, rfl, hI5, hw5⟩
            have b5 := bW.trans (hw5.mono bW.size)
            have hr5 := hrW.below hw5
            go_wp2_with (fail)
            go_at_call 17
            refine (KC _ hr5).mono ?_
            rintro e w6 ⟨A6, c6, rfl, hI6, hw6⟩
            have b6 := b5.trans (hw6.mono b5.size)
            have hI5 := hI5.below hw6
            obtain ⟨i0, hi0, hz0, hz1, hz2⟩ := info_parts info3
            have ow := World.ownsRow_lit (base := w6.heap.size) (e := 3) (size := 1) w6 #[] 0 (Nat.le_refl _) (by simp [maxLen]) rfl
            have hal : Below w6.heap.size w6 (w6.alloc (.cells #[] 3)) := (Below.refl _ _).alloc (Nat.le_refl _) _
            go_wp2_with (first
              | (at_builtin; refine wpList_append_any (by rfl) (.tmp 214) (.tmp 215) 31 rfl w6.heap.size 3 i0 (.int .i64 0) 1 8 Try.underlying31 hi0 hz0 hz1 hz2 rfl (by decide) _ 0 [] rfl ow A5 x1.length c5 (x1.map (Value.int .i64)) rfl (by simp) (ints_src hI5 hal) (ints_one x1) (by simp [maxLen]; omega) (by omega) (by simp) ?_; intro v7 w7 hown7 hgrow7; simp only [Nat.zero_add, List.nil_append] at hown7; obtain ⟨A7, c7, rfl⟩ := own_slice hown7; have b7 := hal.grown hgrow7 (by simp) (own_base ow))
              | (at_builtin; refine wpList_append_any (by rfl) (.tmp 216) (.tmp 217) 31 rfl w6.heap.size 3 i0 (.int .i64 0) 1 8 Try.underlying31 hi0 hz0 hz1 hz2 rfl (by decide) _ x1.length _ rfl hown7 A6 x2.length c6 (x2.map (Value.int .i64)) rfl (by simp) (ints_src hI6 b7) (ints_one x2) (by simp [maxLen]; omega) (by omega) b7.size ?_; intro v8 w8 hown8 hgrow8; rw [← List.map_append] at hown8; obtain ⟨A8, c8, rfl⟩ := own_slice hown8))
            have b8 := b7.grown hgrow8 b7.size (own_base hown7)
            have hI8 := (IntsAt.of_own hown8).2
            have hI9 := (hI2.below (hwr.trans ((hw5.mono hwr.size).trans ((hw6.mono (hwr.trans (hw5.mono hwr.size)).size).trans (b8.mono (hwr.trans ((hw5.mono hwr.size).trans (hw6.mono (hwr.trans (hw5.mono hwr.size)).size))).size)))))
            have KS := same_t A8 A2 (x1.length + x2.length) x.length c8 c2 (x1 ++ x2) x w8 (by simp) rfl hI8 hI9 (by simp; omega) (by omega)
            rw [decide_eq_true HX.out] at KS
            go_wp2_with (fail)
            go_at_call 19
            refine KS.mono ?_
            rintro e w9 ⟨rfl, hw9⟩
            go_wp2_with (fail)
            go_ret
            exact ⟨rfl, (b6.trans (b8.mono b6.size)).trans (hw9.mono (b6.trans (b8.mono b6.size)).size)⟩
          have e3 : (pf == 0) = true := beq_iff_eq.2 z3
          obtain rfl : v' = true := by rw [hv.out]; exact decide_eq_true (HAT.out.2 ⟨z1, z2, z3⟩)
          clear hv z1 z2 z3
          by_cases m1 : mid < lo
          · have dm : decide (mid < lo) = true := decide_eq_true m1
            clear m1
            go_wp2_with (fail)
            go_ret
            exact ⟨rfl, bW⟩
          have dm : decide (mid < lo) = false := decide_eq_false m1
          by_cases m2 : hi < mid
          · have dn : decide (hi < mid) = true := decide_eq_true m2
            clear m2
            go_wp2_with (fail)
            go_ret
            exact ⟨rfl, bW⟩
          have dn : decide (hi < mid) = false := decide_eq_false m2
          have hcut := HB.out.cut (mid := mid) (by omega) (by omega)
          have KA := barsIs (A := A) (c := c) hn hcut.1
          have KC := barsIs (A := A) (c := c) hn hcut.2.1
          have hx := hcut.2.2
          clear hcut
          generalize (gBars ms lo mid).1 = x1 at KA hx
          generalize (gBars ms mid hi).1 = x2 at KC hx
          have hlen : x1.length + x2.length = x.length := by rw [← hx, List.length_append]
          have HX := Lib.hid hx
          have HL := Lib.hid hlen
          have hl1 : x1.length ≤ 4096 := by omega
          have hl2 : x2.length ≤ 4096 := by omega
          clear hx hlen
          go_wp2_with (fail)
          go_at_call 17
          refine (KA _ hrW).mono ?_
          rintro e w5 ⟨A5, c5, rfl, hI5, hw5⟩
          have b5 := bW.trans (hw5.mono bW.size)
          have hr5 := hrW.below hw5
          go_wp2_with (fail)
          go_at_call 17
          refine (KC _ hr5).mono ?_
          rintro e w6 ⟨A6, c6, rfl, hI6, hw6⟩
          have b6 := b5.trans (hw6.mono b5.size)
          have hI5 := hI5.below hw6
          obtain ⟨i0, hi0, hz0, hz1, hz2⟩ := info_parts info3
          have ow := World.ownsRow_lit (base := w6.heap.size) (e := 3) (size := 1) w6 #[] 0 (Nat.le_refl _) (by simp [maxLen]) rfl
          have hal : Below w6.heap.size w6 (w6.alloc (.cells #[] 3)) := (Below.refl _ _).alloc (Nat.le_refl _) _
          go_wp2_with (first
            | (at_builtin; refine wpList_append_any (by rfl) (.tmp 214) (.tmp 215) 31 rfl w6.heap.size 3 i0 (.int .i64 0) 1 8 Try.underlying31 hi0 hz0 hz1 hz2 rfl (by decide) _ 0 [] rfl ow A5 x1.length c5 (x1.map (Value.int .i64)) rfl (by simp) (ints_src hI5 hal) (ints_one x1) (by simp [maxLen]; omega) (by omega) (by simp) ?_; intro v7 w7 hown7 hgrow7; simp only [Nat.zero_add, List.nil_append] at hown7; obtain ⟨A7, c7, rfl⟩ := own_slice hown7; have b7 := hal.grown hgrow7 (by simp) (own_base ow))
            | (at_builtin; refine wpList_append_any (by rfl) (.tmp 216) (.tmp 217) 31 rfl w6.heap.size 3 i0 (.int .i64 0) 1 8 Try.underlying31 hi0 hz0 hz1 hz2 rfl (by decide) _ x1.length _ rfl hown7 A6 x2.length c6 (x2.map (Value.int .i64)) rfl (by simp) (ints_src hI6 b7) (ints_one x2) (by simp [maxLen]; omega) (by omega) b7.size ?_; intro v8 w8 hown8 hgrow8; rw [← List.map_append] at hown8; obtain ⟨A8, c8, rfl⟩ := own_slice hown8))
          have b8 := b7.grown hgrow8 b7.size (own_base hown7)
          have hI8 := (IntsAt.of_own hown8).2
          have hI9 := (hI2.below (hwr.trans ((hw5.mono hwr.size).trans ((hw6.mono (hwr.trans (hw5.mono hwr.size)).size).trans (b8.mono (hwr.trans ((hw5.mono hwr.size).trans (hw6.mono (hwr.trans (hw5.mono hwr.size)).size))).size)))))
          have KS := same_t A8 A2 (x1.length + x2.length) x.length c8 c2 (x1 ++ x2) x w8 (by simp) rfl hI8 hI9 (by simp; omega) (by omega)
          rw [decide_eq_true HX.out] at KS
          go_wp2_with (fail)
          go_at_call 19
          refine KS.mono ?_
          rintro e w9 ⟨rfl, hw9⟩
          go_wp2_with (fail)
          go_ret
          exact ⟨rfl, (b6.trans (b8.mono b6.size)).trans (hw9.mono (b6.trans (b8.mono b6.size)).size)⟩
end Go.Proofs.Ytdphnlcppaaccaa
