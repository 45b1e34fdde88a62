/-
  The law GateMixed walked: it answers true. Conditions: the bytes and the words are in their bounds.
-/
import Derived.Test.YtoeigfkllamplaaBtw
import Derived.Test.YtoeigfkllamplaaApp
namespace Go.Proofs.Ytoeigfkllamplaa
open Go.RowKit
attribute [local go_sem] Oper.semAt_some

theorem ints_src {w w' : World} {A : Option Addr} {xs : List Int} (h : IntsAt .i64 w A xs) (hb : Below w.heap.size w w') : 0 < xs.length → ∃ ad, A = some ad ∧ ∀ j u, (xs.map (Value.int .i64))[j]? = some u → w'.cell? (ad.add j) = some u := fun h0 => by
  obtain ⟨b, o, rfl, hlt, hc⟩ := h h0
  refine ⟨_, rfl, fun j u hj => ?_⟩
  have hjl : j < xs.length := by
    rcases Nat.lt_or_ge j xs.length with h | h
    · exact h
    · rw [List.getElem?_eq_none (by simpa using h)] at hj; cases hj
  have e := (hb.cell (p := ⟨b, o + j, none⟩) hlt).trans (hc j hjl)
  rw [List.getElem?_map, List.getElem?_eq_getElem hjl] at hj
  simp only [Option.map_some, Option.some.injEq] at hj
  rw [← hj]
  simpa [Addr.add_lit, gi, hjl] using e
theorem ints_one (xs : List Int) : ∀ u ∈ xs.map (Value.int .i64), u.oneCell' = true := fun u hu => by
  obtain ⟨x, _, rfl⟩ := List.mem_map.1 hu
  rfl

/-- What has been put behind the doubled energies is quiet. -/
def MixRel (l : List Int) (floor : Int) (n : Nat) (N : List Int) : Prop := ∃ q : List Int, N.Perm (l ++ l ++ q) ∧ q.length ≤ n ∧ ∀ x ∈ q, 0 ≤ x ∧ x < floor
theorem MixRel.len {l : List Int} {floor : Int} {n : Nat} {N : List Int} (h : MixRel l floor n N) : N.length ≤ l.length + l.length + n := by
  obtain ⟨q, hp, hq, _⟩ := h
  have := hp.length_eq
  simp only [List.length_append] at this
  omega
theorem MixRel.more {l : List Int} {floor : Int} {n : Nat} {N : List Int} (h : MixRel l floor n N) {y : Int} (h0 : 0 ≤ y) (h1 : y < floor) : MixRel l floor (n + 1) (N ++ [y]) := by
  obtain ⟨q, hp, hq, hb⟩ := h
  refine ⟨q ++ [y], ?_, by simp; omega, fun x hx => ?_⟩
  · rw [← List.append_assoc]
    exact hp.append_right _
  · rcases List.mem_append.1 hx with h | h
    · exact hb x h
    · rw [List.mem_singleton.1 h]; exact ⟨h0, h1⟩
theorem MixRel.mono {l : List Int} {floor : Int} {n m : Nat} {N : List Int} (h : MixRel l floor n N) (hm : n ≤ m) : MixRel l floor m N := by
  obtain ⟨q, hp, hq, hb⟩ := h
  exact ⟨q, hp, by omega, hb⟩
theorem MixRel.swap {l : List Int} {floor : Int} {n : Nat} {N : List Int} (h : MixRel l floor n N) {a b : Nat} (ha : a < N.length) (hb : b < N.length) : MixRel l floor n ((N.set a (gi N b)).set b (gi N a)) := by
  obtain ⟨q, hp, hq, hbd⟩ := h
  refine ⟨q, ?_, hq, hbd⟩
  have e1 : gi N b = N[b] := by simp [gi, hb]
  have e2 : gi N a = N[a] := by simp [gi, ha]
  rw [e1, e2]
  exact (List.set_set_perm ha hb).trans hp

/-- A slice of small numbers, as it lies. -/
structure SmallAt (k : IntKind) (top : Int) (w : World) (A : Option Addr) (xs : List Int) : Prop where
  at_ : IntsAt k w A xs
  bd : ∀ i, i < xs.length → 0 ≤ gi xs i ∧ gi xs i ≤ top
theorem SmallAt.below {k : IntKind} {top : Int} {w w' : World} {A : Option Addr} {xs : List Int} (h : SmallAt k top w A xs) (hb : Below w.heap.size w w') : SmallAt k top w' A xs := ⟨h.at_.below hb, h.bd⟩

set_option maxRecDepth 20000 in
set_option maxHeartbeats 4000000 in
theorem mixed_t (A : Option Addr) (c : Nat) (l : List Int) (floor : Int) (B : Option Addr) (cb : Nat) (ts : List Int) (C : Option Addr) (cc : Nat) (qs : List Int) (w : World) (h : IntsAt .i64 w A l) (hB : SmallAt .u8 255 w B ts) (hC : SmallAt .u16 65535 w C qs) :
    Calls Try.prog 5 #[.slice A l.length c, .int .i64 floor, .slice B ts.length cb, .slice C qs.length cc] w (Yes w) := by
  by_cases hl : 200 < l.length
  · have d : decide (200 < (l.length : Int)) = true := decide_eq_true (by omega)
    go_enter Try.func5, Try.ntmps5
    go_wp2_with (go_at_call 6; refine (sane_t _).mono ?_; rintro e w1 ⟨rfl, hw1⟩)
    go_ret
    exact ⟨rfl, hw1⟩
  have d : decide (200 < (l.length : Int)) = false := decide_eq_false (by omega)
  by_cases hl2 : 200 < ts.length
  · have d2 : decide (200 < (ts.length : Int)) = true := decide_eq_true (by omega)
    go_enter Try.func5, Try.ntmps5
    go_wp2_with (go_at_call 6; refine (sane_t _).mono ?_; rintro e w1 ⟨rfl, hw1⟩)
    go_ret
    exact ⟨rfl, hw1⟩
  have d2 : decide (200 < (ts.length : Int)) = false := decide_eq_false (by omega)
  by_cases hl3 : 200 < qs.length
  · have d3 : decide (200 < (qs.length : Int)) = true := decide_eq_true (by omega)
    go_enter Try.func5, Try.ntmps5
    go_wp2_with (go_at_call 6; refine (sane_t _).mono ?_; rintro e w1 ⟨rfl, hw1⟩)
    go_ret
    exact ⟨rfl, hw1⟩
  have d3 : decide (200 < (qs.length : Int)) = false := decide_eq_false (by omega)
  have hn : l.length ≤ 1000000 := by omega
  have K9 := fun W (h : IntsAt .i64 W A l) => loud_t A c l floor W hn h
  unfold Loud at K9
  by_cases he : (gGated l floor).2 = 0
  case neg =>
    have hg := gG_err he
    rw [hg.2] at K9
    obtain ⟨er, her⟩ : ∃ x, x = (gGated l floor).2 := ⟨_, rfl⟩
    rw [← her] at K9 he
    dsimp only at K9
    have d1 : (er != 0) = true := bne_iff_ne.2 he
    clear hg her he
    go_enter Try.func5, Try.ntmps5
    go_wp2_with (first
      | (go_at_call 6; refine (sane_t _).mono ?_; rintro e w1 ⟨rfl, hw1⟩; have h1 := h.below hw1)
      | (go_at_call 9; refine (K9 _ h1).mono ?_; rintro e w4 ⟨rfl, hw4⟩; have b4 := hw1.trans (hw4.mono hw1.size)))
    go_ret
    exact ⟨rfl, b4⟩
  obtain ⟨_, hall, hf, _⟩ := gG_ok he
  have hL := gL_of (by omega) hall hf
  obtain ⟨n, ok, hnL⟩ : ∃ n ok, gLoud l floor = (n, ok, 0) := by
    rw [hL]
    split
    · exact ⟨_, _, rfl⟩
    · exact ⟨_, _, rfl⟩
  have KM : ∀ N, MixRel l floor qs.length N → ∀ W V cp, IntsAt .i64 W V N → Calls Try.prog 9 #[.slice V N.length cp, .int .i64 floor] W fun e w' => e = .returned (.tuple #[.int .i64 n, .bool ok, .int .i64 0]) ∧ Below W.heap.size W w' := fun N hN W V cp hV => by
    have hlen := hN.len
    have := loud_t V cp N floor W (by omega) hV
    unfold Loud at this
    obtain ⟨q, hp, hq, hb⟩ := hN
    rw [loud_mixed (by omega) (by omega) hall hf hp hb, hnL] at this
    exact this
  rw [hnL] at K9
  dsimp only at K9
  clear hnL hL hall he
  obtain ⟨i0, hi0, hz0, hz1, hz2⟩ := info_parts info3
  go_enter Try.func5, Try.ntmps5
  go_wp2_with (first
    | (go_at_call 6; refine (sane_t _).mono ?_; rintro e w1 ⟨rfl, hw1⟩; have h1 := h.below hw1)
    | (go_at_call 9; refine (K9 _ h1).mono ?_; rintro e w4 ⟨rfl, hw4⟩; have b4 := hw1.trans (hw4.mono hw1.size); have h4 := h1.below hw4; have ow := World.ownsRow_lit (base := w4.heap.size) (e := 3) (size := 1) w4 #[] 0 (Nat.le_refl _) (by simp [maxLen]) rfl; have hal : Below w4.heap.size w4 (w4.alloc (.cells #[] 3)) := (Below.refl _ _).alloc (Nat.le_refl _) _)
    | (at_builtin; refine wpList_append_any (by rfl) (.tmp 51) (.tmp 52) 22 rfl w4.heap.size 3 i0 (.int .i64 0) 1 8 Try.underlying22 hi0 hz0 hz1 hz2 rfl (by decide) _ 0 [] rfl ow A l.length c (l.map (Value.int .i64)) rfl (by simp) (ints_src h4 hal) (ints_one l) (by simp [maxLen]; omega) (by omega) (by simp) ?_; intro v7 w7 hown7 hgrow7; simp only [Nat.zero_add, List.nil_append] at hown7; obtain ⟨A7, c7, rfl⟩ := own_slice hown7; have b7 := hal.grown hgrow7 (by simp) (own_base ow))
    | (at_builtin; refine wpList_append_any (by rfl) (.tmp 53) (.tmp 54) 22 rfl w4.heap.size 3 i0 (.int .i64 0) 1 8 Try.underlying22 hi0 hz0 hz1 hz2 rfl (by decide) _ l.length _ rfl hown7 A l.length c (l.map (Value.int .i64)) rfl (by simp) (ints_src h4 b7) (ints_one l) (by simp [maxLen]; omega) (by omega) b7.size ?_; intro v8 w8 hown8 hgrow8; rw [← List.map_append] at hown8; obtain ⟨A8, c8, rfl⟩ := own_slice hown8; have b8 := b7.grown hgrow8 b7.size (own_base hown7)))
  have h8 := hB.below (b4.trans (b8.mono b4.size))
  have g8 := hC.below (b4.trans (b8.mono b4.size))
  have e8 : l.length + l.length = (l ++ l).length := by simp
  rw [e8] at hown8 ⊢
  obtain ⟨N8, hN8⟩ : ∃ N, N = l ++ l := ⟨_, rfl⟩
  rw [← hN8] at hown8 ⊢
  have M8 : MixRel l floor 0 N8 := ⟨[], by rw [hN8]; simp, by simp, fun x hx => by simp at hx⟩
  have hM8 := Lib.hid M8
  clear hN8 M8 e8 K9 ow hal hown7 hgrow7 hgrow8 b7
  go_loopw [12, 13] (fun v i wr => ∃ (k : Nat) (N : List Int), k ≤ qs.length ∧ i = .int .i64 k ∧ Hid (MixRel l floor k N) ∧ wr.ownsRow w4.heap.size 3 1 v N.length (N.map (Value.int .i64)) ∧ Below w4.heap.size w4 wr) (fun _ i _ => qs.length - (intOf i).toNat)
  case atStart => exact ⟨0, N8, by omega, rfl, hM8, hown8, b8⟩
  case round =>
    obtain ⟨k, N, hk, rfl, hN, hown, hwr⟩ := hrel
    obtain ⟨V, cp, rfl⟩ := own_slice hown
    have hNl := (hN.out).len
    have hsz := hwr.size
    by_cases hlt : k < qs.length
    · obtain ⟨b, o, rfl, hbb, hc⟩ := (hC.below (b4.trans (hwr.mono b4.size))).at_ (by omega)
      have g1 := hc k hlt
      have hbd := hC.bd k hlt
      obtain ⟨y, hy⟩ : ∃ y, y = gi qs k := ⟨_, rfl⟩
      rw [← hy] at g1 hbd
      have y0 := hbd.1
      have y1 := hbd.2
      clear hc hbd hy
      by_cases hq : y < floor
      · have d4 : decide (y < floor) = true := decide_eq_true hq
        have E := Lib.hid ((hN.out).more y0 hq)
        go_wp2_with (at_builtin; refine wpList_append_own _ rfl _ _ 22 rfl w4.heap.size 3 i0 (.int .i64 0) 1 8 Try.underlying22 hi0 hz0 hz1 hz2 rfl (by decide) _ _ _ rfl (hown.alloc _) ⟨wr.heap.size, 0, none⟩ 1 1 [.int .i64 y] rfl rfl (cell_one_new _ _ _) (by simp [Value.oneCell']) (by simp [maxLen]; omega) (by omega) (by have := hwr.size; simp; omega) ?_; intro v' w' hown' hgrow _)
        go_roundw
        case rel =>
          refine ⟨k + 1, N ++ [y], by omega, by go_num, E, by simpa using hown', ?_⟩
          exact (hwr.alloc hwr.size _).grown hgrow (by have := hwr.size; simp; omega) (own_base hown)
        case measure => simp [intOf]; omega
      · have d4 : decide (y < floor) = false := decide_eq_false hq
        go_wp2_with (fail)
        go_roundw
        case rel => exact ⟨k + 1, N, by omega, by go_num, Lib.hid ((hN.out).mono (by omega)), hown, hwr⟩
        case measure => simp [intOf]; omega
    · obtain rfl : k = qs.length := by omega
      go_wp2_with (fail)
      go_loopw [14] (fun i wk => ∃ (k : Nat) (N' : List Int), k ≤ ts.length ∧ i = .int .i64 k ∧ Hid (MixRel l floor qs.length N') ∧ Hid (N'.length = N.length) ∧ wk.ownsRow w4.heap.size 3 1 (.slice V N.length cp) N.length (N'.map (Value.int .i64)) ∧ Below w4.heap.size w4 wk) (fun i _ => ts.length - (intOf i).toNat)
      case atStart => exact ⟨0, N, by omega, rfl, hN, Lib.hid rfl, hown, hwr⟩
      case round =>
        obtain ⟨k, N', hk, rfl, hN', hNe, hown', hwk⟩ := hrel
        by_cases hlt : k < ts.length
        case neg =>
          obtain rfl : k = ts.length := by omega
          have K := KM N' hN'.out wr V cp (IntsAt.of_own hown').2
          rw [hNe.out] at K
          go_wp2_with (fail)
          go_at_call 9
          refine K.mono ?_
          rintro e w9 ⟨rfl, hw9⟩
          go_wp2_with (fail)
          go_ret
          exact ⟨rfl, (b4.trans (hwk.mono b4.size)).trans (hw9.mono (b4.trans (hwk.mono b4.size)).size)⟩
        by_cases hz : N.length = 0
        case pos =>
          have z1 : decide (0 < (N.length : Int)) = false := decide_eq_false (by omega)
          have z2 : decide (0 < N.length) = false := decide_eq_false (by omega)
          have HZ := Lib.hid hz
          clear hz
          have K := KM N' hN'.out wr V cp (IntsAt.of_own hown').2
          rw [hNe.out] at K
          go_wp2_with (fail)
          go_at_call 9
          refine K.mono ?_
          rintro e w9 ⟨rfl, hw9⟩
          go_wp2_with (fail)
          go_ret
          exact ⟨rfl, (b4.trans (hwk.mono b4.size)).trans (hw9.mono (b4.trans (hwk.mono b4.size)).size)⟩
        have z1 : decide (0 < (N.length : Int)) = true := decide_eq_true (by omega)
        have z2 : decide (0 < N.length) = true := decide_eq_true (by omega)
        have z3 : ¬ (N.length : Int) = 0 := by omega
        obtain ⟨bt, ot, rfl, hbt, hct⟩ := (hB.below (b4.trans (hwk.mono b4.size))).at_ (by omega)
        have g1 := hct k hlt
        have hbd := hB.bd k hlt
        obtain ⟨T, hT⟩ : ∃ T : Nat, (T : Int) = gi ts k := ⟨(gi ts k).toNat, by omega⟩
        rw [← hT] at g1
        have T1 : T ≤ 255 := by omega
        clear hbd hT hct
        obtain ⟨a, ha⟩ : ∃ a, a = k % N.length := ⟨_, rfl⟩
        have e1 : (k : Int) % (N.length : Int) = (a : Int) := by rw [ha]; exact (Int.natCast_emod k N.length).symm
        have a1 : a < N.length := by rw [ha]; exact Nat.mod_lt _ (by omega)
        obtain ⟨d, hd⟩ : ∃ d, d = T % N.length := ⟨_, rfl⟩
        have e2 : (T : Int) % (N.length : Int) = (d : Int) := by rw [hd]; exact (Int.natCast_emod T N.length).symm
        have d1 : d < N.length := by rw [hd]; exact Nat.mod_lt _ (by omega)
        clear ha hd
        rcases hown'.2 with ⟨_, hx0⟩ | ⟨g, cap, cur, hv, hgb, hgh, hrest⟩
        · exact absurd hx0 (by omega)
        obtain rfl : V = some ⟨g, 0, none⟩ := by injection hv
        have hgl := (Array.getElem?_eq_some_iff.1 hgh).1
        clear hrest hv hgh
        have ca : wr.cell? ⟨g, a, none⟩ = some (.int .i64 (gi N' a)) := by
          rw [hown'.cellAt a (by omega), List.getElem?_map]
          simp [gi, show a < N'.length by rw [hNe.out]; exact a1]
        have cd : wr.cell? ⟨g, d, none⟩ = some (.int .i64 (gi N' d)) := by
          rw [hown'.cellAt d (by omega), List.getElem?_map]
          simp [gi, show d < N'.length by rw [hNe.out]; exact d1]
        have fa := hown'.frozenAt a
        have fd := hown'.frozenAt d
        have hs1 := (hown'.stored a (.int .i64 (gi N' d))).1
        have cd2 : (wr.setCell ⟨g, a, none⟩ (.int .i64 (gi N' d))).cell? ⟨g, d, none⟩ = some (.int .i64 (gi N' d)) := by
          rw [hs1.cellAt d (by omega), List.getElem?_set]
          have hdl : d < N'.length := by rw [hNe.out]; exact d1
          split
          · rename_i h
            subst h
            simp [hdl]
          · rw [List.getElem?_map]
            simp [gi, hdl]
        have fd2 := hs1.frozenAt d
        clear hs1
        have HO := Lib.hid ((hown'.stored a (.int .i64 (gi N' d))).1.stored d (.int .i64 (gi N' a))).1
        have HM := Lib.hid ((hN'.out).swap (a := a) (b := d) (by rw [hNe.out]; exact a1) (by rw [hNe.out]; exact d1))
        go_wp2_with (fail)
        go_roundw
        case rel =>
          refine ⟨k + 1, (N'.set a (gi N' d)).set d (gi N' a), by omega, by go_num, HM, Lib.hid (by simpa using hNe.out), ?_, ?_⟩
          · have := HO.out
            rw [List.map_set, List.map_set]
            exact this
          · exact (hwk.setCell (by simpa using hgb) _).setCell (by simpa using hgb) _
        case measure => simp [intOf]; omega
end Go.Proofs.Ytoeigfkllamplaa
