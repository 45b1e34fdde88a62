/-
  The chapter's examples of the gate: 'sane' answers true.
-/
import Derived.Test.YtoeigfkllamplaaLevel
import Derived.Test.YtoeigfkllamplaaLoud
namespace Go.Proofs.Ytoeigfkllamplaa
open Go.RowKit
attribute [local go_sem] Oper.semAt_some

theorem allE_of {l : List Int} (h : l.all (fun x => decide (0 ≤ x) && decide (x ≤ 4611686018427387904)) = true) : AllE l := fun x hx => by
  have := List.all_eq_true.1 h x hx
  simp only [Bool.and_eq_true, decide_eq_true_eq] at this
  exact this
theorem gGated_of {l : List Int} {floor : Int} (h1 : l.length ≤ 65536) (h2 : AllE l) (h3 : okE floor) : gGated l floor = if thr l floor = [] then ([], 0) else (thr (thr l floor) (tenth (meanE (thr l floor))), 0) := by
  unfold gGated
  rw [if_neg (by omega), if_neg (not_not_intro ⟨h2, h3⟩)]
theorem s5 : gGated [100, 5, 0] 1 = ([100], 0) := by
  rw [gGated_of (by decide) (allE_of (by decide)) ⟨by decide, by decide⟩]
  decide
theorem s5b : gGated [4611686018427387904, 4611686018427387904] 0 = ([4611686018427387904, 4611686018427387904], 0) := by
  rw [gGated_of (by decide) (allE_of (by decide)) ⟨by decide, by decide⟩]
  decide
theorem s5c : gGated [] 0 = ([], 0) := by
  rw [gGated_of (by decide) (allE_of (by decide)) ⟨by decide, by decide⟩]
  decide
theorem s5d : gGated [-1] 0 = ([], 1) := by
  unfold gGated
  rw [if_neg (by decide), if_pos (fun h => by have := (h.1 (-1) (by simp)).1; omega)]
theorem s7 : gGated [] (-1) = ([], 1) := by
  unfold gGated
  rw [if_neg (by decide), if_pos (fun h => by have := h.2.1; omega)]
theorem s6 {l : List Int} (h : l.length = 65537) (f : Int) : gGated l f = ([], 2) := by
  unfold gGated
  rw [if_pos (by omega)]
theorem s1 : gLoud [100, 5, 0] 1 = (100, true, 0) := by unfold gLoud; rw [s5]; decide
theorem s2 : gLoud [] 0 = (0, false, 0) := by unfold gLoud; rw [s5c]; decide
theorem s3 : gLoud [4611686018427387904, 4611686018427387904] 0 = (4611686018427387904, true, 0) := by unfold gLoud; rw [s5b]; decide
theorem s4 : gLoud [-1] 0 = (0, false, 1) := by unfold gLoud; rw [s5d]; decide

theorem intsNew (W : World) (cs : Array Value) (xs : List Int) (h : cs = (xs.map (Value.int .i64)).toArray) : IntsAt .i64 (W.alloc (.cells cs 3)) (some ⟨W.heap.size, 0, none⟩) xs := fun _ => by
  subst h
  refine ⟨_, _, rfl, by simp, fun i hi => ?_⟩
  have e := (Blk.new W 3 (xs.map (Value.int .i64)).toArray).cell i
  rw [Nat.zero_add, e]
  simp [gi, hi]

def LoudIs (A : Option Addr) (n c : Nat) (f x : Int) (b : Bool) (e : Int) (w : World) : Prop :=
  Calls Try.prog 9 #[.slice A n c, .int .i64 f] w fun y w' => y = .returned (.tuple #[.int .i64 x, .bool b, .int .i64 e]) ∧ Below w.heap.size w w'
theorem loudIs {A : Option Addr} {c : Nat} {l : List Int} {f x : Int} {b : Bool} {e : Int} {w : World} (hn : l.length ≤ 1000000) (h : gLoud l f = (x, b, e)) (hx : IntsAt .i64 w A l) : LoudIs A l.length c f x b e w := by
  have := loud_t A c l f w hn hx
  unfold Loud at this
  rw [h] at this
  exact this
def GatedIs (A : Option Addr) (n c : Nat) (f : Int) (x : List Int) (e : Int) (w : World) : Prop :=
  Calls Try.prog 7 #[.slice A n c, .int .i64 f] w fun y w' => ∃ B d, y = .returned (.tuple #[.slice B x.length d, .int .i64 e]) ∧ IntsAt .i64 w' B x ∧ Below w.heap.size w w'
theorem gatedIs {A : Option Addr} {c : Nat} {l : List Int} {f : Int} {x : List Int} {e : Int} {w : World} (hn : l.length ≤ 1000000) (h : gGated l f = (x, e)) (hx : IntsAt .i64 w A l) : GatedIs A l.length c f x e w := by
  have := gated_t A c l f w hn hx
  unfold IntsErr at this
  rw [h] at this
  exact this
def LevelIs (n r : Int) : Prop := ∀ w, Calls Try.prog 13 #[.int .i64 n] w fun e w' => e = .returned (.int .i64 r) ∧ Below w.heap.size w w'
theorem levelIs_low {n : Int} (h0 : -9223372036854775808 ≤ n) (h : n < 1) : LevelIs n (-1) := fun w =>
  (level_t n w h0 (by omega)).mono fun e w' ⟨r, he, hr, hb⟩ => by
    rcases hr with ⟨_, rfl⟩ | ⟨h1, _⟩
    · exact ⟨he, hb⟩
    · omega
theorem cast_pow (a k : Nat) : ((a : Int)) ^ k = ((a ^ k : Nat) : Int) := (Int.natCast_pow a k).symm
theorem levelIs_high (m k : Nat) (h : 1 ≤ m) (h2 : m ≤ 9223372036854775807) (a : 2 ^ k ≤ m ^ 256) (b : m ^ 256 < 2 ^ (k + 1)) : LevelIs m k := fun w =>
  (level_t m w (by omega) (by omega)).mono fun e w' ⟨r, he, hr, hb⟩ => by
    rcases hr with ⟨h1, _⟩ | ⟨_, j, rfl, j1, j2⟩
    · omega
    · have e1 : (2 : Int) ^ k ≤ (m : Int) ^ 256 := by
        have : ((2 ^ k : Nat) : Int) ≤ ((m ^ 256 : Nat) : Int) := Int.ofNat_le.2 a
        rw [← cast_pow, ← cast_pow] at this
        exact this
      have e2 : (m : Int) ^ 256 < (2 : Int) ^ (k + 1) := by
        have : ((m ^ 256 : Nat) : Int) < ((2 ^ (k + 1) : Nat) : Int) := Int.ofNat_lt.2 b
        rw [← cast_pow, ← cast_pow] at this
        exact this
      have := log_uniq j1 j2 e1 e2
      subst this
      exact ⟨he, hb⟩
theorem l1 : LevelIs 1 0 := levelIs_high 1 0 (by decide) (by decide) (by decide +kernel) (by decide +kernel)
theorem l2 : LevelIs 2 256 := levelIs_high 2 256 (by decide) (by decide) (by decide +kernel) (by decide +kernel)
theorem l3 : LevelIs 3 405 := levelIs_high 3 405 (by decide) (by decide) (by decide +kernel) (by decide +kernel)
theorem l4 : LevelIs 4611686018427387904 15872 := levelIs_high 4611686018427387904 15872 (by decide) (by decide) (by decide +kernel) (by decide +kernel)

theorem made_ints (W : World) : ∃ l : List Int, l.length = 65537 ∧ IntsAt .i64 (W.alloc (.cells (madeCells #[.int .i64 0] 65537) 3)) (some ⟨W.heap.size, 0, none⟩) l := by
  refine ⟨List.replicate 65537 0, List.length_replicate, fun _ => ⟨_, _, rfl, by simp, fun i hi => ?_⟩⟩
  rw [List.length_replicate] at hi
  have e := (World.rowIs_made W (.int .i64 0) 65537 3).cell hi
  rw [Nat.zero_add, e]
  unfold gi
  rw [List.getD_eq_getElem?_getD, List.getElem?_replicate, if_pos hi]
  rfl

set_option maxRecDepth 20000 in
set_option maxHeartbeats 4000000 in
theorem sane_t (w : World) : Calls Try.prog 6 #[] w fun e w' => e = .returned (.bool true) ∧ Below w.heap.size w w' := by
  have hmk : ∀ w : World, (Instr.makeSlice 22 (.int .i64 65537) (.int .i64 65537)).run Try.prog w = .ok (.slice (some ⟨w.heap.size, 0, none⟩) 65537 65537) (w.alloc (.cells (madeCells #[.int .i64 0] 65537) 3)) :=
    run_make_row' (P := Try.prog) 22 3 (.int .i64 0) 8 Try.underlying22 info3 rfl .i64 .i64 65537 (by omega) (by omega)
  go_enter Try.func6, Try.ntmps6
  go_wp2_with (fail)
  go_at_call 9
  refine (loudIs (l := [100, 5, 0]) (by decide) s1 (intsNew _ _ _ rfl)).mono ?_
  rintro e w1 ⟨rfl, h1⟩
  have b1 : Below w.heap.size w w1 := ((Below.refl _ w).alloc (Nat.le_refl _) _).trans (h1.mono (by simp))
  go_wp2_with (fail)
  go_at_call 9
  refine (loudIs (l := []) (by decide) s2 (IntsAt.nil _ _ _)).mono ?_
  rintro e w2 ⟨rfl, h2⟩
  have b2 := b1.trans (h2.mono b1.size)
  go_wp2_with (fail)
  go_at_call 9
  refine (loudIs (l := [4611686018427387904, 4611686018427387904]) (by decide) s3 (intsNew _ _ _ rfl)).mono ?_
  rintro e w3 ⟨rfl, h3⟩
  have b3 : Below w.heap.size w w3 := (b2.alloc b2.size _).trans (h3.mono (b2.alloc b2.size _).size)
  go_wp2_with (fail)
  go_at_call 9
  refine (loudIs (l := [-1]) (by decide) s4 (intsNew _ _ _ rfl)).mono ?_
  rintro e w4 ⟨rfl, h4⟩
  have b4 : Below w.heap.size w w4 := (b3.alloc b3.size _).trans (h4.mono (b3.alloc b3.size _).size)
  go_wp2_with (fail)
  go_at_call 7
  refine (gatedIs (l := [100, 5, 0]) (by decide) s5 (intsNew _ _ _ rfl)).mono ?_
  rintro e w5 ⟨B5, d5, rfl, I5, h5⟩
  have b5 : Below w.heap.size w w5 := (b4.alloc b4.size _).trans (h5.mono (b4.alloc b4.size _).size)
  obtain ⟨l, hl, hI⟩ := made_ints w5
  have K6 := gatedIs (A := some ⟨w5.heap.size, 0, none⟩) (c := 65537) (l := l) (by omega) (s6 hl 0) hI
  rw [hl] at K6
  go_wp2_with (fail)
  go_at_call 7
  refine K6.mono ?_
  rintro e w6 ⟨B6, d6, rfl, I6, h6⟩
  have b6 : Below w.heap.size w w6 := (b5.alloc b5.size _).trans (h6.mono (b5.alloc b5.size _).size)
  have J6 : IntsAt .i64 w6 B5 [100] := I5.below (((Below.refl _ w5).alloc (Nat.le_refl _) _).trans (h6.mono (by simp)))
  clear K6 hI
  go_wp2_with (fail)
  go_at_call 7
  refine (gatedIs (l := []) (by decide) s7 (IntsAt.nil _ _ _)).mono ?_
  rintro e w7 ⟨B7, d7, rfl, I7, h7⟩
  have b7 := b6.trans (h7.mono b6.size)
  have J7 := J6.below h7
  go_wp2_with (fail)
  go_at_call 13
  refine (levelIs_low (by decide) (by decide) _).mono ?_
  rintro e w8 ⟨rfl, h8⟩
  have b8 := b7.trans (h8.mono b7.size)
  have J8 := J7.below h8
  go_wp2_with (fail)
  go_at_call 13
  refine (levelIs_low (by decide) (by decide) _).mono ?_
  rintro e w9 ⟨rfl, h9⟩
  have b9 := b8.trans (h9.mono b8.size)
  have J9 := J8.below h9
  go_wp2_with (fail)
  have K := same_t B5 (some ⟨w9.heap.size, 0, none⟩) 1 1 d5 1 [100] [100] (w9.alloc (.cells #[.int .i64 100] 3)) rfl rfl (J9.below ((Below.refl _ w9).alloc (Nat.le_refl _) _)) (intsNew _ _ _ rfl) (by decide) (by decide)
  rw [show decide (([100] : List Int) = [100]) = true by decide] at K
  go_at_call 11
  refine K.mono ?_
  rintro e wa ⟨rfl, ha⟩
  have ba : Below w.heap.size w wa := (b9.alloc b9.size _).trans (ha.mono (b9.alloc b9.size _).size)
  clear K
  go_wp2_with (fail)
  go_at_call 13
  refine (l1 _).mono ?_
  rintro e wb ⟨rfl, hb⟩
  have bb := ba.trans (hb.mono ba.size)
  go_wp2_with (fail)
  go_at_call 13
  refine (l2 _).mono ?_
  rintro e wc ⟨rfl, hc⟩
  have bc := bb.trans (hc.mono bb.size)
  go_wp2_with (fail)
  go_at_call 13
  refine (l3 _).mono ?_
  rintro e wd ⟨rfl, hd⟩
  have bd := bc.trans (hd.mono bc.size)
  go_wp2_with (fail)
  go_at_call 13
  refine (l4 _).mono ?_
  rintro e we ⟨rfl, he⟩
  have be := bd.trans (he.mono bd.size)
  go_wp2_with (fail)
  go_ret
  exact ⟨rfl, be⟩
end Go.Proofs.Ytoeigfkllamplaa
