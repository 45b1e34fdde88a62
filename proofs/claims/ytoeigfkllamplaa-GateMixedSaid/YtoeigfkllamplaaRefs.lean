/-
  The reference of the gate: Same, Mean, valid, above, Gated, Loudness. Conditions: slices that read as lists; energies that are allowed, for the mean.
-/
import Derived.Test.YtoeigfkllamplaaPlain
namespace Go.Proofs.Ytoeigfkllamplaa
open Go.RowKit

theorem own_slice {w : World} {base : Nat} {e : TypeId} {size : Nat} {v : Value} {n : Nat} {xs : List Value} (h : w.ownsRow base e size v n xs) : ∃ A c, v = .slice A n c := by
  rcases h.2 with ⟨rfl, rfl⟩ | ⟨g, cap, cur, rfl, _⟩
  · exact ⟨_, _, rfl⟩
  · exact ⟨_, _, rfl⟩
theorem own_drewN {w : World} {base : Nat} {e : TypeId} {size : Nat} {v : Value} {n : Nat} {xs : List Value} (h : w.ownsRow base e size v n xs) (m : Nat) : (w.drewN m).ownsRow base e size v n xs := h
theorem own_base {w : World} {base : Nat} {e : TypeId} {size : Nat} {v : Value} {n : Nat} {xs : List Value} (h : w.ownsRow base e size v n xs) : ∀ k, v.ownBlock = some k → base ≤ k := fun k hk => (h.lt k hk).1
theorem info3 : (Try.prog.info? 3).map (fun i => (i.zero, i.size, i.bytes)) = some (some (.int .i64 0), 1, 8) := by kernel_rfl
theorem own_nil (w : World) (base : Nat) (e : TypeId) : w.ownsRow base e 1 (.slice none 0 0) 0 [] := ⟨rfl, .inl ⟨rfl, rfl⟩⟩

/-- A slice of integers and an error, as a result. -/
def IntsErr (w : World) (r : List Int × Int) (e : Ending) (w' : World) : Prop :=
  ∃ A c, e = .returned (.tuple #[.slice A r.1.length c, .int .i64 r.2]) ∧ IntsAt .i64 w' A r.1 ∧ Below w.heap.size w w'
/-- A slice of integers, as a result. -/
def Ints (w : World) (r : List Int) (e : Ending) (w' : World) : Prop :=
  ∃ A c, e = .returned (.slice A r.length c) ∧ IntsAt .i64 w' A r ∧ Below w.heap.size w w'

set_option maxHeartbeats 1000000 in
theorem same_q (A B : Option Addr) (n m c d : Nat) (xs ys : List Int) (w : World) (hn : n = xs.length) (hm : m = ys.length) (hx : IntsAt .i64 w A xs) (hy : IntsAt .i64 w B ys) (hl : xs.length ≤ 1000000000000) (hl2 : ys.length ≤ 1000000000000) :
    Calls Try.prog 11 #[.slice A n c, .slice B m d] w fun e w' => e = .returned (.bool (decide (xs = ys))) ∧ ∃ k, w' = w.drewN k := by
  subst hn; subst hm
  by_cases he : xs.length = ys.length
  case neg =>
    have hne : ¬ xs = ys := fun h => he (by rw [h])
    have E := Lib.hid (decide_eq_false hne)
    clear hne
    have h1 : ((xs.length : Int) != (ys.length : Int)) = true := bne_iff_ne.2 (by omega)
    go_enter Try.func11, Try.ntmps11
    go_wp2
    go_ret
    exact ⟨by rw [E.out]; rfl, 0, rfl⟩
  rcases Nat.eq_zero_or_pos xs.length with h0 | h0
  · obtain rfl : xs = [] := List.eq_nil_of_length_eq_zero h0
    obtain rfl : ys = [] := List.eq_nil_of_length_eq_zero (by simpa using he.symm)
    go_enter Try.func11, Try.ntmps11
    go_wp2
    refine wp_loop_rounds 1 ?_
    rw [rounds_succ]
    go_wp2
    go_ret
    exact ⟨rfl, 0, rfl⟩
  obtain ⟨b, o, rfl, hb, hc⟩ := hx h0
  obtain ⟨b', o', rfl, hb', hc'⟩ := hy (by omega)
  have HE := Lib.hid he
  have hne : ((xs.length : Int) != (ys.length : Int)) = false := by rw [he]; simp
  clear he
  go_enter Try.func11, Try.ntmps11
  go_wp2
  go_loopw [5] (fun i wr => ∃ k : Nat, k ≤ xs.length ∧ i = .int .i64 k ∧ (∃ m, wr = w.drewN m) ∧ Hid (∀ j, j < k → gi xs j = gi ys j)) (fun i _ => xs.length - (intOf i).toNat)
  case atStart => exact ⟨0, by omega, rfl, ⟨0, rfl⟩, fun j hj => by omega⟩
  case round =>
    obtain ⟨k, hk, rfl, ⟨m, rfl⟩, hs⟩ := hrel
    by_cases hlt : k < xs.length
    · have g1 := hc k hlt
      have g2 := hc' k (by have := HE.out; omega)
      have hlt2 : (k : Int) < (ys.length : Int) := by have := HE.out; omega
      by_cases hq : gi xs k = gi ys k
      · have d1 : (gi xs k != gi ys k) = false := by rw [hq]; simp
        have HQ := Lib.hid hq
        clear hq
        go_wp2
        go_quiet (fail)
        go_wp2
        go_roundw
        case rel => exact ⟨k + 1, by omega, by go_num, ⟨_, rfl⟩, fun j hj => by
          rcases Nat.lt_or_ge j k with h | h
          · exact hs.out j h
          · obtain rfl : j = k := by omega
            exact HQ.out⟩
        case measure => simp [intOf]; omega
      · have d1 : (gi xs k != gi ys k) = true := bne_iff_ne.2 hq
        have E := Lib.hid (decide_eq_false (fun h : xs = ys => hq (by rw [h])))
        clear hq
        go_wp2
        go_quiet (fail)
        go_wp2
        go_ret
        exact ⟨by rw [E.out]; rfl, _, World.drewN_drewN _ _ _⟩
    · obtain rfl : k = xs.length := by omega
      have E := Lib.hid (decide_eq_true (gi_ext HE.out hs.out))
      go_wp2
      go_ret
      exact ⟨by rw [E.out]; rfl, _, rfl⟩

theorem same_t (A B : Option Addr) (n m c d : Nat) (xs ys : List Int) (w : World) (hn : n = xs.length) (hm : m = ys.length) (hx : IntsAt .i64 w A xs) (hy : IntsAt .i64 w B ys) (hl : xs.length ≤ 1000000000000) (hl2 : ys.length ≤ 1000000000000) :
    Calls Try.prog 11 #[.slice A n c, .slice B m d] w fun e w' => e = .returned (.bool (decide (xs = ys))) ∧ Below w.heap.size w w' :=
  (same_q A B n m c d xs ys w hn hm hx hy hl hl2).mono fun _ _ h => ⟨h.1, below_of_drewN h.2⟩


set_option maxHeartbeats 1000000 in
theorem rmean_t (A : Option Addr) (c : Nat) (l : List Int) (w : World) (h0 : 0 < l.length) (hn : l.length ≤ 65536) (hl : AllE l) (hx : IntsAt .i64 w A l) :
    Calls Try.prog 12 #[.slice A l.length c] w fun e w' => e = .returned (.int .i64 (meanE l)) ∧ Below w.heap.size w w' := by
  obtain ⟨b, o, rfl, hb, hc⟩ := hx h0
  have hz : ¬ (l.length : Int) = 0 := by omega
  go_enter Try.func12, Try.ntmps12
  go_wp2
  go_loopw [3, 4, 5] (fun x y i wr => ∃ (k : Nat) (p q : Int), k ≤ l.length ∧ i = .int .i64 k ∧ x = .int .i64 p ∧ y = .int .i64 q ∧ Sums l k p q ∧ wr = w) (fun _ _ i _ => l.length - (intOf i).toNat)
  case atStart => exact ⟨0, 0, 0, by omega, rfl, rfl, rfl, Sums.zero l, rfl⟩
  case round =>
    obtain ⟨k, p, q, hk, rfl, rfl, rfl, hs, rfl⟩ := hrel
    by_cases hlt : k < l.length
    · have g1 := hc k hlt
      have hs' := hs.step hl hn hlt
      have hxk := hl _ (gi_mem hlt)
      have e1 : (gi l k).tdiv (l.length : Int) = gi l k / (l.length : Int) := Int.tdiv_eq_ediv_of_nonneg hxk.1
      have e2 : (gi l k).tmod (l.length : Int) = gi l k % (l.length : Int) := Int.tmod_eq_emod_of_nonneg hxk.1
      have q0 := Int.ediv_nonneg hxk.1 (by omega : 0 ≤ (l.length : Int))
      have q1 := Int.ediv_le_self (l.length : Int) hxk.1
      have q2 := hxk.2
      have b1 := hs'.b1
      have b0 := hs'.b0
      have a1 := hs'.a1
      have a0 := hs'.a0
      have i1 : IntKind.i64.wrap (gi l k / (l.length : Int)) = gi l k / (l.length : Int) := IntWalk.i64_in _ (by omega)
      have i2 : IntKind.i64.wrap (p + gi l k / (l.length : Int)) = p + gi l k / (l.length : Int) := IntWalk.i64_in _ (by omega)
      have i3 : IntKind.i64.wrap (q + gi l k % (l.length : Int)) = q + gi l k % (l.length : Int) := IntWalk.i64_in _ (by omega)
      have HS := Lib.hid hs'
      clear hs' hs
      go_wp2
      go_roundw
      case rel => exact ⟨k + 1, _, _, by omega, by go_num, rfl, rfl, HS.out, by first | rfl | trivial⟩
      case measure => simp [intOf]; omega
    · obtain rfl : k = l.length := by omega
      have HM := Lib.hid (hs.mean h0)
      have hm := mean_bd hl h0
      have b0 := hs.b0
      have b1 := hs.b1
      have a0 := hs.a0
      have a1 := hs.a1
      have e1 : q.tdiv (l.length : Int) = q / (l.length : Int) := Int.tdiv_eq_ediv_of_nonneg b0
      have q0 := Int.ediv_nonneg b0 (by omega : 0 ≤ (l.length : Int))
      have q1 := Int.ediv_le_self (l.length : Int) b0
      have hmm : p + q / (l.length : Int) ≤ 4611686018427387904 := by rw [HM.out]; exact hm.2
      have i1 : IntKind.i64.wrap (q / (l.length : Int)) = q / (l.length : Int) := IntWalk.i64_in _ (by omega)
      have i2 : IntKind.i64.wrap (p + q / (l.length : Int)) = p + q / (l.length : Int) := IntWalk.i64_in _ (by omega)
      clear hs
      go_wp2
      go_ret
      exact ⟨by rw [← HM.out]; rfl, Below.refl _ _⟩

open Classical in
/-- What the reference's valid answers. -/
noncomputable def gValid (l : List Int) (floor : Int) : Int := if 65536 < l.length then 2 else if ¬ (AllE l ∧ okE floor) then 1 else 0

set_option maxHeartbeats 1000000 in
theorem rvalid_t (A : Option Addr) (c : Nat) (l : List Int) (floor : Int) (w : World) (hn : l.length ≤ 1000000000) (hx : IntsAt .i64 w A l) :
    Calls Try.prog 20 #[.slice A l.length c, .int .i64 floor] w fun e w' => e = .returned (.int .i64 (gValid l floor)) ∧ Below w.heap.size w w' := by
  by_cases hb : 65536 < l.length
  · have E := Lib.hid (show gValid l floor = 2 by unfold gValid; rw [if_pos hb])
    have d : decide (65536 < (l.length : Int)) = true := decide_eq_true (by omega)
    go_enter Try.func20, Try.ntmps20
    go_wp2
    go_ret
    exact ⟨by rw [E.out]; rfl, Below.refl _ _⟩
  have d : decide (65536 < (l.length : Int)) = false := decide_eq_false (by omega)
  go_enter Try.func20, Try.ntmps20
  go_wp2
  go_loopw [5] (fun i wr => ∃ k : Nat, k ≤ l.length ∧ i = .int .i64 k ∧ wr = w ∧ Hid (AllE (l.take k))) (fun i _ => l.length - (intOf i).toNat)
  case atStart => exact ⟨0, by omega, rfl, rfl, fun x hx => by simp at hx⟩
  case round =>
    obtain ⟨k, hk, rfl, rfl, hs⟩ := hrel
    by_cases hlt : k < l.length
    · obtain ⟨b, o, rfl, hbb, hc⟩ := hx (by omega)
      have g1 := hc k hlt
      by_cases hq : okE (gi l k)
      · have HT := Lib.hid (show AllE (l.take (k + 1)) by
          rw [take_snoc hlt]
          intro x hx
          rcases List.mem_append.1 hx with h | h
          · exact hs.out x h
          · rw [List.mem_singleton.1 h]; exact hq)
        have d1 : decide (gi l k < 0) = false := decide_eq_false (by have := hq.1; omega)
        have d2 : decide (4611686018427387904 < gi l k) = false := decide_eq_false (by have := hq.2; omega)
        clear hq hs
        go_wp2
        go_roundw
        case rel => exact ⟨k + 1, by omega, by go_num, by first | rfl | trivial, HT.out⟩
        case measure => simp [intOf]; omega
      · have E := Lib.hid (show gValid l floor = 1 by unfold gValid; rw [if_neg hb, if_pos fun h => hq (h.1 _ (gi_mem hlt))])
        by_cases h1 : gi l k < 0
        · have d1 : decide (gi l k < 0) = true := decide_eq_true h1
          clear hq hs
          go_wp2
          go_ret
          exact ⟨by rw [E.out]; rfl, Below.refl _ _⟩
        · have d1 : decide (gi l k < 0) = false := decide_eq_false h1
          have d2 : decide (4611686018427387904 < gi l k) = true := decide_eq_true (by unfold okE at hq; omega)
          clear hq hs
          go_wp2
          go_ret
          exact ⟨by rw [E.out]; rfl, Below.refl _ _⟩
    · obtain rfl : k = l.length := by omega
      have ha : AllE l := by have := hs.out; rwa [List.take_length] at this
      by_cases hq : okE floor
      · have E := Lib.hid (show gValid l floor = 0 by unfold gValid; rw [if_neg hb, if_neg fun h => h ⟨ha, hq⟩])
        have d1 : decide (floor < 0) = false := decide_eq_false (by have := hq.1; omega)
        have d2 : decide (4611686018427387904 < floor) = false := decide_eq_false (by have := hq.2; omega)
        clear hq hs ha
        go_wp2
        go_ret
        exact ⟨by rw [E.out]; rfl, Below.refl _ _⟩
      · have E := Lib.hid (show gValid l floor = 1 by unfold gValid; rw [if_neg hb, if_pos fun h => hq h.2])
        by_cases h1 : floor < 0
        · have d1 : decide (floor < 0) = true := decide_eq_true h1
          clear hq hs ha
          go_wp2
          go_ret
          exact ⟨by rw [E.out]; rfl, Below.refl _ _⟩
        · have d1 : decide (floor < 0) = false := decide_eq_false h1
          have d2 : decide (4611686018427387904 < floor) = true := decide_eq_true (by unfold okE at hq; omega)
          clear hq hs ha
          go_wp2
          go_ret
          exact ⟨by rw [E.out]; rfl, Below.refl _ _⟩

set_option maxHeartbeats 1000000 in
theorem above_t (A : Option Addr) (c : Nat) (l : List Int) (m : Int) (w : World) (hn : l.length ≤ 1000000) (hx : IntsAt .i64 w A l) :
    Calls Try.prog 21 #[.slice A l.length c, .int .i64 m] w (Ints w (thr l m)) := by
  obtain ⟨i0, hi0, hz0, hz1, hz2⟩ := info_parts info3
  go_enter Try.func21, Try.ntmps21
  go_wp2
  go_loopw [5, 6] (fun v i wr => ∃ k : Nat, k ≤ l.length ∧ i = .int .i64 k ∧ wr.ownsRow w.heap.size 3 1 v (thr (l.take k) m).length ((thr (l.take k) m).map (Value.int .i64)) ∧ Below w.heap.size w wr) (fun _ i _ => l.length - (intOf i).toNat)
  case atStart => exact ⟨0, by omega, rfl, own_nil _ _ _, Below.refl _ _⟩
  case round =>
    obtain ⟨k, hk, rfl, hown, hw⟩ := hrel
    obtain ⟨V, cp, rfl⟩ := own_slice hown
    by_cases hlt : k < l.length
    · obtain ⟨b, o, rfl, hbb, hc⟩ := hx (by omega)
      have hlen := thr_len (l.take k) m
      have htl : (l.take k).length ≤ l.length := by simp; omega
      have hsz := hw.size
      have g1 := (hw.cell (p := ⟨b, o + k, none⟩) hbb).trans (hc k hlt)
      by_cases hq : m ≤ gi l k
      · have E := Lib.hid (show thr (l.take (k + 1)) m = thr (l.take k) m ++ [gi l k] by rw [take_snoc hlt, thr_snoc, if_pos hq])
        have d1 : decide (m ≤ gi l k) = true := decide_eq_true hq
        go_wp2_with (at_builtin; refine wpList_append_own _ rfl _ _ 22 rfl w.heap.size 3 i0 (.int .i64 0) 1 8 Try.underlying22 hi0 hz0 hz1 hz2 rfl (by decide) _ _ _ rfl (hown.alloc _) ⟨wr.heap.size, 0, none⟩ 1 1 [.int .i64 (gi l k)] rfl rfl (cell_one_new _ _ _) (by simp [Value.oneCell']) (by simp [maxLen]; omega) (by omega) (by have := hw.size; simp; omega) ?_; intro v' w' hown' hgrow _)
        go_roundw
        case rel =>
          refine ⟨k + 1, by omega, by go_num, by rw [E.out]; simpa using hown', ?_⟩
          exact (hw.alloc hw.size _).grown hgrow (by have := hw.size; simp; omega) (own_base hown)
        case measure => simp [intOf]; omega
      · have E := Lib.hid (show thr (l.take (k + 1)) m = thr (l.take k) m by rw [take_snoc hlt, thr_snoc, if_neg hq])
        have d1 : decide (m ≤ gi l k) = false := decide_eq_false hq
        go_wp2
        go_roundw
        case rel => exact ⟨k + 1, by omega, by go_num, by rw [E.out]; exact hown, hw⟩
        case measure => simp [intOf]; omega
    · obtain rfl : k = l.length := by omega
      rw [List.take_length] at hown ⊢
      go_wp2
      go_ret
      exact ⟨_, _, rfl, (IntsAt.of_own hown).2, hw⟩
end Go.Proofs.Ytoeigfkllamplaa
