/-
  The reference's Same and Place. Conditions: valid changes for Place.
-/
import Derived.Test.YtdphnlcppaaccaaRefc
namespace Go.Proofs.Ytdphnlcppaaccaa
open Go.RowKit

set_option maxHeartbeats 1000000 in
theorem same_q (A B : Option Addr) (n m c d : Nat) (xs ys : List Int) (w : World) (hn : n = xs.length) (hm : m = ys.length) (hx : IntsAt .i64 w A xs) (hy : IntsAt .i64 w B ys) (hl : xs.length ≤ 1000000000000) (hl2 : ys.length ≤ 1000000000000) :
    Calls Try.prog 19 #[.slice A n c, .slice B m d] w fun e w' => e = .returned (.bool (decide (xs = ys))) ∧ ∃ k, w' = w.drewN k := by
  subst hn; subst hm
  by_cases he : xs.length = ys.length
  case neg =>
    have hne : ¬ xs = ys := fun h => he (by rw [h])
    have E := Lib.hid (decide_eq_false hne)
    clear hne
    have h1 : ((xs.length : Int) != (ys.length : Int)) = true := bne_iff_ne.2 (by omega)
    go_enter Try.func19, Try.ntmps19
    go_wp2
    go_ret
    exact ⟨by rw [E.out]; rfl, 0, rfl⟩
  rcases Nat.eq_zero_or_pos xs.length with h0 | h0
  · obtain rfl : xs = [] := List.eq_nil_of_length_eq_zero h0
    obtain rfl : ys = [] := List.eq_nil_of_length_eq_zero (by simpa using he.symm)
    go_enter Try.func19, Try.ntmps19
    go_wp2
    refine wp_loop_rounds 1 ?_
    rw [rounds_succ]
    go_wp2
    go_ret
    exact ⟨rfl, 0, rfl⟩
  obtain ⟨b, o, rfl, hb, hc⟩ := hx h0
  obtain ⟨b', o', rfl, hb', hc'⟩ := hy (by omega)
  have HE := Lib.hid he
  have hne : ((xs.length : Int) != (ys.length : Int)) = false := by rw [he]; simp
  clear he
  go_enter Try.func19, Try.ntmps19
  go_wp2
  go_loopw [5] (fun i wr => ∃ k : Nat, k ≤ xs.length ∧ i = .int .i64 k ∧ (∃ m, wr = w.drewN m) ∧ Hid (∀ j, j < k → gi xs j = gi ys j)) (fun i _ => xs.length - (intOf i).toNat)
  case atStart => exact ⟨0, by omega, rfl, ⟨0, rfl⟩, fun j hj => by omega⟩
  case round =>
    obtain ⟨k, hk, rfl, ⟨m, rfl⟩, hs⟩ := hrel
    by_cases hlt : k < xs.length
    · have g1 := hc k hlt
      have g2 := hc' k (by have := HE.out; omega)
      have hlt2 : (k : Int) < (ys.length : Int) := by have := HE.out; omega
      by_cases hq : gi xs k = gi ys k
      · have d1 : (gi xs k != gi ys k) = false := by rw [hq]; simp
        have HQ := Lib.hid hq
        clear hq
        go_wp2
        go_quiet (fail)
        go_wp2
        go_roundw
        case rel => exact ⟨k + 1, by omega, by go_num, ⟨_, rfl⟩, fun j hj => by
          rcases Nat.lt_or_ge j k with h | h
          · exact hs.out j h
          · obtain rfl : j = k := by omega
            exact HQ.out⟩
        case measure => simp [intOf]; omega
      · have d1 : (gi xs k != gi ys k) = true := bne_iff_ne.2 hq
        have E := Lib.hid (decide_eq_false (fun h : xs = ys => hq (by rw [h])))
        clear hq
        go_wp2
        go_quiet (fail)
        go_wp2
        go_ret
        exact ⟨by rw [E.out]; rfl, _, World.drewN_drewN _ _ _⟩
    · obtain rfl : k = xs.length := by omega
      have E := Lib.hid (decide_eq_true (gi_ext HE.out hs.out))
      go_wp2
      go_ret
      exact ⟨by rw [E.out]; rfl, _, rfl⟩

theorem same_t (A B : Option Addr) (n m c d : Nat) (xs ys : List Int) (w : World) (hn : n = xs.length) (hm : m = ys.length) (hx : IntsAt .i64 w A xs) (hy : IntsAt .i64 w B ys) (hl : xs.length ≤ 1000000000000) (hl2 : ys.length ≤ 1000000000000) :
    Calls Try.prog 19 #[.slice A n c, .slice B m d] w fun e w' => e = .returned (.bool (decide (xs = ys))) ∧ Below w.heap.size w w' :=
  (same_q A B n m c d xs ys w hn hm hx hy hl hl2).mono fun _ _ h => ⟨h.1, below_of_drewN h.2⟩

/-- What the reference's Place gives for valid changes. -/
def rPlace (ms : List Met) (tick : Int) : Int × Int × Int × Int :=
  if tick < 0 ∨ 16777216 < tick then (0, 0, 0, 1) else
  if 1048576 < atB ms tick ms.length then (0, 0, 0, 70) else
  (atB ms tick ms.length, (tick - bgn ms (atB ms tick ms.length) ms.length) / mu ms (ofI ms (atB ms tick ms.length) ms.length), (tick - bgn ms (atB ms tick ms.length) ms.length) % mu ms (ofI ms (atB ms tick ms.length) ms.length), 0)

def quad (r : Int × Int × Int × Int) : Value := .tuple #[.int .i64 r.1, .int .i64 r.2.1, .int .i64 r.2.2.1, .int .i64 r.2.2.2]

set_option maxHeartbeats 1000000 in
theorem rplace_t (b o c : Nat) (ms : List Met) (tick : Int) (w : World) (hv : Valid ms) (hm : MetAt w b o ms) (hpos : 0 ≤ tick → tick ≤ 16777216 → atB ms tick ms.length ≤ 1048576 → bgn ms (atB ms tick ms.length) ms.length ≤ tick) :
    Calls Try.prog 16 #[.slice (some ⟨b, o, none⟩) ms.length c, .int .i64 tick] w fun e w' => e = .returned (quad (rPlace ms tick)) ∧ Below w.heap.size w w' := by
  have hb := hm.lt
  have hn := hv.few
  by_cases c1 : tick < 0 ∨ 16777216 < tick
  · have E := Lib.hid (show rPlace ms tick = (0, 0, 0, 1) by unfold rPlace; rw [if_pos c1])
    rcases c1 with c1 | c1
    all_goals
      go_enter Try.func16, Try.ntmps16
      go_wp2_with (go_at_call 14; refine (rcheck_yes _ _ _ _ _ hv (by assumption)).mono ?_; rintro e w1 ⟨rfl, hw1⟩)
      refine bodyPost_ret (results_tmp4 rfl _ _ _) rfl ?_
      exact ⟨by rw [E.out]; rfl, hw1⟩
  have h0 : 0 ≤ tick := by omega
  have h1 : tick ≤ 16777216 := by omega
  have hab := atB_bd hv h0 h1 ms.length (Nat.le_refl _)
  by_cases c2 : 1048576 < atB ms tick ms.length
  · have E := Lib.hid (show rPlace ms tick = (0, 0, 0, 70) by unfold rPlace; rw [if_neg c1, if_pos c2])
    go_enter Try.func16, Try.ntmps16
    go_wp2_with (first
      | (go_at_call 14; refine (rcheck_yes _ _ _ _ _ hv (by assumption)).mono ?_; rintro e w1 ⟨rfl, hw1⟩; have hm1 := hm.below hw1)
      | (go_at_call 27; refine (at_t _ _ _ _ _ _ hv (by assumption) (by omega) (by omega)).mono ?_; rintro e w2 ⟨rfl, hw2⟩))
    refine bodyPost_ret (results_tmp4 rfl _ _ _) rfl ?_
    exact ⟨by rw [E.out]; rfl, below_join hw1 hw2⟩
  have hle := hpos h0 h1 (by omega)
  have hi := ofI_lt ms (atB ms tick ms.length) ms.length hv.pos
  have hf := hv.fine _ hi
  have u0 := hf.u0
  have hg := bgn_bd hv (bar := atB ms tick ms.length) (by omega) ms.length (Nat.le_refl _)
  have hq := quot_bd (x := tick - bgn ms (atB ms tick ms.length) ms.length) (by omega) u0
  have E := Lib.hid (show rPlace ms tick = _ by unfold rPlace; rw [if_neg c1, if_neg c2])
  clear hpos
  go_enter Try.func16, Try.ntmps16
  go_wp2_with (first
    | (go_at_call 14; refine (rcheck_yes _ _ _ _ _ hv (by assumption)).mono ?_; rintro e w1 ⟨rfl, hw1⟩; have hm1 := hm.below hw1)
    | (go_at_call 27; refine (at_t _ _ _ _ _ _ hv (by assumption) (by omega) (by omega)).mono ?_; rintro e w2 ⟨rfl, hw2⟩; have hm2 := hm1.below hw2)
    | (go_at_call 23; refine (begin_t _ _ _ _ _ _ hv (by assumption) (by omega) (by omega)).mono ?_; rintro e w3 ⟨rfl, hw3⟩; have hm3 := hm2.below hw3)
    | (go_at_call 20; refine (of_t _ _ _ _ _ _ (by omega) hv.pos (by assumption)).mono ?_; rintro e w4 ⟨rfl, hw4⟩; unfold mval))
  have i1 : (tick - bgn ms (atB ms tick ms.length) ms.length).tmod (mu ms (ofI ms (atB ms tick ms.length) ms.length)) = (tick - bgn ms (atB ms tick ms.length) ms.length) % mu ms (ofI ms (atB ms tick ms.length) ms.length) := Int.tmod_eq_emod_of_nonneg (by omega)
  go_quiet (fail)
  go_wp2
  refine bodyPost_ret (results_tmp4 rfl _ _ _) rfl ?_
  exact ⟨by rw [E.out]; rfl, below_drewN ((below_join (below_join (below_join hw1 hw2) hw3) hw4).alloc (below_join (below_join (below_join hw1 hw2) hw3) hw4).size _) _⟩
end Go.Proofs.Ytdphnlcppaaccaa
