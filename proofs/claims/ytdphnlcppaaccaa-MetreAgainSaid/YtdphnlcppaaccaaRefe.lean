/-
  The reference's Bars. Conditions: valid changes.
-/
import Derived.Test.YtdphnlcppaaccaaRefd
namespace Go.Proofs.Ytdphnlcppaaccaa
open Go.RowKit

theorem own_slice {w : World} {base : Nat} {e : TypeId} {size : Nat} {v : Value} {n : Nat} {xs : List Value} (h : w.ownsRow base e size v n xs) : ∃ A c, v = .slice A n c := by
  rcases h.2 with ⟨rfl, rfl⟩ | ⟨g, cap, cur, rfl, _⟩
  · exact ⟨_, _, rfl⟩
  · exact ⟨_, _, rfl⟩
theorem own_drewN {w : World} {base : Nat} {e : TypeId} {size : Nat} {v : Value} {n : Nat} {xs : List Value} (h : w.ownsRow base e size v n xs) (m : Nat) : (w.drewN m).ownsRow base e size v n xs := h
theorem own_base {w : World} {base : Nat} {e : TypeId} {size : Nat} {v : Value} {n : Nat} {xs : List Value} (h : w.ownsRow base e size v n xs) : ∀ k, v.ownBlock = some k → base ≤ k := fun k hk => (h.lt k hk).1
theorem info3 : (Try.prog.info? 3).map (fun i => (i.zero, i.size, i.bytes)) = some (some (.int .i64 0), 1, 8) := by kernel_rfl

/-- A slice of integers and an error, as a result. -/
def IntsErr (w : World) (r : List Int × Int) (e : Ending) (w' : World) : Prop :=
  ∃ A c, e = .returned (.tuple #[.slice A r.1.length c, .int .i64 r.2]) ∧ IntsAt .i64 w' A r.1 ∧ Below w.heap.size w w'

def BarsRel (ms : List Met) (lo hi : Int) (w : World) (v : Value) (bar : Int) (wr : World) : Prop :=
  ∃ acc : List Int, rBars ms lo hi = rbGo ms lo hi ((1048577 - bar).toNat + 1) bar acc ∧ wr.ownsRow w.heap.size 3 1 v acc.length (acc.map (Value.int .i64)) ∧ acc.length ≤ 4096 ∧ Below w.heap.size w wr

set_option maxHeartbeats 1000000 in
theorem rbars_t (b o c : Nat) (ms : List Met) (lo hi : Int) (w : World) (hv : Valid ms) (hm : MetAt w b o ms) :
    Calls Try.prog 18 #[.slice (some ⟨b, o, none⟩) ms.length c, .int .i64 lo, .int .i64 hi] w (IntsErr w (rBars ms lo hi)) := by
  have hb := hm.lt
  have hn := hv.few
  by_cases c1 : lo < 0 ∨ hi < lo ∨ 16777216 < hi
  · have E := Lib.hid (show rBars ms lo hi = ([], 1) by unfold rBars; rw [if_pos c1])
    rcases c1 with c1 | c1 | c1
    all_goals
      go_enter Try.func18, Try.ntmps18
      go_wp2_with (go_at_call 14; refine (rcheck_yes _ _ _ _ _ hv (by assumption)).mono ?_; rintro e w1 ⟨rfl, hw1⟩)
    all_goals
      go_ret2
      rw [E.out]
      exact ⟨none, 0, rfl, IntsAt.nil _ _ _, hw1⟩
  have h0 : 0 ≤ lo := by omega
  have h1 : lo ≤ 16777216 := by omega
  have h2 : hi ≤ 16777216 := by omega
  have h3 : lo ≤ hi := by omega
  have hab := atB_bd hv h0 h1 ms.length (Nat.le_refl _)
  have E := Lib.hid (show rBars ms lo hi = rbGo ms lo hi ((1048577 - atB ms lo ms.length).toNat + 1) (atB ms lo ms.length) [] by unfold rBars; rw [if_neg c1])
  obtain ⟨i0, hi0, hz0, hz1, hz2⟩ := info_parts info3
  clear c1
  go_enter Try.func18, Try.ntmps18
  go_wp2_with (first
    | (go_at_call 14; refine (rcheck_yes _ _ _ _ _ hv (by assumption)).mono ?_; rintro e w1 ⟨rfl, hw1⟩; have hm1 := hm.below hw1)
    | (go_at_call 27; refine (at_t _ _ _ _ _ _ hv (hm1.below ((Below.refl _ _).alloc (Nat.le_refl _) _)) (by omega) (by omega)).mono ?_; rintro e w2 ⟨rfl, hw2⟩))
  have hrow : w2.heap[w1.heap.size]? = some (.cells #[] 3 (0, 0)) := (hw2.block w1.heap.size (by simp)).trans (heap_alloc_new w1 _)
  have hbw : Below w.heap.size w w2 := (hw1.alloc hw1.size _).trans (hw2.mono (by have := hw1.size; simp; omega))
  have hsz := hw1.size
  go_loopw [8, 9, 6, 7] (fun v i _ _ wr => ∃ bar : Int, 0 ≤ bar ∧ bar ≤ 17825792 ∧ i = .int .i64 bar ∧ BarsRel ms lo hi w v bar wr) (fun _ i _ _ _ => (17825793 - intOf i).toNat)
  case atStart => exact ⟨_, hab.1, hab.2, rfl, [], E.out, ⟨rfl, .inr ⟨w1.heap.size, 0, #[], rfl, hsz, hrow, Nat.le_refl _, by simp [maxLen], rfl, rfl⟩⟩, by simp, hbw⟩
  case round =>
    obtain ⟨bar, hb0, hb1, rfl, acc, hE, hown, hlen, hw⟩ := hrel
    obtain ⟨A, cp, rfl⟩ := own_slice hown
    have HE := Lib.hid hE
    clear hE
    have hm' := hm.below hw
    by_cases c1 : 1048576 < bar
    · have F := Lib.hid (rbGo_end (ms := ms) (lo := lo) (hi := hi) (bar := bar) (acc := acc) (1048577 - bar).toNat (by unfold bg; omega))
      have d1 : decide (bar ≤ 1048576) = false := decide_eq_false (by omega)
      go_wp2
      go_ret2
      rw [HE.out, F.out]
      exact ⟨_, _, rfl, (IntsAt.of_own hown).2, hw⟩
    have d1 : decide (bar ≤ 1048576) = true := decide_eq_true (by omega)
    by_cases c2 : bgn ms bar ms.length < hi
    case neg =>
      have F := Lib.hid (rbGo_end (ms := ms) (lo := lo) (hi := hi) (bar := bar) (acc := acc) (1048577 - bar).toNat (by unfold bg; omega))
      go_wp2_with (go_at_call 23; refine (begin_q _ _ _ _ _ _ hv (by first | exact hm' | exact hm'.drewN _ | exact (hm'.drewN _).drewN _) (by omega) (by omega)).mono ?_; rintro e w' ⟨rfl, m, rfl⟩)
      go_ret2
      rw [HE.out, F.out]
      exact ⟨_, _, rfl, (IntsAt.of_own (own_drewN hown _)).2, below_drewN hw _⟩
    by_cases c3 : bgn ms bar ms.length < lo
    · have F := Lib.hid (rbGo_skip (ms := ms) (lo := lo) (hi := hi) (acc := acc) (by omega) c2 c3)
      go_wp2_with (go_at_call 23; refine (begin_q _ _ _ _ _ _ hv (by first | exact hm' | exact hm'.drewN _ | exact (hm'.drewN _).drewN _) (by omega) (by omega)).mono ?_; rintro e w' ⟨rfl, m, rfl⟩)
      go_roundw
      case rel => exact ⟨bar + 1, by omega, by omega, rfl, acc, HE.out.trans F.out, own_drewN hown _, hlen, below_drewN hw _⟩
      case measure => simp [intOf]; omega
    by_cases c4 : acc.length = 4096
    · have F := Lib.hid (rbGo_full (ms := ms) (lo := lo) (hi := hi) (acc := acc) (1048577 - bar).toNat (by omega) c2 c3 c4)
      have d4 : ((acc.length : Int) == 4096) = true := beq_iff_eq.2 (by omega)
      go_wp2_with (go_at_call 23; refine (begin_q _ _ _ _ _ _ hv (by first | exact hm' | exact hm'.drewN _ | exact (hm'.drewN _).drewN _) (by omega) (by omega)).mono ?_; rintro e w' ⟨rfl, m, rfl⟩)
      go_ret2
      rw [HE.out, F.out]
      exact ⟨none, 0, rfl, IntsAt.nil _ _ _, below_drewN hw _⟩
    have F := Lib.hid (rbGo_more (ms := ms) (lo := lo) (hi := hi) (acc := acc) (by omega) c2 c3 c4)
    have d4 : ((acc.length : Int) == 4096) = false := beq_eq_false_iff_ne.2 (by omega)
    have hl5 : acc.length < 4096 := by omega
    clear c4
    go_wp2_with (first
      | (go_at_call 23; refine (begin_q _ _ _ _ _ _ hv (by first | exact hm' | exact hm'.drewN _ | exact (hm'.drewN _).drewN _) (by omega) (by omega)).mono ?_; rintro e w' ⟨rfl, m, rfl⟩)
      | (at_builtin; refine wpList_append_own _ rfl _ _ 31 rfl w.heap.size 3 i0 (.int .i64 0) 1 8 Try.underlying31 hi0 hz0 hz1 hz2 rfl (by decide) _ _ _ rfl ((own_drewN hown _).alloc _) ⟨wr.heap.size, 0, none⟩ 1 1 [.int .i64 (bgn ms bar ms.length)] rfl rfl (cell_one_new _ _ _) (by simp [Value.oneCell']) (by simp [maxLen]; omega) (by omega) (by have := hw.size; simp; omega) ?_; intro v' w' hown' hgrow _))
    go_roundw
    case rel =>
      refine ⟨bar + 1, by omega, by omega, rfl, acc ++ [bg ms bar], HE.out.trans F.out, by simpa [bg] using hown', by simp; omega, ?_⟩
      exact ((below_drewN hw _).alloc (below_drewN hw _).size _).grown hgrow (by have := hw.size; simp; omega) (own_base hown)
    case measure => simp [intOf]; omega
end Go.Proofs.Ytdphnlcppaaccaa
