/-
  The disk's Check, the program's and the reference's. Conditions: the disk lies as plain data.
-/
import Derived.Test.YtckeopidedoohaaDk
import Derived.Deep.RegionHeld3
namespace Go.Proofs.Ytckeopidedoohaa
open Go.RowKit
variable {n₀ : Nat}
attribute [local go_sem] Oper.semAt_some

theorem isSec_t (A : Option Addr) (n c : Nat) (w : World) : Calls Try.prog 70 #[.slice A n c] w fun e w' => e = .returned (.bool (n == 128)) ∧ w' = w := by
  by_cases h : n = 128
  · subst h
    go_enter Try.func70, Try.ntmps70
    go_wp2
    go_ret
    exact ⟨rfl, rfl⟩
  · have d : ((n : Int) == 128) = false := beq_eq_false_iff_ne.2 (by omega)
    have E := Lib.hid (show (n == 128) = false from beq_eq_false_iff_ne.2 h)
    clear h
    go_enter Try.func70, Try.ntmps70
    go_wp2
    go_ret
    exact ⟨by rw [E.out]; rfl, rfl⟩
theorem noSec_t (A : Option Addr) (n c : Nat) (w : World) : Calls Try.prog 73 #[.slice A n c] w fun e w' => e = .returned (.bool (!(n == 128))) ∧ w' = w := by
  have K := fun W => isSec_t A n c W
  obtain ⟨b, hb⟩ : ∃ b, b = (n == 128) := ⟨_, rfl⟩
  rw [← hb] at K ⊢
  clear hb
  go_enter Try.func73, Try.ntmps73
  go_wp2_with (go_at_call 70; refine (K _).mono ?_; rintro e w2 ⟨rfl, hw2⟩; have hw2 := hw2.symm; subst hw2)
  go_ret
  exact ⟨rfl, rfl⟩
def badB (at_ : Int) (m n : Nat) : Bool := !(decide (0 ≤ at_) && decide (at_ < m) && (n == 128))
theorem badB_W (m : Nat) (x : Wr) : badB x.at_ m x.data.length = badW m x := by
  unfold badB badW
  by_cases h1 : 0 ≤ x.at_ <;> by_cases h2 : x.at_ < m <;> by_cases h3 : x.data.length = 128 <;> simp [h1, h2, h3]

set_option maxHeartbeats 1000000 in
theorem bad_t (at_ : Int) (A : Option Addr) (n c m B : Nat) (w : World) (hB : Blk w B 3 #[.int .i64 m]) :
    Calls Try.prog 69 #[.agg #[.int .i64 at_, .slice A n c], .pointer (some ⟨B, 0, none⟩)] w fun e w' => e = .returned (.bool (badB at_ m n)) ∧ Below w.heap.size w w' := by
  have HB : Below w.heap.size w (w.alloc (.cells #[.int .i64 at_, .slice A n c] 90)) := (Below.refl _ w).alloc (Nat.le_refl _) _
  have c0 := hB.cell0
  have lB := hB.lt
  have K := fun W => isSec_t A n c W
  by_cases h1 : at_ < 0
  · have d1 : decide (at_ < 0) = true := decide_eq_true h1
    have E := Lib.hid (show badB at_ m n = true by unfold badB; rw [decide_eq_false (show ¬ 0 ≤ at_ by omega)]; rfl)
    clear h1 K
    go_enter Try.func69, Try.ntmps69
    go_wp2
    go_ret
    exact ⟨by rw [E.out]; rfl, HB⟩
  have d1 : decide (at_ < 0) = false := decide_eq_false h1
  by_cases h2 : (m : Int) ≤ at_
  · have d2 : decide ((m : Int) ≤ at_) = true := decide_eq_true h2
    have E := Lib.hid (show badB at_ m n = true by unfold badB; rw [decide_eq_false (show ¬ at_ < m by omega)]; simp)
    clear h1 h2 K
    go_enter Try.func69, Try.ntmps69
    go_wp2
    go_ret
    exact ⟨by rw [E.out]; rfl, HB⟩
  have d2 : decide ((m : Int) ≤ at_) = false := decide_eq_false h2
  obtain ⟨b, hb⟩ : ∃ b, b = (n == 128) := ⟨_, rfl⟩
  have E := Lib.hid (show badB at_ m n = !b by unfold badB; rw [decide_eq_true (show 0 ≤ at_ by omega), decide_eq_true (show at_ < m by omega), ← hb]; simp)
  rw [← hb] at K
  clear hb h1 h2
  go_enter Try.func69, Try.ntmps69
  go_wp2_with (go_at_call 70; refine (K _).mono ?_; rintro e w2 ⟨rfl, hw2⟩; have hw2 := hw2.symm; subst hw2)
  go_ret
  exact ⟨by rw [E.out]; rfl, HB⟩

/-- Where the first one is for which p holds; -1 if there is none. -/
def idxOf {α : Type} (p : α → Bool) (d : α) (l : List α) (r : Int) : Prop := (r = -1 ∧ ∀ i, i < l.length → p (l.getD i d) = false) ∨ (0 ≤ r ∧ ∃ i, i < l.length ∧ p (l.getD i d) = true)
theorem idxOf_any {α : Type} {p : α → Bool} {d : α} {l : List α} {r : Int} (h : idxOf p d l r) : decide (0 ≤ r) = l.any p := by
  rcases h with ⟨rfl, h⟩ | ⟨h0, i, hi, hp⟩
  · symm
    show l.any p = false
    rw [List.any_eq_false]
    intro x hx
    obtain ⟨i, hi, rfl⟩ := List.getElem_of_mem hx
    have := h i hi
    simpa [List.getD, hi] using this
  · rw [decide_eq_true h0]
    symm
    rw [List.any_eq_true]
    exact ⟨l.getD i d, by simp [List.getD, hi], hp⟩

set_option maxHeartbeats 1000000 in
theorem indexW_t (A : Option Addr) (c m B : Nat) (l : List Wr) (w : World) (hn : l.length ≤ 1000000000) (h : WrsAt n₀ w A l) (hB : Blk w B 3 #[.int .i64 m]) :
    Calls Try.prog 100 #[.slice A l.length c, .func (.func 69) #[] #[.pointer (some ⟨B, 0, none⟩)]] w fun e w' => ∃ r, e = .returned (.int .i64 r) ∧ Hid (idxOf (badW m) wr0 l r) ∧ Below w.heap.size w w' := by
  have lB := hB.lt
  go_enter Try.func100, Try.ntmps100
  go_wp2
  go_loopw [8] (fun i wr => ∃ k : Nat, k ≤ l.length ∧ i = .int .i64 k ∧ Hid (∀ j, j < k → badW m (l.getD j wr0) = false) ∧ Below w.heap.size w wr) (fun i _ => l.length - (intOf i).toNat)
  case atStart => exact ⟨0, by omega, rfl, Lib.hid (fun j hj => by omega), Below.refl _ _⟩
  case round =>
    obtain ⟨k, hk, rfl, hT, hw⟩ := hrel
    by_cases hlt : k < l.length
    · obtain ⟨b, o, rfl, hb, hc⟩ := (h.below hw).get (by omega)
      obtain ⟨g0, A', c', g1, _, _⟩ := hc k hlt
      have hB2 := hB.below hw lB
      obtain ⟨x, hx⟩ : ∃ x, x = l.getD k wr0 := ⟨_, rfl⟩
      rw [← hx] at g0 g1
      have KB := fun W (hW : Blk W B 3 #[.int .i64 m]) => bad_t x.at_ A' x.data.length c' m B W hW
      rw [badB_W] at KB
      have HX := Lib.hid hx
      obtain ⟨y, hy⟩ : ∃ y, y = badW m x := ⟨_, rfl⟩
      rw [← hy] at KB
      have HY := Lib.hid hy
      clear hc hx hy
      go_wp2_with (fail)
      refine (KB _ hB2).mono ?_
      rintro e w2 ⟨rfl, hw2⟩
      have hw3 := hw.trans (hw2.mono hw.size)
      cases y
      · go_wp2
        go_roundw
        case rel => exact ⟨k + 1, by omega, by go_num, Lib.hid (fun j hj => by
          rcases Nat.lt_or_ge j k with h' | h'
          · exact hT.out j h'
          · obtain rfl : j = k := by omega
            rw [← HX.out]
            exact HY.out.symm), hw3⟩
        case measure => simp [intOf]; omega
      · go_wp2
        go_ret
        exact ⟨_, rfl, Lib.hid (.inr ⟨by omega, k, hlt, by rw [← HX.out]; exact HY.out.symm⟩), hw3⟩
    · obtain rfl : k = l.length := by omega
      go_wp2
      go_ret
      exact ⟨_, rfl, Lib.hid (.inl ⟨rfl, hT.out⟩), hw⟩

set_option maxHeartbeats 1000000 in
theorem indexS_t (A : Option Addr) (c : Nat) (l : List Bs) (w : World) (hn : l.length ≤ 1000000000) (h : RowsAt n₀ w A l) :
    Calls Try.prog 101 #[.slice A l.length c, .func (.func 73) #[] #[]] w fun e w' => ∃ r, e = .returned (.int .i64 r) ∧ Hid (idxOf (fun b : Bs => !(b.length == 128)) [] l r) ∧ w' = w := by
  go_enter Try.func101, Try.ntmps101
  go_wp2
  go_loop [8] (fun i => ∃ k : Nat, k ≤ l.length ∧ i = .int .i64 k ∧ Hid (∀ j, j < k → (!((l.getD j []).length == 128)) = false)) (fun i => l.length - (intOf i).toNat)
  case atStart => exact ⟨0, by omega, rfl, Lib.hid (fun j hj => by omega)⟩
  case round =>
    obtain ⟨k, hk, rfl, hT⟩ := hrel
    by_cases hlt : k < l.length
    · obtain ⟨b, o, rfl, hb, hc⟩ := h.get (by omega)
      obtain ⟨A', c', g1, _, _⟩ := hc k hlt
      obtain ⟨x, hx⟩ : ∃ x, x = (l.getD k []).length := ⟨_, rfl⟩
      rw [← hx] at g1
      have KB := fun W => noSec_t A' x c' W
      obtain ⟨y, hy⟩ : ∃ y, y = !(x == 128) := ⟨_, rfl⟩
      rw [← hy] at KB
      have HX := Lib.hid (show (!((l.getD k []).length == 128)) = y by rw [← hx, hy])
      clear hc hx hy
      go_wp2_with (fail)
      refine (KB _).mono ?_
      rintro e w2 ⟨rfl, hw2⟩
      have hw2 := hw2.symm
      subst hw2
      cases y
      · go_wp2
        go_round
        case rel => exact ⟨k + 1, by omega, by go_num, Lib.hid (fun j hj => by
          rcases Nat.lt_or_ge j k with h' | h'
          · exact hT.out j h'
          · obtain rfl : j = k := by omega
            exact HX.out)⟩
        case measure => simp [intOf]; omega
      · go_wp2
        go_ret
        exact ⟨_, rfl, Lib.hid (.inr ⟨by omega, k, hlt, HX.out⟩), rfl⟩
    · obtain rfl : k = l.length := by omega
      go_wp2
      go_ret
      exact ⟨_, rfl, Lib.hid (.inl ⟨rfl, hT.out⟩), rfl⟩

theorem anyW_t (A : Option Addr) (c m B : Nat) (l : List Wr) (w : World) (hn : l.length ≤ 1000000000) (h : WrsAt n₀ w A l) (hB : Blk w B 3 #[.int .i64 m]) :
    Calls Try.prog 71 #[.slice A l.length c, .func (.func 69) #[] #[.pointer (some ⟨B, 0, none⟩)]] w fun e w' => e = .returned (.bool (l.any (badW m))) ∧ Below w.heap.size w w' := by
  have K := indexW_t A c m B l w hn h hB
  go_enter Try.func71, Try.ntmps71
  go_wp2_with (fail)
  go_at_call 100
  refine K.mono ?_
  rintro e w2 ⟨r, rfl, hr, hw⟩
  have E := Lib.hid (idxOf_any hr.out)
  go_wp2
  go_ret
  exact ⟨by rw [← E.out]; rfl, hw⟩
theorem anyS_t (A : Option Addr) (c : Nat) (l : List Bs) (w : World) (hn : l.length ≤ 1000000000) (h : RowsAt n₀ w A l) :
    Calls Try.prog 72 #[.slice A l.length c, .func (.func 73) #[] #[]] w fun e w' => e = .returned (.bool (l.any fun b => !(b.length == 128))) ∧ w' = w := by
  have K := indexS_t A c l w hn h
  go_enter Try.func72, Try.ntmps72
  go_wp2_with (fail)
  go_at_call 101
  refine K.mono ?_
  rintro e w2 ⟨r, rfl, hr, hw⟩
  have hw := hw.symm
  subst hw
  have E := Lib.hid (idxOf_any hr.out)
  go_wp2
  go_ret
  exact ⟨by rw [← E.out]; rfl, rfl⟩

theorem chk_no {d : Dk} (h : ¬ Val d) : gChk d = 40 := by unfold gChk; rw [if_neg h]
theorem chk_yes {d : Dk} (h : Val d) : gChk d = 0 := by unfold gChk; rw [if_pos h]
theorem chk_eq {d : Dk} (h1 : 1 ≤ d.secs.length) (h2 : d.secs.length ≤ 4096) (h3 : d.pend.length ≤ 4096) (h4 : -1 ≤ d.left) (h5 : d.left ≤ 65536) : gChk d = if d.pend.any (badW d.secs.length) || d.secs.any (fun b => !(b.length == 128)) then 40 else 0 := by
  by_cases ha : d.pend.any (badW d.secs.length) = true
  · rw [ha, chk_no]
    · rfl
    · rintro ⟨_, _, _, _, _, h, _⟩
      obtain ⟨x, hx, hb⟩ := List.any_eq_true.1 ha
      have := h x hx
      unfold badW at hb
      rw [decide_eq_true this] at hb
      cases hb
  · have ha2 : d.pend.any (badW d.secs.length) = false := by simpa using ha
    by_cases hs : d.secs.any (fun b => !(b.length == 128)) = true
    · rw [ha2, hs, chk_no]
      · rfl
      · rintro ⟨_, _, _, _, _, _, h⟩
        obtain ⟨x, hx, hb⟩ := List.any_eq_true.1 hs
        have := h x hx
        rw [this] at hb
        cases hb
    · have hs2 : d.secs.any (fun b => !(b.length == 128)) = false := by simpa using hs
      rw [ha2, hs2, chk_yes]
      · rfl
      · refine ⟨h1, h2, h3, h4, h5, fun x hx => ?_, fun b hb => ?_⟩
        · have := List.any_eq_false.1 ha2 x hx
          unfold badW at this
          simpa using this
        · have := List.any_eq_false.1 hs2 b hb
          simpa using this

set_option maxHeartbeats 2000000 in
theorem check_t (SA PA : Option Addr) (sc pc : Nat) (d : Dk) (w : World) (hl1 : d.secs.length ≤ 140737488355328) (hl2 : d.pend.length ≤ 140737488355328) (h1 : RowsAt n₀ w SA d.secs) (h2 : WrsAt n₀ w PA d.pend) :
    Calls Try.prog 28 #[.agg #[.slice SA d.secs.length sc, .slice PA d.pend.length pc, .int .i64 d.left, .bool d.stop]] w fun e w' => e = .returned (.int .i64 (gChk d)) ∧ Below w.heap.size w w' := by
  have HBx : Below w.heap.size w ((w.alloc (.cells #[.slice SA d.secs.length sc, .slice PA d.pend.length pc, .int .i64 d.left, .bool d.stop] 25)).alloc (.cells #[.int .i64 d.secs.length] 3)) := ((Below.refl _ w).alloc (Nat.le_refl _) _).alloc (by simp) _
  by_cases c1 : d.secs.length < 1
  · have E := Lib.hid (chk_no (d := d) (fun h => by have := h.1; omega))
    have e1 : decide ((d.secs.length : Int) < 1) = true := decide_eq_true (by omega)
    clear c1
    go_enter Try.func28, Try.ntmps28
    go_wp2
    go_ret
    exact ⟨by rw [E.out]; rfl, HBx⟩
  have e1 : decide ((d.secs.length : Int) < 1) = false := decide_eq_false (by omega)
  by_cases c2 : 4096 < d.secs.length
  · have E := Lib.hid (chk_no (d := d) (fun h => by have := h.2.1; omega))
    have e2 : decide (4096 < (d.secs.length : Int)) = true := decide_eq_true (by omega)
    clear c1 c2
    go_enter Try.func28, Try.ntmps28
    go_wp2
    go_ret
    exact ⟨by rw [E.out]; rfl, HBx⟩
  have e2 : decide (4096 < (d.secs.length : Int)) = false := decide_eq_false (by omega)
  by_cases c3 : 4096 < d.pend.length
  · have E := Lib.hid (chk_no (d := d) (fun h => by have := h.2.2.1; omega))
    have e3 : decide (4096 < (d.pend.length : Int)) = true := decide_eq_true (by omega)
    clear c1 c2 c3
    go_enter Try.func28, Try.ntmps28
    go_wp2
    go_ret
    exact ⟨by rw [E.out]; rfl, HBx⟩
  have e3 : decide (4096 < (d.pend.length : Int)) = false := decide_eq_false (by omega)
  by_cases c4 : d.left < -1
  · have E := Lib.hid (chk_no (d := d) (fun h => by have := h.2.2.2.1; omega))
    have e4 : decide (d.left < -1) = true := decide_eq_true (by omega)
    clear c1 c2 c3 c4
    go_enter Try.func28, Try.ntmps28
    go_wp2
    go_ret
    exact ⟨by rw [E.out]; rfl, HBx⟩
  have e4 : decide (d.left < -1) = false := decide_eq_false (by omega)
  by_cases c5 : 65536 < d.left
  · have E := Lib.hid (chk_no (d := d) (fun h => by have := h.2.2.2.2.1; omega))
    have e5 : decide (65536 < d.left) = true := decide_eq_true (by omega)
    clear c1 c2 c3 c4 c5
    go_enter Try.func28, Try.ntmps28
    go_wp2
    go_ret
    exact ⟨by rw [E.out]; rfl, HBx⟩
  have e5 : decide (65536 < d.left) = false := decide_eq_false (by omega)
  have E := chk_eq (d := d) (by omega) (by omega) (by omega) (by omega) (by omega)
  have b1 : Blk ((w.alloc (.cells #[.slice SA d.secs.length sc, .slice PA d.pend.length pc, .int .i64 d.left, .bool d.stop] 25)).alloc (.cells #[.int .i64 d.secs.length] 3)) (w.heap.size + 1) 3 #[.int .i64 d.secs.length] := Blk.newAt (by simp) 3 _
  have b0 : Blk ((w.alloc (.cells #[.slice SA d.secs.length sc, .slice PA d.pend.length pc, .int .i64 d.left, .bool d.stop] 25)).alloc (.cells #[.int .i64 d.secs.length] 3)) w.heap.size 25 #[.slice SA d.secs.length sc, .slice PA d.pend.length pc, .int .i64 d.left, .bool d.stop] := (Blk.new w 25 _).alloc _
  have KW := anyW_t PA pc d.secs.length (w.heap.size + 1) d.pend _ (by omega) (h2.below HBx) b1
  have KS := fun W hW => anyS_t (n₀ := n₀) SA sc d.secs W (by omega) hW
  obtain ⟨y, hy⟩ : ∃ y, y = d.pend.any (badW d.secs.length) := ⟨_, rfl⟩
  obtain ⟨z, hz⟩ : ∃ z, z = d.secs.any (fun b => !(b.length == 128)) := ⟨_, rfl⟩
  rw [← hy] at KW E
  rw [← hz] at E
  rw [← hz] at KS
  clear hy hz
  have HE := Lib.hid E
  clear E c1 c2 c3 c4 c5
  go_enter Try.func28, Try.ntmps28
  go_wp2_with (fail)
  go_at_call 71
  refine KW.mono ?_
  rintro e w2 ⟨rfl, hw2⟩
  have hb2 := HBx.trans (hw2.mono (by simp <;> omega))
  have b02 := (b0.below hw2 (by simp <;> omega)).cell 0
  cases y
  · have KS2 := KS w2 (h1.below hb2)
    clear HBx b1 b0
    go_wp2_with (fail)
    go_at_call 72
    refine KS2.mono ?_
    rintro e w3 ⟨rfl, hw3⟩
    have hw3 := hw3.symm
    subst hw3
    cases z
    all_goals
      go_wp2
      go_ret
      exact ⟨by rw [HE.out]; rfl, hb2⟩
  · go_wp2
    go_ret
    exact ⟨by rw [HE.out]; rfl, hb2⟩

set_option maxHeartbeats 1000000 in
theorem runs_t (SA PA : Option Addr) (sc pc : Nat) (d : Dk) (w : World) (hl1 : d.secs.length ≤ 140737488355328) (hl2 : d.pend.length ≤ 140737488355328) (h1 : RowsAt n₀ w SA d.secs) (h2 : WrsAt n₀ w PA d.pend) :
    Calls Try.prog 74 #[.agg #[.slice SA d.secs.length sc, .slice PA d.pend.length pc, .int .i64 d.left, .bool d.stop]] w fun e w' => e = .returned (.bool ((gChk d == 0) && !d.stop)) ∧ Below w.heap.size w w' := by
  have HBx : Below w.heap.size w (w.alloc (.cells #[.slice SA d.secs.length sc, .slice PA d.pend.length pc, .int .i64 d.left, .bool d.stop] 25)) := (Below.refl _ w).alloc (Nat.le_refl _) _
  have K := check_t SA PA sc pc d _ hl1 hl2 (h1.below HBx) (h2.below HBx)
  have b0 : Blk (w.alloc (.cells #[.slice SA d.secs.length sc, .slice PA d.pend.length pc, .int .i64 d.left, .bool d.stop] 25)) w.heap.size 25 #[.slice SA d.secs.length sc, .slice PA d.pend.length pc, .int .i64 d.left, .bool d.stop] := Blk.new w 25 _
  obtain ⟨g, hg⟩ : ∃ g, g = gChk d := ⟨_, rfl⟩
  rw [← hg] at K ⊢
  clear hg
  go_enter Try.func74, Try.ntmps74
  go_wp2_with (fail)
  go_at_call 28
  refine K.mono ?_
  rintro e w2 ⟨rfl, hw2⟩
  have hb2 := HBx.trans (hw2.mono (by simp <;> omega))
  have b3 : w2.cell? ⟨w.heap.size, 3, none⟩ = some (.bool d.stop) := (b0.below hw2 (by simp)).cell 3
  clear HBx b0
  by_cases hz : g = 0
  · subst hz
    go_wp2
    go_ret
    exact ⟨rfl, hb2⟩
  · have dz : (g == 0) = false := beq_eq_false_iff_ne.2 hz
    clear hz
    go_wp2
    go_ret
    exact ⟨by rw [dz]; rfl, hb2⟩

theorem has_t (SA PA : Option Addr) (n sc m pc : Nat) (left at_ : Int) (stop : Bool) (w : World) :
    Calls Try.prog 75 #[.agg #[.slice SA n sc, .slice PA m pc, .int .i64 left, .bool stop], .int .i64 at_] w fun e w' => e = .returned (.bool (decide (0 ≤ at_) && decide (at_ < n))) ∧ Below w.heap.size w w' := by
  have HBx : Below w.heap.size w (w.alloc (.cells #[.slice SA n sc, .slice PA m pc, .int .i64 left, .bool stop] 25)) := (Below.refl _ w).alloc (Nat.le_refl _) _
  by_cases h0 : 0 ≤ at_
  · have d0 : decide (0 ≤ at_) = true := decide_eq_true h0
    go_enter Try.func75, Try.ntmps75
    go_wp2
    go_ret
    exact ⟨by rw [d0]; rfl, HBx⟩
  · have d0 : decide (0 ≤ at_) = false := decide_eq_false h0
    clear h0
    go_enter Try.func75, Try.ntmps75
    go_wp2
    go_ret
    exact ⟨by rw [d0]; rfl, HBx⟩
end Go.Proofs.Ytckeopidedoohaa
