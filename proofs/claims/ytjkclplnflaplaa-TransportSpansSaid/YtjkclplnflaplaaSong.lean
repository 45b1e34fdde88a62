/-
  The program's Song answers what the orders say. Conditions: the orders lie as a list.
-/
import Derived.Test.YtjkclplnflaplaaRun
namespace Go.Proofs.Ytjkclplnflaplaa
open Go.RowKit

def SongIs (w : World) (r : Int × Bool × Bool × Int) (e : Ending) (w' : World) : Prop :=
  e = .returned (.tuple #[.int .i64 r.1, .bool r.2.1, .bool r.2.2.1, .int .i64 r.2.2.2]) ∧ Below w.heap.size w w'

set_option maxHeartbeats 4000000 in
theorem song_t (A : Option Addr) (c : Nat) (l : List Ord) (t : Int) (w : World) (hn : l.length ≤ 1000000000) (h : SlAt w A l) :
    Calls Try.prog 14 #[.slice A l.length c, .int .i64 t] w (SongIs w (gSong l t)) := by
  have KC := pcheck_t A c l w hn h
  unfold SongIs
  by_cases hc : gCheck l = 0
  case neg =>
    have E := Lib.hid (show gSong l t = (0, false, false, gCheck l) by unfold gSong; rw [if_pos hc])
    have d : (gCheck l != 0) = true := bne_iff_ne.2 hc
    clear hc
    go_enter Try.func14, Try.ntmps14
    go_wp2_with (go_at_call 12; refine KC.mono ?_; rintro e w1 ⟨rfl, hw1⟩)
    refine bodyPost_ret (results_tmp4 rfl _ _ _) rfl ?_
    exact ⟨by rw [E.out]; rfl, hw1⟩
  have hg : GoodTo l l.length ∧ l.length ≤ 256 := by
    unfold gCheck at hc
    split at hc
    · simp at hc
    · split at hc
      · exact ⟨by assumption, by omega⟩
      · simp at hc
  rw [hc] at KC
  by_cases r1 : t < 0
  · have E := Lib.hid (show gSong l t = (0, false, false, 1) by unfold gSong; rw [if_neg (not_not_intro hc), if_pos (.inl r1)])
    have d : decide (t < 0) = true := decide_eq_true r1
    clear hc r1
    go_enter Try.func14, Try.ntmps14
    go_wp2_with (go_at_call 12; refine KC.mono ?_; rintro e w1 ⟨rfl, hw1⟩)
    refine bodyPost_ret (results_tmp4 rfl _ _ _) rfl ?_
    exact ⟨by rw [E.out]; rfl, hw1⟩
  have d : decide (t < 0) = false := decide_eq_false r1
  by_cases r2 : 1099511627776 < t
  · have E := Lib.hid (show gSong l t = (0, false, false, 1) by unfold gSong; rw [if_neg (not_not_intro hc), if_pos (.inr r2)])
    have d2 : decide (1099511627776 < t) = true := decide_eq_true r2
    clear hc r2
    go_enter Try.func14, Try.ntmps14
    go_wp2_with (go_at_call 12; refine KC.mono ?_; rintro e w1 ⟨rfl, hw1⟩)
    refine bodyPost_ret (results_tmp4 rfl _ _ _) rfl ?_
    exact ⟨by rw [E.out]; rfl, hw1⟩
  have d2 : decide (1099511627776 < t) = false := decide_eq_false r2
  have E := Lib.hid (show gSong l t = ((atS l t).pos, (atS l t).roll, recB (atS l t), 0) by unfold gSong; rw [if_neg (not_not_intro hc), if_neg (by omega)])
  have HG := Lib.hid hg.1
  have hle := hg.2
  clear hc hg
  go_enter Try.func14, Try.ntmps14
  go_wp2_with (first
    | (go_at_call 12; refine KC.mono ?_; rintro e w1 ⟨rfl, hw1⟩)
    | (go_at_call 21; refine (acts_t _).mono ?_; rintro e w2 ⟨rfl, rfl⟩))
  have hal : Below w1.heap.size w1 ((w1.alloc (.cells (stc s0) 46)).alloc (.cells actsC 62)) := ((Below.refl _ _).alloc (Nat.le_refl _) _).alloc (by simp) _
  go_loopw [11, 28] (fun now i wr => ∃ k : Nat, k ≤ l.length ∧ i = .int .i64 k ∧ now = .int .i64 (nowK l k) ∧ Hid (∀ j, j < k → oT l j ≤ t) ∧ Blk wr w1.heap.size 46 (stc (runS l k)) ∧ Blk wr (w1.heap.size + 1) 62 actsC ∧ Below w1.heap.size w1 wr) (fun _ i _ => l.length - (intOf i).toNat)
  case atStart => exact ⟨0, by omega, rfl, rfl, Lib.hid (fun j hj => by omega), (Blk.new w1 46 _).alloc _, Blk.newAt (by simp) 62 _, hal⟩
  case round =>
    clear hal
    obtain ⟨k, hk, rfl, rfl, hT, bS, bA, hwr⟩ := hrel
    by_cases hlt : k < l.length
    case neg =>
      have HK := Lib.hid (cut_uniq hk hT.out (fun hh => absurd hh hlt))
      have hnb := now_bd HG.out hk
      have hnt : nowK l k ≤ t := by
        cases k with
        | zero => exact r1
        | succ k => exact hT.out k (by omega)
      have hok := (run_ok HG.out k hk).ok (by omega)
      have i1 : IntKind.i64.wrap (t - nowK l k) = t - nowK l k := IntWalk.i64_in _ (by omega)
      have KA := advance_t w1.heap.size (runS l k) (t - nowK l k) (wr) hok (by omega) (by omega) (bS)
      rw [show advS (runS l k) (t - nowK l k) = atS l t by unfold atS; rw [← HK.out]] at KA
      obtain ⟨s4, hs4⟩ : ∃ s, s = atS l t := ⟨_, rfl⟩
      rw [← hs4] at KA
      have HS4 := Lib.hid hs4
      have hbb : Below w.heap.size w (wr) := hw1.trans (hwr.mono hw1.size)
      clear hs4 hok
      go_wp2_with (go_at_call 22; refine KA.mono ?_; rintro e w4 ⟨v4, rfl, b4, k4⟩)
      obtain ⟨e0, e1, e2, e3, e4, e5, e6, e7, ef⟩ := stc_cells b4
      have hlt4 := b4.lt
      have KR := fun W => recorded_t s4 W
      unfold stv stc at KR
      have bw4 : Below w.heap.size w w4 := hbb.trans (k4.below (show w.heap.size ≤ (wr).heap.size from hbb.size) (fun r hr h => by have := hw1.size; omega))
      refine wp_region_held_drew (S := (fun W => W.cell? ⟨w1.heap.size, 0, none⟩ = some (.int .i64 s4.pos) ∧ W.cell? ⟨w1.heap.size, 1, none⟩ = some (.bool s4.roll) ∧ W.cell? ⟨w1.heap.size, 2, none⟩ = some (.bool s4.lon) ∧ W.cell? ⟨w1.heap.size, 3, none⟩ = some (.int .i64 s4.la) ∧ W.cell? ⟨w1.heap.size, 4, none⟩ = some (.int .i64 s4.lb) ∧ W.cell? ⟨w1.heap.size, 5, none⟩ = some (.bool s4.pon) ∧ W.cell? ⟨w1.heap.size, 6, none⟩ = some (.int .i64 s4.pa) ∧ W.cell? ⟨w1.heap.size, 7, none⟩ = some (.int .i64 s4.pb))) (by kernel_rfl) ?_ (fun hHeld => ?_)
      · go_keep
      try dsimp only at hHeld
      refine wpAnyH_take (i := 0) (oi := { dst := some 56, op := Op.fieldAddr 46 (Operand.tmp 9) 0, type := 0, pos := "transport.go:105", after := #[], guard := none }) (v := ?_) rfl (by kernel_rfl) (by kernel_rfl) (by kernel_rfl) (fun _ _ _ h => h) (Or.inl ⟨by rfl, ?_⟩) (by assumption) ?_
      rotate_left
      · intro wS hSw; go_split_ands; go_simp; first | done | with_reducible rfl
      simp only [Act.put, List.setIfInBounds_toArray, List.set_cons_zero, List.set_cons_succ]
      refine wpAnyH_take (i := 1) (oi := { dst := some 57, op := Op.load 3 (Operand.tmp 56), type := 3, pos := "transport.go:105", after := #[{ on := 0, ground := Ground.data }], guard := none }) (v := ?_) rfl (by kernel_rfl) (by kernel_rfl) (by kernel_rfl) (fun _ _ _ h => h) (Or.inl ⟨by rfl, ?_⟩) (by assumption) ?_
      rotate_left
      · intro wS hSw; go_split_ands; go_simp; first | done | with_reducible rfl
      simp only [Act.put, List.setIfInBounds_toArray, List.set_cons_zero, List.set_cons_succ]
      refine wpAnyH_take (i := 2) (oi := { dst := some 58, op := Op.fieldAddr 46 (Operand.tmp 9) 1, type := 0, pos := "transport.go:105", after := #[{ on := 6, ground := Ground.gcOnly Departure.lateStores }], guard := none }) (v := ?_) rfl (by kernel_rfl) (by kernel_rfl) (by kernel_rfl) (fun _ _ _ h => h) (Or.inl ⟨by rfl, ?_⟩) (by assumption) ?_
      rotate_left
      · intro wS hSw; go_split_ands; go_simp; first | done | with_reducible rfl
      simp only [Act.put, List.setIfInBounds_toArray, List.set_cons_zero, List.set_cons_succ]
      refine wpAnyH_take (i := 3) (oi := { dst := some 59, op := Op.load 4 (Operand.tmp 58), type := 4, pos := "transport.go:105", after := #[{ on := 2, ground := Ground.data }, { on := 6, ground := Ground.gcOnly Departure.lateStores }], guard := none }) (v := ?_) rfl (by kernel_rfl) (by kernel_rfl) (by kernel_rfl) (fun _ _ _ h => h) (Or.inl ⟨by rfl, ?_⟩) (by assumption) ?_
      rotate_left
      · intro wS hSw; go_split_ands; go_simp; first | done | with_reducible rfl
      simp only [Act.put, List.setIfInBounds_toArray, List.set_cons_zero, List.set_cons_succ]
      refine wpAnyH_take (i := 4) (oi := { dst := some 60, op := Op.load 46 (Operand.tmp 9), type := 46, pos := "transport.go:105", after := #[], guard := none }) (v := ?_) rfl (by kernel_rfl) (by kernel_rfl) (by kernel_rfl) (fun _ _ _ h => h) (Or.inl ⟨by rfl, ?_⟩) (by assumption) ?_
      rotate_left
      · intro wS hSw; go_split_ands; go_simp; first | done | with_reducible rfl
      simp only [Act.put, List.setIfInBounds_toArray, List.set_cons_zero, List.set_cons_succ]
      refine wpAnyH_ready (rs := [5]) (by kernel_rfl) (by simp) ?_
      refine AllReadyH.cons (o := { dst := some 61, op := Op.call { callee := Callee.value (Operand.func 23), args := #[Operand.tmp 60], argTypes := #[46] }, type := 4, pos := "transport.go:105", after := #[{ on := 4, ground := Ground.data }], guard := none }) rfl (fun K hK => ?_) AllReadyH.nil
      go_simp
      go_at_call 23; refine (KR _).mono ?_; rintro e w5 ⟨rfl, hb2⟩
      refine hK.out _ _ ?_ (fun hHeld => ?_)
      · exact ⟨(hb2.cell (p := ⟨w1.heap.size, 0, none⟩) (by simp <;> omega)).trans (by go_keep), (hb2.cell (p := ⟨w1.heap.size, 1, none⟩) (by simp <;> omega)).trans (by go_keep), (hb2.cell (p := ⟨w1.heap.size, 2, none⟩) (by simp <;> omega)).trans (by go_keep), (hb2.cell (p := ⟨w1.heap.size, 3, none⟩) (by simp <;> omega)).trans (by go_keep), (hb2.cell (p := ⟨w1.heap.size, 4, none⟩) (by simp <;> omega)).trans (by go_keep), (hb2.cell (p := ⟨w1.heap.size, 5, none⟩) (by simp <;> omega)).trans (by go_keep), (hb2.cell (p := ⟨w1.heap.size, 6, none⟩) (by simp <;> omega)).trans (by go_keep), (hb2.cell (p := ⟨w1.heap.size, 7, none⟩) (by simp <;> omega)).trans (by go_keep)⟩
      clear hK K
      try simp only [Act.put, List.setIfInBounds_toArray, List.set_cons_zero, List.set_cons_succ]
      refine wpAnyH_ready (rs := [6]) (by kernel_rfl) (by simp) ?_
      refine AllReadyH.cons (o := { dst := some 4, op := Op.assign (Operand.tmp 57), type := 3, pos := "transport.go:105", after := #[{ on := 1, ground := Ground.data }, { on := 5, ground := Ground.chain }, { on := 0, ground := Ground.phase }, { on := 1, ground := Ground.phase }, { on := 2, ground := Ground.textOnly Departure.lateStores }, { on := 3, ground := Ground.textOnly Departure.lateStores }, { on := 4, ground := Ground.textOnly Departure.lateStores }, { on := 5, ground := Ground.textOnly Departure.lateStoresUnsure }], guard := none }) rfl (fun K hK => ?_) AllReadyH.nil
      go_simp
      refine hK.out _ _ ?_ (fun hHeld => ?_)
      · exact ⟨(hb2.cell (p := ⟨w1.heap.size, 0, none⟩) (by simp <;> omega)).trans (by go_keep), (hb2.cell (p := ⟨w1.heap.size, 1, none⟩) (by simp <;> omega)).trans (by go_keep), (hb2.cell (p := ⟨w1.heap.size, 2, none⟩) (by simp <;> omega)).trans (by go_keep), (hb2.cell (p := ⟨w1.heap.size, 3, none⟩) (by simp <;> omega)).trans (by go_keep), (hb2.cell (p := ⟨w1.heap.size, 4, none⟩) (by simp <;> omega)).trans (by go_keep), (hb2.cell (p := ⟨w1.heap.size, 5, none⟩) (by simp <;> omega)).trans (by go_keep), (hb2.cell (p := ⟨w1.heap.size, 6, none⟩) (by simp <;> omega)).trans (by go_keep), (hb2.cell (p := ⟨w1.heap.size, 7, none⟩) (by simp <;> omega)).trans (by go_keep)⟩
      clear hK K
      try simp only [Act.put, List.setIfInBounds_toArray, List.set_cons_zero, List.set_cons_succ]
      refine wpAnyH_ready (rs := [7]) (by kernel_rfl) (by simp) ?_
      refine AllReadyH.cons (o := { dst := some 5, op := Op.assign (Operand.tmp 59), type := 4, pos := "transport.go:105", after := #[{ on := 3, ground := Ground.data }, { on := 6, ground := Ground.chain }, { on := 0, ground := Ground.phase }, { on := 1, ground := Ground.phase }, { on := 2, ground := Ground.phase }, { on := 3, ground := Ground.phase }, { on := 4, ground := Ground.textOnly Departure.lateStores }, { on := 5, ground := Ground.textOnly Departure.lateStoresUnsure }, { on := 6, ground := Ground.phase }], guard := none }) rfl (fun K hK => ?_) AllReadyH.nil
      go_simp
      refine hK.out _ _ ?_ (fun hHeld => ?_)
      · exact ⟨(hb2.cell (p := ⟨w1.heap.size, 0, none⟩) (by simp <;> omega)).trans (by go_keep), (hb2.cell (p := ⟨w1.heap.size, 1, none⟩) (by simp <;> omega)).trans (by go_keep), (hb2.cell (p := ⟨w1.heap.size, 2, none⟩) (by simp <;> omega)).trans (by go_keep), (hb2.cell (p := ⟨w1.heap.size, 3, none⟩) (by simp <;> omega)).trans (by go_keep), (hb2.cell (p := ⟨w1.heap.size, 4, none⟩) (by simp <;> omega)).trans (by go_keep), (hb2.cell (p := ⟨w1.heap.size, 5, none⟩) (by simp <;> omega)).trans (by go_keep), (hb2.cell (p := ⟨w1.heap.size, 6, none⟩) (by simp <;> omega)).trans (by go_keep), (hb2.cell (p := ⟨w1.heap.size, 7, none⟩) (by simp <;> omega)).trans (by go_keep)⟩
      clear hK K
      try simp only [Act.put, List.setIfInBounds_toArray, List.set_cons_zero, List.set_cons_succ]
      refine wpAnyH_ready (rs := [8]) (by kernel_rfl) (by simp) ?_
      refine AllReadyH.cons (o := { dst := some 6, op := Op.assign (Operand.tmp 61), type := 4, pos := "transport.go:105", after := #[{ on := 5, ground := Ground.data }, { on := 7, ground := Ground.chain }, { on := 0, ground := Ground.phase }, { on := 1, ground := Ground.phase }, { on := 2, ground := Ground.phase }, { on := 3, ground := Ground.phase }, { on := 4, ground := Ground.phase }, { on := 5, ground := Ground.phase }, { on := 6, ground := Ground.phase }, { on := 7, ground := Ground.phase }], guard := none }) rfl (fun K hK => ?_) AllReadyH.nil
      go_simp
      refine hK.out _ _ ?_ (fun hHeld => ?_)
      · exact ⟨(hb2.cell (p := ⟨w1.heap.size, 0, none⟩) (by simp <;> omega)).trans (by go_keep), (hb2.cell (p := ⟨w1.heap.size, 1, none⟩) (by simp <;> omega)).trans (by go_keep), (hb2.cell (p := ⟨w1.heap.size, 2, none⟩) (by simp <;> omega)).trans (by go_keep), (hb2.cell (p := ⟨w1.heap.size, 3, none⟩) (by simp <;> omega)).trans (by go_keep), (hb2.cell (p := ⟨w1.heap.size, 4, none⟩) (by simp <;> omega)).trans (by go_keep), (hb2.cell (p := ⟨w1.heap.size, 5, none⟩) (by simp <;> omega)).trans (by go_keep), (hb2.cell (p := ⟨w1.heap.size, 6, none⟩) (by simp <;> omega)).trans (by go_keep), (hb2.cell (p := ⟨w1.heap.size, 7, none⟩) (by simp <;> omega)).trans (by go_keep)⟩
      clear hK K
      try simp only [Act.put, List.setIfInBounds_toArray, List.set_cons_zero, List.set_cons_succ]
      refine wpAnyH_ready (rs := [9]) (by kernel_rfl) (by simp) ?_
      refine AllReadyH.cons (o := { dst := some 7, op := Op.assign (Operand.const (Value.int IntKind.i64 0)), type := 25, pos := "transport.go:105", after := #[{ on := 8, ground := Ground.chain }, { on := 0, ground := Ground.phase }, { on := 1, ground := Ground.phase }, { on := 2, ground := Ground.phase }, { on := 3, ground := Ground.phase }, { on := 4, ground := Ground.phase }, { on := 5, ground := Ground.phase }, { on := 6, ground := Ground.phase }, { on := 7, ground := Ground.phase }, { on := 8, ground := Ground.phase }], guard := none }) rfl (fun K hK => ?_) AllReadyH.nil
      go_simp
      refine hK.out _ _ ?_ (fun hHeld => ?_)
      · exact ⟨(hb2.cell (p := ⟨w1.heap.size, 0, none⟩) (by simp <;> omega)).trans (by go_keep), (hb2.cell (p := ⟨w1.heap.size, 1, none⟩) (by simp <;> omega)).trans (by go_keep), (hb2.cell (p := ⟨w1.heap.size, 2, none⟩) (by simp <;> omega)).trans (by go_keep), (hb2.cell (p := ⟨w1.heap.size, 3, none⟩) (by simp <;> omega)).trans (by go_keep), (hb2.cell (p := ⟨w1.heap.size, 4, none⟩) (by simp <;> omega)).trans (by go_keep), (hb2.cell (p := ⟨w1.heap.size, 5, none⟩) (by simp <;> omega)).trans (by go_keep), (hb2.cell (p := ⟨w1.heap.size, 6, none⟩) (by simp <;> omega)).trans (by go_keep), (hb2.cell (p := ⟨w1.heap.size, 7, none⟩) (by simp <;> omega)).trans (by go_keep)⟩
      clear hK K
      try simp only [Act.put, List.setIfInBounds_toArray, List.set_cons_zero, List.set_cons_succ]
      refine wpAnyH_done (by kernel_rfl) ?_ _
      go_wp2_with fail
      refine bodyPost_ret (results_tmp4 rfl _ _ _) rfl ?_
      exact ⟨by rw [E.out, ← HS4.out]; rfl, bw4.drew.trans (hb2.mono (by have := bw4.size; simp; omega))⟩
    obtain ⟨b, o, rfl, hm0⟩ := (h.below hw1) (by omega)
    have hm := hm0.below hwr
    have hb := hm.lt
    have g0 := hm.c0 k hlt
    have g1 := hm.c1 k hlt
    have g2 := hm.c2 k hlt
    have g3 := hm.c3 k hlt
    obtain ⟨tt, ht⟩ : ∃ x, x = oT l k := ⟨_, rfl⟩
    obtain ⟨kd, hkd⟩ : ∃ x, x = oK l k := ⟨_, rfl⟩
    obtain ⟨xa, hxa⟩ : ∃ x, x = oA l k := ⟨_, rfl⟩
    obtain ⟨xb, hxb⟩ : ∃ x, x = oB l k := ⟨_, rfl⟩
    rw [← ht] at g0
    rw [← hkd] at g1
    rw [← hxa] at g2
    rw [← hxb] at g3
    have hx : l.getD k o0 = ⟨tt, kd, xa, xb⟩ := by rw [ht, hkd, hxa, hxb]; rfl
    have HX := Lib.hid hx
    have HTT := Lib.hid ht
    clear hx ht hkd hxa hxb hm0
    have hsz := hwr.size
    have bSl := bS.lt
    have bAl := bA.lt
    by_cases hq : t < tt
    · have dq : decide (t < tt) = true := decide_eq_true hq
      have HK := Lib.hid (cut_uniq hk hT.out (fun _ => by rw [← HTT.out]; exact hq))
      have hnb := now_bd HG.out hk
      have hnt : nowK l k ≤ t := by
        cases k with
        | zero => exact r1
        | succ k => exact hT.out k (by omega)
      have hok := (run_ok HG.out k hk).ok (by omega)
      have i1 : IntKind.i64.wrap (t - nowK l k) = t - nowK l k := IntWalk.i64_in _ (by omega)
      have KA := advance_t w1.heap.size (runS l k) (t - nowK l k) (wr.alloc (.cells #[.int .i64 tt, .int .i64 kd, .int .i64 xa, .int .i64 xb] 40)) hok (by omega) (by omega) (bS.alloc _)
      rw [show advS (runS l k) (t - nowK l k) = atS l t by unfold atS; rw [← HK.out]] at KA
      obtain ⟨s4, hs4⟩ : ∃ s, s = atS l t := ⟨_, rfl⟩
      rw [← hs4] at KA
      have HS4 := Lib.hid hs4
      have hbb : Below w.heap.size w (wr.alloc (.cells #[.int .i64 tt, .int .i64 kd, .int .i64 xa, .int .i64 xb] 40)) := (hw1.trans (hwr.mono hw1.size)).alloc (by have := (hw1.trans (hwr.mono hw1.size)).size; omega) _
      clear hs4 hok
      go_wp2_with (go_at_call 22; refine KA.mono ?_; rintro e w4 ⟨v4, rfl, b4, k4⟩)
      obtain ⟨e0, e1, e2, e3, e4, e5, e6, e7, ef⟩ := stc_cells b4
      have hlt4 := b4.lt
      have KR := fun W => recorded_t s4 W
      unfold stv stc at KR
      have bw4 : Below w.heap.size w w4 := hbb.trans (k4.below (show w.heap.size ≤ (wr.alloc (.cells #[.int .i64 tt, .int .i64 kd, .int .i64 xa, .int .i64 xb] 40)).heap.size from hbb.size) (fun r hr h => by have := hw1.size; omega))
      refine wp_region_held_drew (S := (fun W => W.cell? ⟨w1.heap.size, 0, none⟩ = some (.int .i64 s4.pos) ∧ W.cell? ⟨w1.heap.size, 1, none⟩ = some (.bool s4.roll) ∧ W.cell? ⟨w1.heap.size, 2, none⟩ = some (.bool s4.lon) ∧ W.cell? ⟨w1.heap.size, 3, none⟩ = some (.int .i64 s4.la) ∧ W.cell? ⟨w1.heap.size, 4, none⟩ = some (.int .i64 s4.lb) ∧ W.cell? ⟨w1.heap.size, 5, none⟩ = some (.bool s4.pon) ∧ W.cell? ⟨w1.heap.size, 6, none⟩ = some (.int .i64 s4.pa) ∧ W.cell? ⟨w1.heap.size, 7, none⟩ = some (.int .i64 s4.pb))) (by kernel_rfl) ?_ (fun hHeld => ?_)
      · go_keep
      try dsimp only at hHeld
      refine wpAnyH_take (i := 0) (oi := { dst := some 56, op := Op.fieldAddr 46 (Operand.tmp 9) 0, type := 0, pos := "transport.go:105", after := #[], guard := none }) (v := ?_) rfl (by kernel_rfl) (by kernel_rfl) (by kernel_rfl) (fun _ _ _ h => h) (Or.inl ⟨by rfl, ?_⟩) (by assumption) ?_
      rotate_left
      · intro wS hSw; go_split_ands; go_simp; first | done | with_reducible rfl
      simp only [Act.put, List.setIfInBounds_toArray, List.set_cons_zero, List.set_cons_succ]
      refine wpAnyH_take (i := 1) (oi := { dst := some 57, op := Op.load 3 (Operand.tmp 56), type := 3, pos := "transport.go:105", after := #[{ on := 0, ground := Ground.data }], guard := none }) (v := ?_) rfl (by kernel_rfl) (by kernel_rfl) (by kernel_rfl) (fun _ _ _ h => h) (Or.inl ⟨by rfl, ?_⟩) (by assumption) ?_
      rotate_left
      · intro wS hSw; go_split_ands; go_simp; first | done | with_reducible rfl
      simp only [Act.put, List.setIfInBounds_toArray, List.set_cons_zero, List.set_cons_succ]
      refine wpAnyH_take (i := 2) (oi := { dst := some 58, op := Op.fieldAddr 46 (Operand.tmp 9) 1, type := 0, pos := "transport.go:105", after := #[{ on := 6, ground := Ground.gcOnly Departure.lateStores }], guard := none }) (v := ?_) rfl (by kernel_rfl) (by kernel_rfl) (by kernel_rfl) (fun _ _ _ h => h) (Or.inl ⟨by rfl, ?_⟩) (by assumption) ?_
      rotate_left
      · intro wS hSw; go_split_ands; go_simp; first | done | with_reducible rfl
      simp only [Act.put, List.setIfInBounds_toArray, List.set_cons_zero, List.set_cons_succ]
      refine wpAnyH_take (i := 3) (oi := { dst := some 59, op := Op.load 4 (Operand.tmp 58), type := 4, pos := "transport.go:105", after := #[{ on := 2, ground := Ground.data }, { on := 6, ground := Ground.gcOnly Departure.lateStores }], guard := none }) (v := ?_) rfl (by kernel_rfl) (by kernel_rfl) (by kernel_rfl) (fun _ _ _ h => h) (Or.inl ⟨by rfl, ?_⟩) (by assumption) ?_
      rotate_left
      · intro wS hSw; go_split_ands; go_simp; first | done | with_reducible rfl
      simp only [Act.put, List.setIfInBounds_toArray, List.set_cons_zero, List.set_cons_succ]
      refine wpAnyH_take (i := 4) (oi := { dst := some 60, op := Op.load 46 (Operand.tmp 9), type := 46, pos := "transport.go:105", after := #[], guard := none }) (v := ?_) rfl (by kernel_rfl) (by kernel_rfl) (by kernel_rfl) (fun _ _ _ h => h) (Or.inl ⟨by rfl, ?_⟩) (by assumption) ?_
      rotate_left
      · intro wS hSw; go_split_ands; go_simp; first | done | with_reducible rfl
      simp only [Act.put, List.setIfInBounds_toArray, List.set_cons_zero, List.set_cons_succ]
      refine wpAnyH_ready (rs := [5]) (by kernel_rfl) (by simp) ?_
      refine AllReadyH.cons (o := { dst := some 61, op := Op.call { callee := Callee.value (Operand.func 23), args := #[Operand.tmp 60], argTypes := #[46] }, type := 4, pos := "transport.go:105", after := #[{ on := 4, ground := Ground.data }], guard := none }) rfl (fun K hK => ?_) AllReadyH.nil
      go_simp
      go_at_call 23; refine (KR _).mono ?_; rintro e w5 ⟨rfl, hb2⟩
      refine hK.out _ _ ?_ (fun hHeld => ?_)
      · exact ⟨(hb2.cell (p := ⟨w1.heap.size, 0, none⟩) (by simp <;> omega)).trans (by go_keep), (hb2.cell (p := ⟨w1.heap.size, 1, none⟩) (by simp <;> omega)).trans (by go_keep), (hb2.cell (p := ⟨w1.heap.size, 2, none⟩) (by simp <;> omega)).trans (by go_keep), (hb2.cell (p := ⟨w1.heap.size, 3, none⟩) (by simp <;> omega)).trans (by go_keep), (hb2.cell (p := ⟨w1.heap.size, 4, none⟩) (by simp <;> omega)).trans (by go_keep), (hb2.cell (p := ⟨w1.heap.size, 5, none⟩) (by simp <;> omega)).trans (by go_keep), (hb2.cell (p := ⟨w1.heap.size, 6, none⟩) (by simp <;> omega)).trans (by go_keep), (hb2.cell (p := ⟨w1.heap.size, 7, none⟩) (by simp <;> omega)).trans (by go_keep)⟩
      clear hK K
      try simp only [Act.put, List.setIfInBounds_toArray, List.set_cons_zero, List.set_cons_succ]
      refine wpAnyH_ready (rs := [6]) (by kernel_rfl) (by simp) ?_
      refine AllReadyH.cons (o := { dst := some 4, op := Op.assign (Operand.tmp 57), type := 3, pos := "transport.go:105", after := #[{ on := 1, ground := Ground.data }, { on := 5, ground := Ground.chain }, { on := 0, ground := Ground.phase }, { on := 1, ground := Ground.phase }, { on := 2, ground := Ground.textOnly Departure.lateStores }, { on := 3, ground := Ground.textOnly Departure.lateStores }, { on := 4, ground := Ground.textOnly Departure.lateStores }, { on := 5, ground := Ground.textOnly Departure.lateStoresUnsure }], guard := none }) rfl (fun K hK => ?_) AllReadyH.nil
      go_simp
      refine hK.out _ _ ?_ (fun hHeld => ?_)
      · exact ⟨(hb2.cell (p := ⟨w1.heap.size, 0, none⟩) (by simp <;> omega)).trans (by go_keep), (hb2.cell (p := ⟨w1.heap.size, 1, none⟩) (by simp <;> omega)).trans (by go_keep), (hb2.cell (p := ⟨w1.heap.size, 2, none⟩) (by simp <;> omega)).trans (by go_keep), (hb2.cell (p := ⟨w1.heap.size, 3, none⟩) (by simp <;> omega)).trans (by go_keep), (hb2.cell (p := ⟨w1.heap.size, 4, none⟩) (by simp <;> omega)).trans (by go_keep), (hb2.cell (p := ⟨w1.heap.size, 5, none⟩) (by simp <;> omega)).trans (by go_keep), (hb2.cell (p := ⟨w1.heap.size, 6, none⟩) (by simp <;> omega)).trans (by go_keep), (hb2.cell (p := ⟨w1.heap.size, 7, none⟩) (by simp <;> omega)).trans (by go_keep)⟩
      clear hK K
      try simp only [Act.put, List.setIfInBounds_toArray, List.set_cons_zero, List.set_cons_succ]
      refine wpAnyH_ready (rs := [7]) (by kernel_rfl) (by simp) ?_
      refine AllReadyH.cons (o := { dst := some 5, op := Op.assign (Operand.tmp 59), type := 4, pos := "transport.go:105", after := #[{ on := 3, ground := Ground.data }, { on := 6, ground := Ground.chain }, { on := 0, ground := Ground.phase }, { on := 1, ground := Ground.phase }, { on := 2, ground := Ground.phase }, { on := 3, ground := Ground.phase }, { on := 4, ground := Ground.textOnly Departure.lateStores }, { on := 5, ground := Ground.textOnly Departure.lateStoresUnsure }, { on := 6, ground := Ground.phase }], guard := none }) rfl (fun K hK => ?_) AllReadyH.nil
      go_simp
      refine hK.out _ _ ?_ (fun hHeld => ?_)
      · exact ⟨(hb2.cell (p := ⟨w1.heap.size, 0, none⟩) (by simp <;> omega)).trans (by go_keep), (hb2.cell (p := ⟨w1.heap.size, 1, none⟩) (by simp <;> omega)).trans (by go_keep), (hb2.cell (p := ⟨w1.heap.size, 2, none⟩) (by simp <;> omega)).trans (by go_keep), (hb2.cell (p := ⟨w1.heap.size, 3, none⟩) (by simp <;> omega)).trans (by go_keep), (hb2.cell (p := ⟨w1.heap.size, 4, none⟩) (by simp <;> omega)).trans (by go_keep), (hb2.cell (p := ⟨w1.heap.size, 5, none⟩) (by simp <;> omega)).trans (by go_keep), (hb2.cell (p := ⟨w1.heap.size, 6, none⟩) (by simp <;> omega)).trans (by go_keep), (hb2.cell (p := ⟨w1.heap.size, 7, none⟩) (by simp <;> omega)).trans (by go_keep)⟩
      clear hK K
      try simp only [Act.put, List.setIfInBounds_toArray, List.set_cons_zero, List.set_cons_succ]
      refine wpAnyH_ready (rs := [8]) (by kernel_rfl) (by simp) ?_
      refine AllReadyH.cons (o := { dst := some 6, op := Op.assign (Operand.tmp 61), type := 4, pos := "transport.go:105", after := #[{ on := 5, ground := Ground.data }, { on := 7, ground := Ground.chain }, { on := 0, ground := Ground.phase }, { on := 1, ground := Ground.phase }, { on := 2, ground := Ground.phase }, { on := 3, ground := Ground.phase }, { on := 4, ground := Ground.phase }, { on := 5, ground := Ground.phase }, { on := 6, ground := Ground.phase }, { on := 7, ground := Ground.phase }], guard := none }) rfl (fun K hK => ?_) AllReadyH.nil
      go_simp
      refine hK.out _ _ ?_ (fun hHeld => ?_)
      · exact ⟨(hb2.cell (p := ⟨w1.heap.size, 0, none⟩) (by simp <;> omega)).trans (by go_keep), (hb2.cell (p := ⟨w1.heap.size, 1, none⟩) (by simp <;> omega)).trans (by go_keep), (hb2.cell (p := ⟨w1.heap.size, 2, none⟩) (by simp <;> omega)).trans (by go_keep), (hb2.cell (p := ⟨w1.heap.size, 3, none⟩) (by simp <;> omega)).trans (by go_keep), (hb2.cell (p := ⟨w1.heap.size, 4, none⟩) (by simp <;> omega)).trans (by go_keep), (hb2.cell (p := ⟨w1.heap.size, 5, none⟩) (by simp <;> omega)).trans (by go_keep), (hb2.cell (p := ⟨w1.heap.size, 6, none⟩) (by simp <;> omega)).trans (by go_keep), (hb2.cell (p := ⟨w1.heap.size, 7, none⟩) (by simp <;> omega)).trans (by go_keep)⟩
      clear hK K
      try simp only [Act.put, List.setIfInBounds_toArray, List.set_cons_zero, List.set_cons_succ]
      refine wpAnyH_ready (rs := [9]) (by kernel_rfl) (by simp) ?_
      refine AllReadyH.cons (o := { dst := some 7, op := Op.assign (Operand.const (Value.int IntKind.i64 0)), type := 25, pos := "transport.go:105", after := #[{ on := 8, ground := Ground.chain }, { on := 0, ground := Ground.phase }, { on := 1, ground := Ground.phase }, { on := 2, ground := Ground.phase }, { on := 3, ground := Ground.phase }, { on := 4, ground := Ground.phase }, { on := 5, ground := Ground.phase }, { on := 6, ground := Ground.phase }, { on := 7, ground := Ground.phase }, { on := 8, ground := Ground.phase }], guard := none }) rfl (fun K hK => ?_) AllReadyH.nil
      go_simp
      refine hK.out _ _ ?_ (fun hHeld => ?_)
      · exact ⟨(hb2.cell (p := ⟨w1.heap.size, 0, none⟩) (by simp <;> omega)).trans (by go_keep), (hb2.cell (p := ⟨w1.heap.size, 1, none⟩) (by simp <;> omega)).trans (by go_keep), (hb2.cell (p := ⟨w1.heap.size, 2, none⟩) (by simp <;> omega)).trans (by go_keep), (hb2.cell (p := ⟨w1.heap.size, 3, none⟩) (by simp <;> omega)).trans (by go_keep), (hb2.cell (p := ⟨w1.heap.size, 4, none⟩) (by simp <;> omega)).trans (by go_keep), (hb2.cell (p := ⟨w1.heap.size, 5, none⟩) (by simp <;> omega)).trans (by go_keep), (hb2.cell (p := ⟨w1.heap.size, 6, none⟩) (by simp <;> omega)).trans (by go_keep), (hb2.cell (p := ⟨w1.heap.size, 7, none⟩) (by simp <;> omega)).trans (by go_keep)⟩
      clear hK K
      try simp only [Act.put, List.setIfInBounds_toArray, List.set_cons_zero, List.set_cons_succ]
      refine wpAnyH_done (by kernel_rfl) ?_ _
      go_wp2_with fail
      refine bodyPost_ret (results_tmp4 rfl _ _ _) rfl ?_
      exact ⟨by rw [E.out, ← HS4.out]; rfl, bw4.drew.trans (hb2.mono (by have := bw4.size; simp; omega))⟩
    have dq : decide (t < tt) = false := decide_eq_false hq
    obtain ⟨n, f, hkn, hn7, hn0, hac, eg, KF⟩ := act_any (x := ⟨tt, kd, xa, xb⟩) (by rw [← HX.out]; exact HG.out.1 k hlt)
    dsimp only at hkn KF
    subst hkn
    have hnb := now_bd HG.out hk
    have hnk := hnb.2.2 hlt
    rw [← HTT.out] at hnk
    have hR := HG.out.1 k hlt
    rw [HX.out] at hR
    have ht1 := hR.2.1
    dsimp only at ht1
    clear hR
    have hok := (run_ok HG.out k hk).ok (by omega)
    have i1 : IntKind.i64.wrap (tt - nowK l k) = tt - nowK l k := IntWalk.i64_in _ (by omega)
    have KA := advance_t w1.heap.size (runS l k) (tt - nowK l k) (wr.alloc (.cells #[.int .i64 tt, .int .i64 n, .int .i64 xa, .int .i64 xb] 40)) hok (by omega) (by omega) (bS.alloc _)
    have BX : Blk (wr.alloc (.cells #[.int .i64 tt, .int .i64 n, .int .i64 xa, .int .i64 xb] 40)) wr.heap.size 40 #[.int .i64 tt, .int .i64 n, .int .i64 xa, .int .i64 xb] := Blk.new wr 40 _
    have BA := bA.alloc (.cells #[.int .i64 tt, .int .i64 n, .int .i64 xa, .int .i64 xb] 40)
    clear hok
    go_wp2_with (go_at_call 22; refine KA.mono ?_; rintro e w4 ⟨v4, rfl, b4, k4⟩; have x0 : w4.cell? ⟨wr.heap.size, 0, none⟩ = some (.int .i64 tt) := (BX.keep k4 (by omega)).cell 0; have x1 : w4.cell? ⟨wr.heap.size, 1, none⟩ = some (.int .i64 n) := (BX.keep k4 (by omega)).cell 1; have x2 : w4.cell? ⟨wr.heap.size, 2, none⟩ = some (.int .i64 xa) := (BX.keep k4 (by omega)).cell 2; have x3 : w4.cell? ⟨wr.heap.size, 3, none⟩ = some (.int .i64 xb) := (BX.keep k4 (by omega)).cell 3; have bA4 := BA.keep k4 (by omega); have ya : w4.cell? ⟨w1.heap.size + 1, n, none⟩ = some (.func (.func f) #[] #[]) := (bA4.cell n).trans hac)
    have hn7i : (n : Int) < 7 := by omega
    have w4s := k4.size
    simp only [World.size_alloc] at w4s
    have HS : Hid (ordS (advS (runS l k) (tt - nowK l k)) ⟨tt, n, xa, xb⟩ = runS l (k + 1)) := Lib.hid (by show _ = ordS (advS (runS l k) (oT l k - nowK l k)) (l.getD k o0); rw [HX.out, HTT.out])
    have HN : Hid (tt = nowK l (k + 1)) := HTT
    refine wp_region_held_drew (S := (fun W => W.cell? ⟨w1.heap.size + 1, n, none⟩ = some (.func (.func f) #[] #[]) ∧ W.cell? ⟨wr.heap.size, 0, none⟩ = some (.int .i64 tt) ∧ W.cell? ⟨wr.heap.size, 1, none⟩ = some (.int .i64 n) ∧ W.cell? ⟨wr.heap.size, 2, none⟩ = some (.int .i64 xa) ∧ W.cell? ⟨wr.heap.size, 3, none⟩ = some (.int .i64 xb))) (by kernel_rfl) ?_ (fun hHeld => ?_)
    · go_keep
    try dsimp only at hHeld
    refine wpAnyH_take (i := 0) (oi := { dst := some 43, op := Op.move (Operand.tmp 10), type := 47, pos := "transport.go:102", after := #[], guard := none }) (v := ?_) rfl (by kernel_rfl) (by kernel_rfl) (by kernel_rfl) (fun _ _ _ h => h) (Or.inl ⟨by rfl, ?_⟩) (by assumption) ?_
    rotate_left
    · intro wS hSw; go_split_ands; go_simp; first | done | with_reducible rfl
    simp only [Act.put, List.setIfInBounds_toArray, List.set_cons_zero, List.set_cons_succ]
    refine wpAnyH_take (i := 1) (oi := { dst := some 44, op := Op.fieldAddr 40 (Operand.tmp 13) 1, type := 0, pos := "transport.go:102", after := #[], guard := none }) (v := ?_) rfl (by kernel_rfl) (by kernel_rfl) (by kernel_rfl) (fun _ _ _ h => h) (Or.inl ⟨by rfl, ?_⟩) (by assumption) ?_
    rotate_left
    · intro wS hSw; go_split_ands; go_simp; first | done | with_reducible rfl
    simp only [Act.put, List.setIfInBounds_toArray, List.set_cons_zero, List.set_cons_succ]
    refine wpAnyH_take (i := 2) (oi := { dst := some 45, op := Op.load 3 (Operand.tmp 44), type := 3, pos := "transport.go:102", after := #[{ on := 1, ground := Ground.data }], guard := none }) (v := ?_) rfl (by kernel_rfl) (by kernel_rfl) (by kernel_rfl) (fun _ _ _ h => h) (Or.inl ⟨by rfl, ?_⟩) (by assumption) ?_
    rotate_left
    · intro wS hSw; go_split_ands; go_simp; first | done | with_reducible rfl
    simp only [Act.put, List.setIfInBounds_toArray, List.set_cons_zero, List.set_cons_succ]
    refine wpAnyH_take (i := 3) (oi := { dst := some 46, op := Op.nilCheck (Operand.tmp 43), type := 0, pos := "transport.go:102", after := #[{ on := 0, ground := Ground.data }], guard := none }) (v := ?_) rfl (by kernel_rfl) (by kernel_rfl) (by kernel_rfl) (fun _ _ _ h => h) (Or.inl ⟨by rfl, ?_⟩) (by assumption) ?_
    rotate_left
    · intro wS hSw; go_split_ands; go_simp; first | done | with_reducible rfl
    simp only [Act.put, List.setIfInBounds_toArray, List.set_cons_zero, List.set_cons_succ]
    refine wpAnyH_take (i := 4) (oi := { dst := some 47, op := Op.indexAddr 62 (Operand.tmp 46) (Operand.tmp 45), type := 0, pos := "transport.go:102", after := #[{ on := 3, ground := Ground.data }, { on := 2, ground := Ground.data }], guard := none }) (v := ?_) rfl (by kernel_rfl) (by kernel_rfl) (by kernel_rfl) (fun _ _ _ h => h) (Or.inl ⟨by rfl, ?_⟩) (by assumption) ?_
    rotate_left
    · intro wS hSw; go_split_ands; go_simp; first | done | with_reducible rfl
    simp only [Act.put, List.setIfInBounds_toArray, List.set_cons_zero, List.set_cons_succ]
    refine wpAnyH_take (i := 5) (oi := { dst := some 48, op := Op.load 50 (Operand.tmp 47), type := 50, pos := "transport.go:102", after := #[{ on := 4, ground := Ground.data }], guard := none }) (v := ?_) rfl (by kernel_rfl) (by kernel_rfl) (by kernel_rfl) (fun _ _ _ h => h) (Or.inl ⟨by rfl, ?_⟩) (by assumption) ?_
    rotate_left
    · intro wS hSw; go_split_ands; go_simp; first | done | with_reducible rfl
    simp only [Act.put, List.setIfInBounds_toArray, List.set_cons_zero, List.set_cons_succ]
    refine wpAnyH_take (i := 6) (oi := { dst := some 49, op := Op.load 40 (Operand.tmp 13), type := 40, pos := "transport.go:102", after := #[], guard := none }) (v := ?_) rfl (by kernel_rfl) (by kernel_rfl) (by kernel_rfl) (fun _ _ _ h => h) (Or.inl ⟨by rfl, ?_⟩) (by assumption) ?_
    rotate_left
    · intro wS hSw; go_split_ands; go_simp; first | done | with_reducible rfl
    simp only [Act.put, List.setIfInBounds_toArray, List.set_cons_zero, List.set_cons_succ]
    refine wpAnyH_ready (rs := [7]) (by kernel_rfl) (by simp) ?_
    refine AllReadyH.cons (o := { dst := some 50, op := Op.call { callee := Callee.value (Operand.tmp 48), args := #[Operand.tmp 9, Operand.tmp 49], argTypes := #[51, 40] }, type := 0, pos := "transport.go:102", after := #[{ on := 5, ground := Ground.data }, { on := 6, ground := Ground.data }], guard := none }) rfl (fun K hK => ?_) AllReadyH.nil
    go_simp
    refine (KF w1.heap.size _ _ (show Blk w4.drew _ _ _ from b4)).mono ?_; rintro e w5 ⟨v5, rfl, b5, k5⟩
    refine hK.out _ _ ?_ (fun hHeld => ?_)
    · exact ⟨(k5.cell (p := ⟨w1.heap.size + 1, n, none⟩) (by simp <;> omega) (by simp)).trans (by go_keep), (k5.cell (p := ⟨wr.heap.size, 0, none⟩) (by simp <;> omega) (by simp <;> omega)).trans (by go_keep), (k5.cell (p := ⟨wr.heap.size, 1, none⟩) (by simp <;> omega) (by simp <;> omega)).trans (by go_keep), (k5.cell (p := ⟨wr.heap.size, 2, none⟩) (by simp <;> omega) (by simp <;> omega)).trans (by go_keep), (k5.cell (p := ⟨wr.heap.size, 3, none⟩) (by simp <;> omega) (by simp <;> omega)).trans (by go_keep)⟩
    clear hK K
    try simp only [Act.put, List.setIfInBounds_toArray, List.set_cons_zero, List.set_cons_succ]
    refine wpAnyH_done (by kernel_rfl) ?_ _
    have bA5 : Blk w5 (w1.heap.size + 1) 62 actsC := Blk.keep (W := w4.drew) bA4 k5 (by simp)
    have kw4 : Below w1.heap.size w1 w4 := (hwr.alloc hwr.size _).trans (k4.below (by simp; omega) (fun r hr h => by omega))
    have kw5 : Below w1.heap.size w1 w5 := kw4.drew.trans (k5.below (by have := kw4.size; simp; omega) (fun r hr h => by omega))
    clear hHeld ya x0 x1 x2 x3 KF KA
    go_wp2_with fail
    go_roundw
    case rel => exact ⟨k + 1, by omega, by go_num, congrArg (Value.int .i64) HN.out, Lib.hid (fun j hj => by
      rcases Nat.lt_or_ge j k with h' | h'
      · exact hT.out j h'
      · obtain rfl : j = k := by omega
        rw [← HTT.out]
        omega), by rw [← HS.out]; exact b5, bA5, kw5⟩
    case measure => simp [intOf]; omega
end Go.Proofs.Ytjkclplnflaplaa
