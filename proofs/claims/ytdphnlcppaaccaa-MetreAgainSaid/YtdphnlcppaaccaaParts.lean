/-
  The iterator over the parts of the changes hands on each part once, in order. Conditions: valid changes.
-/
import Derived.Test.YtdphnlcppaaccaaChk
import Derived.Test.YtdphnlcppaaccaaPart
import Derived.Test.YtdphnlcppaaccaaIter
namespace Go.Proofs.Ytdphnlcppaaccaa
open Go.RowKit
attribute [local go_sem] Oper.semAt_some

/-- The tick at which the part of change k begins. -/
def tickN (ms : List Met) : Nat → Int
  | 0 => 0
  | k + 1 => tickN ms k + (mb ms (k + 1) - mb ms k) * (mt ms k * mu ms k)
def lastN (ms : List Met) (k : Nat) : Int := if k + 1 < ms.length then mb ms (k + 1) - 1 else 1048576
def partN (ms : List Met) (k : Nat) : Value := .agg #[.int .i64 (mb ms k), .int .i64 (mt ms k), .int .i64 (mu ms k), .int .i64 (lastN ms k), .int .i64 (tickN ms k)]

theorem tickN_bd {ms : List Met} (hv : Valid ms) (k : Nat) (hk : k < ms.length) : 0 ≤ tickN ms k ∧ tickN ms k ≤ (k : Int) * 2199025352704 := by
  induction k with
  | zero => simp [tickN]
  | succ k ih =>
    have ih := ih (by omega)
    have f := hv.fine k (by omega)
    have f' := hv.fine (k + 1) hk
    have hl := long_bd f
    have hu := hv.up k hk
    have := f.b0
    have := f'.b1
    have h := mul_bd (a := mb ms (k + 1) - mb ms k) (A := 1048577) (by omega) (by omega) (by omega : 0 ≤ mt ms k * mu ms k) hl.2
    have e : ((k + 1 : Nat) : Int) * 2199025352704 = (k : Int) * 2199025352704 + 2199025352704 := by omega
    unfold tickN
    omega

theorem MetAt.keep {w w' : World} {b o : Nat} {ms : List Met} {may : Nat → Prop} (h : MetAt w b o ms) (hk : Keep may w w') (hn : ¬ may b) : MetAt w' b o ms :=
  ⟨Nat.lt_of_lt_of_le h.lt hk.size, fun i hi => (hk.cell (p := ⟨b, _, none⟩) h.lt hn).trans (h.c0 i hi), fun i hi => (hk.cell (p := ⟨b, _, none⟩) h.lt hn).trans (h.c1 i hi), fun i hi => (hk.cell (p := ⟨b, _, none⟩) h.lt hn).trans (h.c2 i hi)⟩

abbrev Ix (ms : List Met) := { k : Nat // k < ms.length }
/-- The places of all changes, from the first on. -/
def upto (ms : List Met) : List (Ix ms) := (List.range ms.length).pmap (fun k h => ⟨k, h⟩) (fun _ h => List.mem_range.1 h)
theorem upto_length (ms : List Met) : (upto ms).length = ms.length := by simp [upto]
theorem upto_take (ms : List Met) (k : Nat) (hk : k < ms.length) : (upto ms).take (k + 1) = (upto ms).take k ++ [⟨k, hk⟩] := by
  rw [List.take_succ_eq_append_getElem (by rw [upto_length]; exact hk)]
  simp [upto]
theorem upto_all (ms : List Met) : (upto ms).take ms.length = upto ms := List.take_of_length_le (by rw [upto_length]; omega)

set_option maxHeartbeats 1000000 in
theorem parts_iter (n Bn b o c : Nat) (_ : 2 ≤ n) (ms : List Met) (w : World) (hv : Valid ms) (hBn : w.cell? ⟨Bn, 0, none⟩ = some (.slice (some ⟨b, o, none⟩) ms.length c)) (hBl : Bn < w.heap.size) (hm : MetAt w b o ms) :
    IterC n Try.prog 29 #[.pointer (some ⟨Bn, 0, none⟩)] (fun x : Ix ms => #[partN ms x.1]) (fun xs => xs = upto ms) (fun pre => pre <+: upto ms) w (fun _ => False) (fun r => r = b ∨ r = Bn) := by
  intro l J Jx c0 W hW hJ hJx _ hros hY h0
  have hfew := hv.few
  refine callsIn_of_wp Try.func29 rfl trivial ?_ rfl
  have g0 := (hW.cell (p := ⟨Bn, 0, none⟩) hBl).trans hBn
  simp only [Try.ntmps29, List.size_toArray, List.length_cons, List.length_nil, Nat.reduceAdd, Nat.reduceSub, Array.replicate_succ, Array.replicate_zero, List.push_toArray, List.append_toArray, List.nil_append, List.cons_append]
  gi_wp2
  gi_loopw [3, 9, 4, 5, 6] (fun t i _ _ _ wr => ∃ (k : Nat) (cc : Col) (tk : Int), k ≤ ms.length ∧ i = .int .i64 k ∧ t = .int .i64 tk ∧ Hid (k < ms.length → tk = tickN ms k) ∧ Keep (fun r => r ≠ b ∧ r ≠ Bn) w wr ∧ Hid (¬ cc.cl b ∧ ¬ cc.cl Bn) ∧ J cc ((upto ms).take k) wr)
    (fun _ i _ _ _ _ => ms.length - (intOf i).toNat)
  case atStart => exact ⟨0, c0, 0, by omega, rfl, rfl, fun _ => rfl, Keep.of_same hW _, ⟨hros b (.inr (.inl rfl)), hros Bn (.inr (.inr rfl))⟩, h0⟩
  case round =>
    obtain ⟨k, cc, tk, hk, rfl, rfl, htk, hw, hcc, hj⟩ := hrel
    by_cases hlt : k < ms.length
    · obtain rfl : tk = tickN ms k := htk.out hlt
      clear htk
      have hm' := hm.keep hw (fun h => h.1 rfl)
      have hbl := hm'.lt
      have g0 := (hw.cell (p := ⟨Bn, 0, none⟩) hBl (fun h => h.2 rfl)).trans hBn
      have g1 := hm'.c0 k hlt
      have g2 := hm'.c1 k hlt
      have g3 := hm'.c2 k hlt
      obtain ⟨f0, f1, f2, f3, f4, f5⟩ := hv.fine k hlt
      have hBl' : Bn < wr.heap.size := Nat.lt_of_lt_of_le hBl hw.size
      have htb := tickN_bd hv k hlt
      have hlg := long_bd (hv.fine k hlt)
      have hpre : (upto ms).take k ++ [⟨k, hlt⟩] <+: upto ms := by rw [← upto_take ms k hlt]; exact List.take_prefix _ _
      have hJ1 := fun last : Int => hJ _ _ _ _ _ hj (Keep.of_same (((Below.refl _ wr).alloc (Nat.le_refl _) (.cells #[.int .i64 (mb ms k), .int .i64 (mt ms k), .int .i64 (mu ms k)] 38)).alloc (by simp) (.cells #[.int .i64 (mb ms k), .int .i64 (mt ms k), .int .i64 (mu ms k), .int .i64 last, .int .i64 (tickN ms k)] 45)) _) (cc.same_own _)
      by_cases hs : k + 1 < ms.length
      · have hlast : lastN ms k = mb ms (k + 1) - 1 := by unfold lastN; rw [if_pos hs]
        have g4 := hm'.c0 (k + 1) hs
        have hup := hv.up k hs
        have f6 := (hv.fine (k + 1) hs).b1
        obtain ⟨fn, tmps, assign, bodyc, hy, hR⟩ := hY _ _ ⟨k, hlt⟩ _ (hJ1 (mb ms (k + 1) - 1)) hpre
        simp only [partN, hlast] at hy
        clear hJ1
        gi_wp2
        refine hR.mono ?_
        rintro e W' ⟨hkp, (⟨rfl, hj'⟩ | ⟨rfl, hjx⟩)⟩
        · have hp : ∀ j, W'.cell? ⟨wr.heap.size + 1, j, none⟩ = _ := fun j => hkp.cell (p := ⟨wr.heap.size + 1, j, none⟩) (by simp) (fun h => by have := h.1; simp at this; omega)
          have p0 : W'.cell? ⟨wr.heap.size + 1, 0, none⟩ = some (.int .i64 (mb ms k)) := (hp 0).trans (by go_simp)
          have p1 : W'.cell? ⟨wr.heap.size + 1, 1, none⟩ = some (.int .i64 (mt ms k)) := (hp 1).trans (by go_simp)
          have p2 : W'.cell? ⟨wr.heap.size + 1, 2, none⟩ = some (.int .i64 (mu ms k)) := (hp 2).trans (by go_simp)
          have p3 : W'.cell? ⟨wr.heap.size + 1, 3, none⟩ = some (.int .i64 (mb ms (k + 1) - 1)) := (hp 3).trans (by go_simp)
          have p4 : W'.cell? ⟨wr.heap.size + 1, 4, none⟩ = some (.int .i64 (tickN ms k)) := (hp 4).trans (by go_simp)
          have hsw := hw.size
          have hbw : Keep (fun r => r ≠ b ∧ r ≠ Bn) w W' := ((hw.alloc _).alloc _).then hkp (fun r hr h => ⟨fun e => hcc.out.1 (e ▸ h.2), fun e => hcc.out.2 (e ▸ h.2)⟩)
          have hcl : Hid (¬ (((cc.own wr.heap.size).by ((wr.alloc (.cells #[.int .i64 (mb ms k), .int .i64 (mt ms k), .int .i64 (mu ms k)] 38)).alloc (.cells #[.int .i64 (mb ms k), .int .i64 (mt ms k), .int .i64 (mu ms k), .int .i64 (mb ms (k + 1) - 1), .int .i64 (tickN ms k)] 45)).heap.size).own W'.heap.size).cl b ∧ ¬ (((cc.own wr.heap.size).by ((wr.alloc (.cells #[.int .i64 (mb ms k), .int .i64 (mt ms k), .int .i64 (mu ms k)] 38)).alloc (.cells #[.int .i64 (mb ms k), .int .i64 (mt ms k), .int .i64 (mu ms k), .int .i64 (mb ms (k + 1) - 1), .int .i64 (tickN ms k)] 45)).heap.size).own W'.heap.size).cl Bn) := ⟨fun h => by
            rcases h.2 with h | h
            · simp at h; omega
            · exact hcc.out.1 h.2, fun h => by
            rcases h.2 with h | h
            · simp at h; omega
            · exact hcc.out.2 h.2⟩
          clear hp hR hy hkp
          obtain ⟨q1, q2⟩ := mul_bd (a := mb ms (k + 1) - mb ms k) (A := 1048577) (by omega) (by omega) (by omega : 0 ≤ mt ms k * mu ms k) hlg.2
          gi_wp2_with (gi_at_call 22; refine (callsIn_wide.2 (pbegin_t _ _ _ _ _ _ _ (by omega) (by omega) (by omega) (by omega) (by omega) (by omega) (by omega) (by omega))).mono ?_; rintro e w2 ⟨rfl, hw2⟩)
          have hj2 := hJ _ _ _ _ _ hj' (Keep.of_same hw2 _) (Col.same_own _ _)
          go_roundw
          case rel => exact ⟨k + 1, _, _, by omega, by go_num, rfl, fun _ => rfl, hbw.trans (Keep.of_same hw2 _), hcl, (upto_take ms k hlt) ▸ hj2⟩
          case measure => simp [intOf]; omega
        · gi_wp2
          refine bodyPost_ret (results_none rfl _ _ _) rfl ?_
          exact ⟨⟨_, rfl⟩, .inr ⟨_, _, hpre, hjx⟩⟩
      · have hlast : lastN ms k = 1048576 := by unfold lastN; rw [if_neg hs]
        obtain ⟨fn, tmps, assign, bodyc, hy, hR⟩ := hY _ _ ⟨k, hlt⟩ _ (hJ1 (1048576)) hpre
        simp only [partN, hlast] at hy
        clear hJ1
        gi_wp2
        refine hR.mono ?_
        rintro e W' ⟨hkp, (⟨rfl, hj'⟩ | ⟨rfl, hjx⟩)⟩
        · have hp : ∀ j, W'.cell? ⟨wr.heap.size + 1, j, none⟩ = _ := fun j => hkp.cell (p := ⟨wr.heap.size + 1, j, none⟩) (by simp) (fun h => by have := h.1; simp at this; omega)
          have p0 : W'.cell? ⟨wr.heap.size + 1, 0, none⟩ = some (.int .i64 (mb ms k)) := (hp 0).trans (by go_simp)
          have p1 : W'.cell? ⟨wr.heap.size + 1, 1, none⟩ = some (.int .i64 (mt ms k)) := (hp 1).trans (by go_simp)
          have p2 : W'.cell? ⟨wr.heap.size + 1, 2, none⟩ = some (.int .i64 (mu ms k)) := (hp 2).trans (by go_simp)
          have p3 : W'.cell? ⟨wr.heap.size + 1, 3, none⟩ = some (.int .i64 (1048576)) := (hp 3).trans (by go_simp)
          have p4 : W'.cell? ⟨wr.heap.size + 1, 4, none⟩ = some (.int .i64 (tickN ms k)) := (hp 4).trans (by go_simp)
          have hsw := hw.size
          have hbw : Keep (fun r => r ≠ b ∧ r ≠ Bn) w W' := ((hw.alloc _).alloc _).then hkp (fun r hr h => ⟨fun e => hcc.out.1 (e ▸ h.2), fun e => hcc.out.2 (e ▸ h.2)⟩)
          have hcl : Hid (¬ (((cc.own wr.heap.size).by ((wr.alloc (.cells #[.int .i64 (mb ms k), .int .i64 (mt ms k), .int .i64 (mu ms k)] 38)).alloc (.cells #[.int .i64 (mb ms k), .int .i64 (mt ms k), .int .i64 (mu ms k), .int .i64 (1048576), .int .i64 (tickN ms k)] 45)).heap.size).own W'.heap.size).cl b ∧ ¬ (((cc.own wr.heap.size).by ((wr.alloc (.cells #[.int .i64 (mb ms k), .int .i64 (mt ms k), .int .i64 (mu ms k)] 38)).alloc (.cells #[.int .i64 (mb ms k), .int .i64 (mt ms k), .int .i64 (mu ms k), .int .i64 (1048576), .int .i64 (tickN ms k)] 45)).heap.size).own W'.heap.size).cl Bn) := ⟨fun h => by
            rcases h.2 with h | h
            · simp at h; omega
            · exact hcc.out.1 h.2, fun h => by
            rcases h.2 with h | h
            · simp at h; omega
            · exact hcc.out.2 h.2⟩
          clear hp hR hy hkp
          obtain ⟨q1, q2⟩ := mul_bd (a := 1048577 - mb ms k) (A := 1048577) (by omega) (by omega) (by omega : 0 ≤ mt ms k * mu ms k) hlg.2
          gi_wp2_with (gi_at_call 22; refine (callsIn_wide.2 (pbegin_t _ _ _ _ _ _ _ (by omega) (by omega) (by omega) (by omega) (by omega) (by omega) (by omega) (by omega))).mono ?_; rintro e w2 ⟨rfl, hw2⟩)
          have hj2 := hJ _ _ _ _ _ hj' (Keep.of_same hw2 _) (Col.same_own _ _)
          go_roundw
          case rel => exact ⟨k + 1, _, _, by omega, by go_num, rfl, fun h => absurd h hs, hbw.trans (Keep.of_same hw2 _), hcl, (upto_take ms k hlt) ▸ hj2⟩
          case measure => simp [intOf]; omega
        · gi_wp2
          refine bodyPost_ret (results_none rfl _ _ _) rfl ?_
          exact ⟨⟨_, rfl⟩, .inr ⟨_, _, hpre, hjx⟩⟩
    · obtain rfl : k = ms.length := by omega
      gi_wp2
      go_end0
      exact ⟨⟨_, rfl⟩, .inl ⟨cc, _, rfl, by rw [upto_all] at hj; exact hj⟩⟩
end Go.Proofs.Ytdphnlcppaaccaa
