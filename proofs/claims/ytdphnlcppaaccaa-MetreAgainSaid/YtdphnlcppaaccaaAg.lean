/-
  A further change that says what holds already changes no place and no bar, in plain Lean. Conditions: none beyond those written in the statements.
-/
import Derived.Test.YtdphnlcppaaccaaBl
namespace Go.Proofs.Ytdphnlcppaaccaa
open Go.RowKit

/-- Two lists of changes with the same metre at every bar. -/
structure Finer (ms ns : List Met) : Prop where
  v : Valid ms
  v' : Valid ns
  to : ∀ k, k < ms.length → ∀ b, InPart ms k b → ∃ j, j < ns.length ∧ InPart ns j b ∧ mt ns j = mt ms k ∧ mu ns j = mu ms k

theorem Finer.symm {ms ns : List Met} (F : Finer ms ns) : Finer ns ms where
  v := F.v'
  v' := F.v
  to j hj b hb := by
    have hbb := inPart_bd F.v' hj hb
    obtain ⟨k, hk, hkb⟩ := part_of_bar F.v hbb.1 hbb.2
    obtain ⟨i, hi, hib, e1, e2⟩ := F.to k hk b hkb
    have e := part_uniq F.v' hi hj hib hb
    subst e
    exact ⟨k, hk, hkb, e1.symm, e2.symm⟩

theorem bg_zero {ms : List Met} (hv : Valid ms) : bg ms 0 = 0 := by
  have hl := lastN_le hv hv.pos
  rw [bg_part hv hv.pos (bar := 0) (by rw [hv.zero]; omega) (by have := hv.zero; omega), hv.zero]
  simp [tickN]

theorem bg_next {ms : List Met} (hv : Valid ms) {k : Nat} (hk : k < ms.length) {b : Int} (hb : InPart ms k b) : bg ms (b + 1) = bg ms b + mt ms k * mu ms k := by
  have h1 := hb.1
  have h2 := hb.2
  rw [bg_part hv hk (bar := b + 1) (by omega) (by omega), bg_part hv hk (bar := b) (by omega) (by omega)]
  rw [show b + 1 - mb ms k = (b - mb ms k) + 1 by omega, Int.add_mul, Int.one_mul]
  omega

theorem bg_same {ms ns : List Met} (F : Finer ms ns) (n : Nat) (hn : n ≤ 1048577) : bg ms n = bg ns n := by
  induction n with
  | zero => rw [show ((0 : Nat) : Int) = 0 from rfl, bg_zero F.v, bg_zero F.v']
  | succ n ih =>
    have ih := ih (by omega)
    obtain ⟨k, hk, hkb⟩ := part_of_bar F.v (bar := n) (by omega) (by omega)
    obtain ⟨j, hj, hjb, e1, e2⟩ := F.to k hk n hkb
    rw [show ((n + 1 : Nat) : Int) = (n : Int) + 1 by omega, bg_next F.v hk hkb, bg_next F.v' hj hjb, ih, e1, e2]

theorem bg_sameI {ms ns : List Met} (F : Finer ms ns) {b : Int} (h0 : 0 ≤ b) (h1 : b ≤ 1048577) : bg ms b = bg ns b := by
  have := bg_same F b.toNat (by omega)
  rwa [show ((b.toNat : Nat) : Int) = b by omega] at this

theorem place_to {ms ns : List Met} (F : Finer ms ns) (tick : Int) (h : (rPlace ms tick).2.2.2 = 0) : rPlace ns tick = rPlace ms tick := by
  obtain ⟨k, hk, hin, h0, h1, ht, c0, c1, d0, d1⟩ := place_ok F.v h
  obtain ⟨j, hj, hjn, e1, e2⟩ := F.to k hk _ hin
  have hbb := inPart_bd F.v hk hin
  have e := bg_sameI F hbb.1 (by omega)
  have := place_of F.v' hj hjn c0 (by rw [e1]; exact c1) d0 (by rw [e2]; exact d1) (t := tick) (by rw [← e, e2]; exact ht) h1
  rw [this]
  rw [← h]

theorem place_no {ms : List Met} {tick : Int} (hr : ¬ (tick < 0 ∨ 16777216 < tick)) (h : ¬ (rPlace ms tick).2.2.2 = 0) : rPlace ms tick = (0, 0, 0, 70) ∧ 1048576 < atB ms tick ms.length := by
  by_cases hc : 1048576 < atB ms tick ms.length
  · exact ⟨by unfold rPlace; rw [if_neg hr, if_pos hc], hc⟩
  · exfalso
    apply h
    unfold rPlace
    rw [if_neg hr, if_neg hc]

theorem place_same {ms ns : List Met} (F : Finer ms ns) (tick : Int) : rPlace ms tick = rPlace ns tick := by
  by_cases hr : tick < 0 ∨ 16777216 < tick
  · unfold rPlace
    rw [if_pos hr, if_pos hr]
  by_cases h : (rPlace ms tick).2.2.2 = 0
  · exact (place_to F tick h).symm
  by_cases h' : (rPlace ns tick).2.2.2 = 0
  · exact place_to F.symm tick h'
  rw [(place_no hr h).1, (place_no hr h').1]

theorem rbGo_same {ms ns : List Met} (F : Finer ms ns) (lo hi : Int) (f : Nat) : ∀ (bar : Int) (acc : List Int), 0 ≤ bar → rbGo ms lo hi f bar acc = rbGo ns lo hi f bar acc := by
  induction f with
  | zero => intro bar acc _; rfl
  | succ f ih =>
    intro bar acc h0
    unfold rbGo
    by_cases hb : bar ≤ 1048576
    · rw [bg_sameI F h0 (by omega), ih (bar + 1) _ (by omega), ih (bar + 1) _ (by omega)]
    · rw [if_neg (fun h => hb h.1), if_neg (fun h => hb h.1)]

theorem place_at {ms : List Met} {tick : Int} (hr : ¬ (tick < 0 ∨ 16777216 < tick)) (h : (rPlace ms tick).2.2.2 = 0) : (rPlace ms tick).1 = atB ms tick ms.length ∧ atB ms tick ms.length ≤ 1048576 := by
  by_cases hc : 1048576 < atB ms tick ms.length
  · exfalso
    unfold rPlace at h
    rw [if_neg hr, if_pos hc] at h
    simp at h
  · refine ⟨?_, by omega⟩
    unfold rPlace
    rw [if_neg hr, if_neg hc]

theorem bars_same {ms ns : List Met} (F : Finer ms ns) (lo hi : Int) : rBars ms lo hi = rBars ns lo hi := by
  unfold rBars
  by_cases hr : lo < 0 ∨ hi < lo ∨ 16777216 < hi
  · rw [if_pos hr, if_pos hr]
  rw [if_neg hr, if_neg hr]
  have hr2 : ¬ (lo < 0 ∨ 16777216 < lo) := by omega
  have e := place_same F lo
  by_cases h : (rPlace ms lo).2.2.2 = 0
  · have h' : (rPlace ns lo).2.2.2 = 0 := by rw [← e]; exact h
    have a1 := place_at hr2 h
    have a2 := place_at hr2 h'
    have ea : atB ns lo ns.length = atB ms lo ms.length := by rw [← a1.1, ← a2.1, e]
    rw [ea]
    exact rbGo_same F lo hi _ _ _ (atB_bd F.v (by omega) (by omega) ms.length (Nat.le_refl _)).1
  · have h' : ¬ (rPlace ns lo).2.2.2 = 0 := by rw [← e]; exact h
    rw [rbGo_end _ (fun hh => by have := (place_no hr2 h).2; omega), rbGo_end _ (fun hh => by have := (place_no hr2 h').2; omega)]

theorem gplace_same {ms ns : List Met} (F : Finer ms ns) (tick : Int) : gPlace ns tick = gPlace ms tick := by
  unfold gPlace
  rw [if_pos F.v, if_pos F.v', place_same F]
theorem gbars_same {ms ns : List Met} (F : Finer ms ns) (lo hi : Int) : gBars ns lo hi = gBars ms lo hi := by
  unfold gBars
  rw [if_pos F.v, if_pos F.v', bars_same F]

/-- The changes with one more behind place j. -/
def ins (ms : List Met) (j : Nat) (m : Met) : List Met := ms.take (j + 1) ++ m :: ms.drop (j + 1)
section
variable {ms : List Met} {j : Nat} {m : Met}
theorem ins_len (hj : j < ms.length) : (ins ms j m).length = ms.length + 1 := by
  unfold ins
  simp only [List.length_append, List.length_take, List.length_cons, List.length_drop]
  omega
theorem ins_lo (hj : j < ms.length) {i : Nat} (hi : i ≤ j) : (ins ms j m).getD i m0 = ms.getD i m0 := by
  unfold ins
  simp only [List.getD_eq_getElem?_getD]
  rw [List.getElem?_append_left (by simp only [List.length_take]; omega), List.getElem?_take_of_lt (by omega)]
theorem ins_at (hj : j < ms.length) : (ins ms j m).getD (j + 1) m0 = m := by
  unfold ins
  simp only [List.getD_eq_getElem?_getD]
  rw [List.getElem?_append_right (by simp only [List.length_take]; omega)]
  simp only [List.length_take]
  rw [show j + 1 - min (j + 1) ms.length = 0 by omega]
  rfl
theorem ins_hi (hj : j < ms.length) {i : Nat} (hi : j < i) : (ins ms j m).getD (i + 1) m0 = ms.getD i m0 := by
  unfold ins
  simp only [List.getD_eq_getElem?_getD]
  rw [List.getElem?_append_right (by simp only [List.length_take]; omega)]
  simp only [List.length_take]
  rw [show i + 1 - min (j + 1) ms.length = (i - (j + 1)) + 1 by omega, List.getElem?_cons_succ, List.getElem?_drop, show j + 1 + (i - (j + 1)) = i by omega]
end

theorem ins_finer {ms : List Met} (hv : Valid ms) (hn : ms.length < 64) {j : Nat} (hj : j < ms.length) {b : Int} (hb : InPart ms j b) (hne : mb ms j ≠ b) : Finer ms (ins ms j ⟨b, mt ms j, mu ms j⟩) := by
  have hlen := ins_len (m := ⟨b, mt ms j, mu ms j⟩) hj
  have L0 : ∀ i, i ≤ j → mb (ins ms j ⟨b, mt ms j, mu ms j⟩) i = mb ms i ∧ mt (ins ms j ⟨b, mt ms j, mu ms j⟩) i = mt ms i ∧ mu (ins ms j ⟨b, mt ms j, mu ms j⟩) i = mu ms i := fun i hi => by
    unfold mb mt mu
    rw [ins_lo hj hi]
    exact ⟨rfl, rfl, rfl⟩
  have L1 : mb (ins ms j ⟨b, mt ms j, mu ms j⟩) (j + 1) = b ∧ mt (ins ms j ⟨b, mt ms j, mu ms j⟩) (j + 1) = mt ms j ∧ mu (ins ms j ⟨b, mt ms j, mu ms j⟩) (j + 1) = mu ms j := by
    have e := ins_at (m := ⟨b, mt ms j, mu ms j⟩) hj
    exact ⟨congrArg Met.bar e, by have h := congrArg Met.beats e; exact h, by have h := congrArg Met.unit e; exact h⟩
  have L2 : ∀ i, j < i → mb (ins ms j ⟨b, mt ms j, mu ms j⟩) (i + 1) = mb ms i ∧ mt (ins ms j ⟨b, mt ms j, mu ms j⟩) (i + 1) = mt ms i ∧ mu (ins ms j ⟨b, mt ms j, mu ms j⟩) (i + 1) = mu ms i := fun i hi => by
    unfold mb mt mu
    rw [ins_hi hj hi]
    exact ⟨rfl, rfl, rfl⟩
  generalize hns : ins ms j ⟨b, mt ms j, mu ms j⟩ = ns at *
  clear hns
  have hbb := inPart_bd hv hj hb
  have h1 := hb.1
  have h2 := hb.2
  have hfj := hv.fine j hj
  have hnext : j + 1 < ms.length → b < mb ms (j + 1) := fun h => by
    unfold lastN at h2
    rw [if_pos h] at h2
    omega
  have V : Valid ns := by
    refine ⟨by omega, by omega, by rw [(L0 0 (by omega)).1]; exact hv.zero, fun i hi => ?_, fun i hi => ?_⟩
    · by_cases c1 : i ≤ j
      · obtain ⟨e1, e2, e3⟩ := L0 i c1
        have f := hv.fine i (by omega)
        exact ⟨by rw [e1]; exact f.b0, by rw [e1]; exact f.b1, by rw [e2]; exact f.t0, by rw [e2]; exact f.t1, by rw [e3]; exact f.u0, by rw [e3]; exact f.u1⟩
      by_cases c2 : i = j + 1
      · subst c2
        obtain ⟨e1, e2, e3⟩ := L1
        exact ⟨by rw [e1]; exact hbb.1, by rw [e1]; exact hbb.2, by rw [e2]; exact hfj.t0, by rw [e2]; exact hfj.t1, by rw [e3]; exact hfj.u0, by rw [e3]; exact hfj.u1⟩
      · obtain ⟨i', rfl⟩ : ∃ i', i = i' + 1 := ⟨i - 1, by omega⟩
        obtain ⟨e1, e2, e3⟩ := L2 i' (by omega)
        have f := hv.fine i' (by omega)
        exact ⟨by rw [e1]; exact f.b0, by rw [e1]; exact f.b1, by rw [e2]; exact f.t0, by rw [e2]; exact f.t1, by rw [e3]; exact f.u0, by rw [e3]; exact f.u1⟩
    · by_cases c1 : i + 1 ≤ j
      · rw [(L0 i (by omega)).1, (L0 (i + 1) c1).1]
        exact hv.up i (by omega)
      by_cases c2 : i = j
      · subst c2
        rw [(L0 i (by omega)).1, L1.1]
        omega
      by_cases c3 : i = j + 1
      · subst c3
        rw [L1.1, (L2 (j + 1) (by omega)).1]
        exact hnext (by omega)
      · obtain ⟨i', rfl⟩ : ∃ i', i = i' + 1 := ⟨i - 1, by omega⟩
        rw [(L2 i' (by omega)).1, (L2 (i' + 1) (by omega)).1]
        exact hv.up i' (by omega)
  refine ⟨hv, V, fun k hk d hd => ?_⟩
  have d1 := hd.1
  have d2 := hd.2
  by_cases c1 : k < j
  · obtain ⟨e1, e2, e3⟩ := L0 k (by omega)
    refine ⟨k, by omega, ⟨by rw [e1]; exact d1, ?_⟩, e2, e3⟩
    unfold lastN at d2 ⊢
    rw [if_pos (by omega)] at d2
    rw [if_pos (by omega), (L0 (k + 1) (by omega)).1]
    exact d2
  by_cases c2 : k = j
  · subst c2
    by_cases c3 : d < b
    · obtain ⟨e1, e2, e3⟩ := L0 k (by omega)
      refine ⟨k, by omega, ⟨by rw [e1]; exact d1, ?_⟩, e2, e3⟩
      unfold lastN
      rw [if_pos (by omega), L1.1]
      omega
    · refine ⟨k + 1, by omega, ⟨by rw [L1.1]; omega, ?_⟩, L1.2.1, L1.2.2⟩
      unfold lastN at d2 ⊢
      by_cases c4 : k + 1 < ms.length
      · rw [if_pos c4] at d2
        rw [if_pos (by omega), (L2 (k + 1) (by omega)).1]
        exact d2
      · rw [if_neg c4] at d2
        rw [if_neg (by omega)]
        exact d2
  · obtain ⟨e1, e2, e3⟩ := L2 k (by omega)
    refine ⟨k + 1, by omega, ⟨by rw [e1]; exact d1, ?_⟩, e2, e3⟩
    unfold lastN at d2 ⊢
    by_cases c4 : k + 1 < ms.length
    · rw [if_pos c4] at d2
      rw [if_pos (by omega), (L2 (k + 1) (by omega)).1]
      exact d2
    · rw [if_neg c4] at d2
      rw [if_neg (by omega)]
      exact d2
end Go.Proofs.Ytdphnlcppaaccaa
