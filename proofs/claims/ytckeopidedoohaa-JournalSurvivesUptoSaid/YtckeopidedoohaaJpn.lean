/-
  What is read behind a sync of the journal, whole or torn. Conditions: as each statement says.
-/
import Derived.Test.YtckeopidedoohaaJpm
namespace Go.Proofs.Ytckeopidedoohaa

theorem Chain.last_le {l : List Bs} {at_ last at' last' G : Nat} {rs : List Bs} (h : Chain l at_ last rs at' last') (h0 : last ≤ G) (hl : ∀ s ∈ l, sGen s ≤ G) : last' ≤ G := by
  induction h with
  | nil => exact h0
  | @cons at_ last n at' last' b rs h1 _ ih =>
    refine ih ?_
    have hlt := recAt_lt h1
    rw [List.getD_eq_getElem?_getD, List.getElem?_eq_getElem (by omega)]
    exact hl _ (List.getElem_mem _)
theorem Chain.at_le {l : List Bs} {at_ last at' last' : Nat} {rs : List Bs} (h : Chain l at_ last rs at' last') (h0 : at_ ≤ l.length) : at' ≤ l.length := by
  induction h with
  | nil => exact h0
  | cons h1 _ ih => exact ih (recAt_lt h1).2
theorem gRecs_of {l rs : List Bs} {at' last' : Nat} (h : Chain l 0 0 rs at' last') (hn : recAt l at' last' = none) : gRecs l = rs := h.recs hn _ (by omega)
theorem gRecs_chain (l : List Bs) : ∃ at' last', Chain l 0 0 (gRecs l) at' last' ∧ recAt l at' last' = none := recs_chain l.length l 0 0 (by omega)
theorem same_pre {l l' pre post : List Bs} (h : l' = pre ++ post) (n : Nat) (hp : pre = l.take n) (hn : n ≤ l.length) : ∀ i, i < n → l'[i]? = l[i]? := fun i hi => by
  rw [h, hp, List.getElem?_append_left (by rw [List.length_take]; omega), List.getElem?_take, if_pos hi]
/-- Behind a sync that did not stop: the records before, the new ones. -/
theorem sync_recs {l : List Bs} {g : Nat} (rs : List Bs) (hlen : ∀ s ∈ l, s.length = 128) (hg : g < 4294967296) (hgen : ∀ s ∈ l, sGen s < g) (hfit : usedN (gRecs l) + usedN rs ≤ l.length) (h0 : 0 < g) :
    gRecs (l.take (usedN (gRecs l)) ++ (layA g (usedN (gRecs l)) rs ++ l.drop (usedN (gRecs l) + usedN rs))) = gRecs l ++ rs := by
  obtain ⟨at', last', hc, hn⟩ := gRecs_chain l
  have hat : at' = usedN (gRecs l) := by have := hc.used hlen; omega
  obtain ⟨u, hu⟩ : ∃ u, u = usedN (gRecs l) := ⟨_, rfl⟩
  rw [← hu] at hfit hat ⊢
  subst hat
  have hl : last' ≤ g := hc.last_le (by omega) (fun s hs => by have := hgen s hs; omega)
  obtain ⟨l', hl'⟩ : ∃ x, x = l.take at' ++ (layA g at' rs ++ l.drop (at' + usedN rs)) := ⟨_, rfl⟩
  rw [← hl']
  have hc1 : Chain l' 0 0 (gRecs l) at' last' := hc.ext (same_pre hl' at' rfl (by omega))
  have hc2 := chain_lay h0 hg rs (l := l') (pre := l.take at') (post := l.drop (at' + usedN rs)) (last := last') (n := at') hl hl' (by rw [List.length_take]; omega)
  refine gRecs_of (hc1.append hc2) ?_
  by_cases hrs : rs = []
  · subst hrs
    have e : l' = l := by rw [hl']; simp [layA, usedN_nil]
    rw [if_pos rfl, usedN_nil, Nat.add_zero, e]
    exact hn
  · rw [if_neg hrs]
    refine recAt_old ?_
    have hp : (l.take at' ++ layA g at' rs).length = at' + usedN rs := by rw [List.length_append, List.length_take, layA_len]; omega
    rw [hl', ← List.append_assoc, List.getD_eq_getElem?_getD, List.getElem?_append_right (by omega), hp, Nat.sub_self, List.getElem?_drop]
    cases he : l[at' + usedN rs + 0]? with
    | none => exact h0
    | some s => exact hgen s (List.mem_of_getElem? he)
theorem torn_gen {old new : Bs} (h1 : old.length = 128) (h2 : new.length = 128) : (tornB old new).length = 128 ∧ sGen (tornB old new) = sGen new ∧ sEnd (tornB old new) = sEnd old := by
  have hl : (new.take 64).length = 64 := by rw [List.length_take, h2]; rfl
  refine ⟨tornB_len h1 h2, ?_, ?_⟩
  · unfold sGen tornB
    rw [List.take_append_of_le_length (by omega), List.take_take]
    rfl
  · unfold sEnd tornB
    rw [show 124 = 64 + 60 from rfl, ← List.drop_drop, List.drop_left' hl, List.drop_drop]
theorem lay_all {g : Nat} (hg : g < 4294967296) : ∀ (k n : Nat) (kind : UInt8) (b : Bs), ∀ s ∈ lay g k n kind b, s.length = 128 ∧ sGen s = g ∧ sEnd s = g
  | 0, _, _, _, s, h => by cases h
  | k + 1, n, kind, b, s, h => by
    rcases List.mem_cons.1 h with rfl | h
    · have hb : (b.take 112).length ≤ 112 := by rw [List.length_take]; omega
      exact ⟨enc_len _ _ _ hb, enc_gen hg _ _ _, enc_end hg _ _ hb⟩
    · exact lay_all hg k (n + 1) 0 _ s h
theorem layA_all {g : Nat} (hg : g < 4294967296) : ∀ (rs : List Bs) (n : Nat), ∀ s ∈ layA g n rs, s.length = 128 ∧ sGen s = g ∧ sEnd s = g
  | [], _, s, h => by cases h
  | b :: rs, n, s, h => by
    rcases List.mem_append.1 h with h | h
    · exact lay_all hg _ _ _ _ s h
    · exact layA_all hg rs _ s h
/-- Behind a sync that stopped: the records before, a beginning of the new ones. -/
theorem sync_torn {l : List Bs} {g m : Nat} (rs : List Bs) (hlen : ∀ s ∈ l, s.length = 128) (hg : g < 4294967296) (hgen : ∀ s ∈ l, sGen s < g ∧ sEnd s < g) (hfit : usedN (gRecs l) + usedN rs ≤ l.length) (h0 : 0 < g) (hm : m < usedN rs) :
    ∃ rs1 rs2, rs = rs1 ++ rs2 ∧ gRecs (l.take (usedN (gRecs l)) ++ ((layA g (usedN (gRecs l)) rs).take m ++ tornB (l.getD (usedN (gRecs l) + m) []) ((layA g (usedN (gRecs l)) rs).getD m []) :: l.drop (usedN (gRecs l) + m + 1))) = gRecs l ++ rs1 := by
  obtain ⟨at', last', hc, hn⟩ := gRecs_chain l
  have hat : at' = usedN (gRecs l) := by have := hc.used hlen; omega
  obtain ⟨u, hu⟩ : ∃ u, u = usedN (gRecs l) := ⟨_, rfl⟩
  rw [← hu] at hfit hat ⊢
  subst hat
  have hl : last' ≤ g := hc.last_le (by omega) (fun s hs => by have := (hgen s hs).1; omega)
  have hold : l.getD (at' + m) [] ∈ l := by rw [List.getD_eq_getElem?_getD, List.getElem?_eq_getElem (by omega)]; exact List.getElem_mem _
  have hnew : (layA g at' rs).getD m [] ∈ layA g at' rs := by rw [List.getD_eq_getElem?_getD, List.getElem?_eq_getElem (by rw [layA_len]; omega)]; exact List.getElem_mem _
  obtain ⟨n1, n2, n3⟩ := layA_all hg rs at' _ hnew
  obtain ⟨t1, t2, t3⟩ := torn_gen (hlen _ hold) n1
  have hbad := torn_bad t1 (by rw [t2, t3, n2]; have := (hgen _ hold).2; omega)
  obtain ⟨l', hl'⟩ : ∃ x, x = l.take at' ++ ((layA g at' rs).take m ++ tornB (l.getD (at' + m) []) ((layA g at' rs).getD m []) :: l.drop (at' + m + 1)) := ⟨_, rfl⟩
  rw [← hl']
  have hc1 : Chain l' 0 0 (gRecs l) at' last' := hc.ext (same_pre hl' at' rfl (by omega))
  obtain ⟨rs1, rs2, a2, l2, e, hc2, hn2⟩ := torn_chain (l := l') (pre := l.take at') (post := l.drop (at' + m + 1)) (last := last') (n := at') h0 hg hl hbad hm hl' (by rw [List.length_take]; omega)
  exact ⟨rs1, rs2, e, gRecs_of (hc1.append hc2) hn2⟩
end Go.Proofs.Ytckeopidedoohaa
