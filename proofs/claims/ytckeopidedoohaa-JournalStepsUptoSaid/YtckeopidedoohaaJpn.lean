/-
  Records that were laid on sectors are read again; what lies behind them is not. Conditions: as each statement says. | What is read behind a sync of the journal, whole or torn. Conditions: as each statement says.
-/
import Derived.Test.YtckeopidedoohaaJpl
namespace Go.Proofs.Ytckeopidedoohaa

theorem secN_pos (b : Bs) : 1 ≤ secN b := by unfold secN; omega
theorem secN_hi (b : Bs) : b.length ≤ 112 * secN b := by unfold secN; omega
theorem secN_lo {b : Bs} (h : 1 < secN b) : 112 * (secN b - 1) < b.length := by unfold secN at *; omega
/-- The sectors of some records, one record behind the other. -/
def layA (g : Nat) : Nat → List Bs → List Bs
  | _, [] => []
  | n, b :: rs => lay g (secN b) n 1 b ++ layA g (n + secN b) rs
theorem layA_len (g : Nat) : ∀ (rs : List Bs) (n : Nat), (layA g n rs).length = usedN rs
  | [], _ => rfl
  | b :: rs, n => by rw [layA, List.length_append, lay_len, layA_len g rs, usedN_cons]
theorem layA_append (g : Nat) : ∀ (rs ss : List Bs) (n : Nat), layA g n (rs ++ ss) = layA g n rs ++ layA g (n + usedN rs) ss
  | [], ss, n => by simp [layA, usedN_nil]
  | b :: rs, ss, n => by
    rw [List.cons_append, layA, layA, layA_append g rs ss, List.append_assoc, usedN_cons]
    congr 3
    omega
theorem lay_head (g k n : Nat) (kind : UInt8) (b : Bs) : ∃ kd b', lay g (k + 1) n kind b = enc g n kd b' :: lay g k (n + 1) 0 (b.drop 112) := ⟨_, _, rfl⟩
theorem getD_at {l pre post : List Bs} {s : Bs} {n : Nat} (h : l = pre ++ s :: post) (hn : pre.length = n) : l.getD n [] = s := by
  subst h
  subst hn
  simp [List.getD]
theorem recAt_lay {l pre post : List Bs} {g last n : Nat} {b : Bs} (h0 : 0 < g) (hg : g < 4294967296) (hl : last ≤ g) (h : l = pre ++ (lay g (secN b) n 1 b ++ post)) (hn : pre.length = n) :
    recAt l n last = some (n + secN b, b) ∧ sGen (l.getD n []) = g := by
  obtain ⟨k, hk⟩ : ∃ k, secN b = k + 1 := ⟨secN b - 1, by have := secN_pos b; omega⟩
  obtain ⟨kd, b', he⟩ := lay_head g k n 1 b
  have hs : sGen (l.getD n []) = g := by
    rw [hk, he, List.cons_append] at h
    rw [getD_at h hn, enc_gen hg]
  refine ⟨?_, hs⟩
  unfold recAt
  rw [hs]
  have hd : l.drop n = lay g (secN b) n 1 b ++ post := by rw [h, List.drop_left' hn]
  rw [hd, hk, scan_lay h0 hg hl k n 1 b [] post (.inl ⟨rfl, rfl⟩) (by have := secN_hi b; omega) (fun hh => by
    have h1 : 0 < k := hh.resolve_right (by decide)
    have := secN_lo (b := b) (by omega)
    omega)]
  simp
theorem chain_lay {g : Nat} (h0 : 0 < g) (hg : g < 4294967296) : ∀ (rs : List Bs) {l pre post : List Bs} {last n : Nat}, last ≤ g → l = pre ++ (layA g n rs ++ post) → pre.length = n → Chain l n last rs (n + usedN rs) (if rs = [] then last else g)
  | [], l, pre, post, last, n, _, _, _ => by
    rw [if_pos rfl, usedN_nil, Nat.add_zero]
    exact .nil _ _
  | b :: rs, l, pre, post, last, n, hl, h, hn => by
    rw [layA, List.append_assoc] at h
    obtain ⟨h1, h2⟩ := recAt_lay h0 hg hl h hn
    have ih := chain_lay h0 hg rs (l := l) (pre := pre ++ lay g (secN b) n 1 b) (post := post) (last := g) (n := n + secN b) (Nat.le_refl _) (by rw [h, List.append_assoc]) (by rw [List.length_append, lay_len, hn])
    rw [if_neg (by simp), usedN_cons, show n + (secN b + usedN rs) = n + secN b + usedN rs by omega]
    refine .cons h1 ?_
    rw [h2]
    have e : (if rs = [] then g else g) = g := by split <;> rfl
    rw [e] at ih
    exact ih
/-- A place at which no record begins: an old sector, or none. -/
theorem recAt_old {l : List Bs} {n last : Nat} (h : sGen (l.getD n []) < last) : recAt l n last = none := by
  unfold recAt
  cases hd : l.drop n with
  | nil => rfl
  | cons s r =>
    have hs : l.getD n [] = s := by
      have := congrArg (fun x => x[0]?) hd
      simp only [List.getElem?_drop, Nat.add_zero, List.getElem?_cons_zero] at this
      simp [List.getD, this]
    unfold scan
    rw [if_neg]
    rintro ⟨-, -, -, hh⟩
    rw [hs] at h
    omega
/-- A record whose sectors are not all good is not read. -/
theorem scan_torn {g last at_ : Nat} {s : Bs} {m : Nat} (hs : ∀ num, gGood s num = false) : ∀ (k n : Nat) (kind : UInt8) (b acc : Bs) (rest : List Bs), kind.toNat / 2 % 2 = 0 → m < k → scan g last at_ ((lay g k n kind b).take m ++ s :: rest) n acc = none := by
  induction m with
  | zero =>
    intro k n kind b acc rest _ _
    rw [List.take_zero, List.nil_append]
    unfold scan
    rw [if_neg]
    rintro ⟨h, -⟩
    rw [hs] at h
    cases h
  | succ m ih =>
    intro k n kind b acc rest hkd hm
    obtain ⟨k, rfl⟩ : ∃ k', k = k' + 1 := ⟨k - 1, by omega⟩
    rw [lay, if_neg (show ¬ k = 0 by omega), List.take_succ_cons, List.cons_append]
    unfold scan
    by_cases hc : gGood (enc g n kind (b.take 112)) n = true ∧ sBeg (enc g n kind (b.take 112)) = decide (n = at_) ∧ sGen (enc g n kind (b.take 112)) = g ∧ last ≤ sGen (enc g n kind (b.take 112))
    · rw [if_pos hc, if_neg (by
        unfold sFin
        rw [enc_kind]
        simp only [decide_eq_true_eq]
        omega)]
      exact ih k (n + 1) 0 (b.drop 112) _ rest (by decide) (by omega)
    · rw [if_neg hc]
theorem lay_take_all (g k n : Nat) (kind : UInt8) (b : Bs) : (lay g k n kind b).take k = lay g k n kind b := List.take_of_length_le (by rw [lay_len]; exact Nat.le_refl _)
theorem recAt_torn {l pre post : List Bs} {g last n m : Nat} {b s : Bs} (hs : ∀ num, gGood s num = false) (h : l = pre ++ ((lay g (secN b) n 1 b).take m ++ s :: post)) (hm : m < secN b) (hg : g < 4294967296) (hn : pre.length = n) : recAt l n last = none := by
  have hd : l.drop n = (lay g (secN b) n 1 b).take m ++ s :: post := by rw [h, List.drop_left' hn]
  cases m with
  | zero =>
    unfold recAt
    rw [hd, List.take_zero, List.nil_append]
    unfold scan
    rw [if_neg]
    rintro ⟨h1, -⟩
    rw [hs] at h1
    cases h1
  | succ m =>
    have hsg : sGen (l.getD n []) = g := by
      obtain ⟨k, hk⟩ : ∃ k, secN b = k + 1 := ⟨secN b - 1, by omega⟩
      obtain ⟨kd, b', he⟩ := lay_head g k n 1 b
      rw [hk, he, List.take_succ_cons, List.cons_append] at h
      rw [getD_at h hn, enc_gen hg]
    unfold recAt
    rw [hsg, hd]
    exact scan_torn hs (secN b) n 1 b [] post (by decide) hm
/-- A sector whose second half has another generation is none of a record. -/
theorem torn_bad {s : Bs} (hl : s.length = 128) (h : sEnd s ≠ sGen s) : ∀ num, gGood s num = false := fun num => by
  cases hg : gGood s num
  · rfl
  · exact absurd (good_ends hl hg) h
theorem splitK {g : Nat} : ∀ (rs : List Bs) (n m : Nat), m < usedN rs → ∃ (rs1 rs2 : List Bs) (b : Bs) (k : Nat), rs = rs1 ++ b :: rs2 ∧ k < secN b ∧ m = usedN rs1 + k ∧ (layA g n rs).take m = layA g n rs1 ++ (lay g (secN b) (n + usedN rs1) 1 b).take k
  | [], n, m, h => by rw [usedN_nil] at h; omega
  | b :: rs, n, m, h => by
    rw [usedN_cons] at h
    by_cases hm : m < secN b
    · refine ⟨[], rs, b, m, rfl, hm, by rw [usedN_nil]; omega, ?_⟩
      have h1 : (lay g (secN b) n 1 b ++ layA g (n + secN b) rs).take m = (lay g (secN b) n 1 b).take m := List.take_append_of_le_length (by rw [lay_len]; omega)
      rw [show layA g n (b :: rs) = lay g (secN b) n 1 b ++ layA g (n + secN b) rs from rfl, h1]
      simp [layA, usedN_nil]
    · obtain ⟨rs1, rs2, c, k, e, hk, hmk, ht⟩ := splitK (g := g) rs (n + secN b) (m - secN b) (by omega)
      refine ⟨b :: rs1, rs2, c, k, by rw [e]; rfl, hk, by rw [usedN_cons]; omega, ?_⟩
      have h1 : (lay g (secN b) n 1 b ++ layA g (n + secN b) rs).take m = lay g (secN b) n 1 b ++ (layA g (n + secN b) rs).take (m - secN b) := by
        rw [List.take_append, lay_len, List.take_of_length_le (by rw [lay_len]; omega)]
      rw [show layA g n (b :: rs) = lay g (secN b) n 1 b ++ layA g (n + secN b) rs from rfl, h1, ht, show layA g n (b :: rs1) = lay g (secN b) n 1 b ++ layA g (n + secN b) rs1 from rfl, List.append_assoc, usedN_cons, show n + (secN b + usedN rs1) = n + secN b + usedN rs1 by omega]
/-- What is read behind a sync that tore: the records ahead, a beginning of the new ones. -/
theorem torn_chain {l pre post : List Bs} {g last n m : Nat} {rs : List Bs} {s : Bs} (h0 : 0 < g) (hg : g < 4294967296) (hl : last ≤ g) (hs : ∀ num, gGood s num = false) (hm : m < usedN rs) (h : l = pre ++ ((layA g n rs).take m ++ s :: post)) (hn : pre.length = n) :
    ∃ rs1 rs2 at' last', rs = rs1 ++ rs2 ∧ Chain l n last rs1 at' last' ∧ recAt l at' last' = none := by
  obtain ⟨rs1, rs2, b, k, e, hk, hmk, ht⟩ := splitK (g := g) rs n m hm
  rw [ht] at h
  refine ⟨rs1, b :: rs2, _, _, e, chain_lay h0 hg rs1 (pre := pre) (post := (lay g (secN b) (n + usedN rs1) 1 b).take k ++ s :: post) hl (by rw [h, List.append_assoc]) hn, ?_⟩
  exact recAt_torn (pre := pre ++ layA g n rs1) (post := post) (g := g) (m := k) (b := b) hs (by rw [h]; simp only [List.append_assoc]) hk hg (by rw [List.length_append, layA_len, hn])
end Go.Proofs.Ytckeopidedoohaa

namespace Go.Proofs.Ytckeopidedoohaa

theorem Chain.last_le {l : List Bs} {at_ last at' last' G : Nat} {rs : List Bs} (h : Chain l at_ last rs at' last') (h0 : last ≤ G) (hl : ∀ s ∈ l, sGen s ≤ G) : last' ≤ G := by
  induction h with
  | nil => exact h0
  | @cons at_ last n at' last' b rs h1 _ ih =>
    refine ih ?_
    have hlt := recAt_lt h1
    rw [List.getD_eq_getElem?_getD, List.getElem?_eq_getElem (by omega)]
    exact hl _ (List.getElem_mem _)
theorem Chain.at_le {l : List Bs} {at_ last at' last' : Nat} {rs : List Bs} (h : Chain l at_ last rs at' last') (h0 : at_ ≤ l.length) : at' ≤ l.length := by
  induction h with
  | nil => exact h0
  | cons h1 _ ih => exact ih (recAt_lt h1).2
theorem gRecs_of {l rs : List Bs} {at' last' : Nat} (h : Chain l 0 0 rs at' last') (hn : recAt l at' last' = none) : gRecs l = rs := h.recs hn _ (by omega)
theorem gRecs_chain (l : List Bs) : ∃ at' last', Chain l 0 0 (gRecs l) at' last' ∧ recAt l at' last' = none := recs_chain l.length l 0 0 (by omega)
theorem same_pre {l l' pre post : List Bs} (h : l' = pre ++ post) (n : Nat) (hp : pre = l.take n) (hn : n ≤ l.length) : ∀ i, i < n → l'[i]? = l[i]? := fun i hi => by
  rw [h, hp, List.getElem?_append_left (by rw [List.length_take]; omega), List.getElem?_take, if_pos hi]
/-- Behind a sync that did not stop: the records before, the new ones. -/
theorem sync_recs {l : List Bs} {g : Nat} (rs : List Bs) (hlen : ∀ s ∈ l, s.length = 128) (hg : g < 4294967296) (hgen : ∀ s ∈ l, sGen s < g) (hfit : usedN (gRecs l) + usedN rs ≤ l.length) (h0 : 0 < g) :
    gRecs (l.take (usedN (gRecs l)) ++ (layA g (usedN (gRecs l)) rs ++ l.drop (usedN (gRecs l) + usedN rs))) = gRecs l ++ rs := by
  obtain ⟨at', last', hc, hn⟩ := gRecs_chain l
  have hat : at' = usedN (gRecs l) := by have := hc.used hlen; omega
  obtain ⟨u, hu⟩ : ∃ u, u = usedN (gRecs l) := ⟨_, rfl⟩
  rw [← hu] at hfit hat ⊢
  subst hat
  have hl : last' ≤ g := hc.last_le (by omega) (fun s hs => by have := hgen s hs; omega)
  obtain ⟨l', hl'⟩ : ∃ x, x = l.take at' ++ (layA g at' rs ++ l.drop (at' + usedN rs)) := ⟨_, rfl⟩
  rw [← hl']
  have hc1 : Chain l' 0 0 (gRecs l) at' last' := hc.ext (same_pre hl' at' rfl (by omega))
  have hc2 := chain_lay h0 hg rs (l := l') (pre := l.take at') (post := l.drop (at' + usedN rs)) (last := last') (n := at') hl hl' (by rw [List.length_take]; omega)
  refine gRecs_of (hc1.append hc2) ?_
  by_cases hrs : rs = []
  · subst hrs
    have e : l' = l := by rw [hl']; simp [layA, usedN_nil]
    rw [if_pos rfl, usedN_nil, Nat.add_zero, e]
    exact hn
  · rw [if_neg hrs]
    refine recAt_old ?_
    have hp : (l.take at' ++ layA g at' rs).length = at' + usedN rs := by rw [List.length_append, List.length_take, layA_len]; omega
    rw [hl', ← List.append_assoc, List.getD_eq_getElem?_getD, List.getElem?_append_right (by omega), hp, Nat.sub_self, List.getElem?_drop]
    cases he : l[at' + usedN rs + 0]? with
    | none => exact h0
    | some s => exact hgen s (List.mem_of_getElem? he)
theorem torn_gen {old new : Bs} (h1 : old.length = 128) (h2 : new.length = 128) : (tornB old new).length = 128 ∧ sGen (tornB old new) = sGen new ∧ sEnd (tornB old new) = sEnd old := by
  have hl : (new.take 64).length = 64 := by rw [List.length_take, h2]; rfl
  refine ⟨tornB_len h1 h2, ?_, ?_⟩
  · unfold sGen tornB
    rw [List.take_append_of_le_length (by omega), List.take_take]
    rfl
  · unfold sEnd tornB
    rw [show 124 = 64 + 60 from rfl, ← List.drop_drop, List.drop_left' hl, List.drop_drop]
theorem lay_all {g : Nat} (hg : g < 4294967296) : ∀ (k n : Nat) (kind : UInt8) (b : Bs), ∀ s ∈ lay g k n kind b, s.length = 128 ∧ sGen s = g ∧ sEnd s = g
  | 0, _, _, _, s, h => by cases h
  | k + 1, n, kind, b, s, h => by
    rcases List.mem_cons.1 h with rfl | h
    · have hb : (b.take 112).length ≤ 112 := by rw [List.length_take]; omega
      exact ⟨enc_len _ _ _ hb, enc_gen hg _ _ _, enc_end hg _ _ hb⟩
    · exact lay_all hg k (n + 1) 0 _ s h
theorem layA_all {g : Nat} (hg : g < 4294967296) : ∀ (rs : List Bs) (n : Nat), ∀ s ∈ layA g n rs, s.length = 128 ∧ sGen s = g ∧ sEnd s = g
  | [], _, s, h => by cases h
  | b :: rs, n, s, h => by
    rcases List.mem_append.1 h with h | h
    · exact lay_all hg _ _ _ _ s h
    · exact layA_all hg rs _ s h
/-- Behind a sync that stopped: the records before, a beginning of the new ones. -/
theorem sync_torn {l : List Bs} {g m : Nat} (rs : List Bs) (hlen : ∀ s ∈ l, s.length = 128) (hg : g < 4294967296) (hgen : ∀ s ∈ l, sGen s < g ∧ sEnd s < g) (hfit : usedN (gRecs l) + usedN rs ≤ l.length) (h0 : 0 < g) (hm : m < usedN rs) :
    ∃ rs1 rs2, rs = rs1 ++ rs2 ∧ gRecs (l.take (usedN (gRecs l)) ++ ((layA g (usedN (gRecs l)) rs).take m ++ tornB (l.getD (usedN (gRecs l) + m) []) ((layA g (usedN (gRecs l)) rs).getD m []) :: l.drop (usedN (gRecs l) + m + 1))) = gRecs l ++ rs1 := by
  obtain ⟨at', last', hc, hn⟩ := gRecs_chain l
  have hat : at' = usedN (gRecs l) := by have := hc.used hlen; omega
  obtain ⟨u, hu⟩ : ∃ u, u = usedN (gRecs l) := ⟨_, rfl⟩
  rw [← hu] at hfit hat ⊢
  subst hat
  have hl : last' ≤ g := hc.last_le (by omega) (fun s hs => by have := (hgen s hs).1; omega)
  have hold : l.getD (at' + m) [] ∈ l := by rw [List.getD_eq_getElem?_getD, List.getElem?_eq_getElem (by omega)]; exact List.getElem_mem _
  have hnew : (layA g at' rs).getD m [] ∈ layA g at' rs := by rw [List.getD_eq_getElem?_getD, List.getElem?_eq_getElem (by rw [layA_len]; omega)]; exact List.getElem_mem _
  obtain ⟨n1, n2, n3⟩ := layA_all hg rs at' _ hnew
  obtain ⟨t1, t2, t3⟩ := torn_gen (hlen _ hold) n1
  have hbad := torn_bad t1 (by rw [t2, t3, n2]; have := (hgen _ hold).2; omega)
  obtain ⟨l', hl'⟩ : ∃ x, x = l.take at' ++ ((layA g at' rs).take m ++ tornB (l.getD (at' + m) []) ((layA g at' rs).getD m []) :: l.drop (at' + m + 1)) := ⟨_, rfl⟩
  rw [← hl']
  have hc1 : Chain l' 0 0 (gRecs l) at' last' := hc.ext (same_pre hl' at' rfl (by omega))
  obtain ⟨rs1, rs2, a2, l2, e, hc2, hn2⟩ := torn_chain (l := l') (pre := l.take at') (post := l.drop (at' + m + 1)) (last := last') (n := at') h0 hg hl hbad hm hl' (by rw [List.length_take]; omega)
  exact ⟨rs1, rs2, e, gRecs_of (hc1.append hc2) hn2⟩
end Go.Proofs.Ytckeopidedoohaa
