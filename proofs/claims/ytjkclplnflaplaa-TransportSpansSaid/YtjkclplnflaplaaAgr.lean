/-
  Spans agree with what each sample shows; no two that follow each other could be one; spans put together sample by sample are the same. Plain data. Conditions: orders that are fine.
-/
import Derived.Test.YtjkclplnflaplaaLp
namespace Go.Proofs.Ytjkclplnflaplaa
open Go.RowKit

/-- What a sample of a span shows. -/
def Shows (l : List Ord) (p : Sp) (j : Int) : Prop := (atS l (p.e + j)).pos = (if p.roll then p.song + j else p.song) ∧ (atS l (p.e + j)).roll = p.roll ∧ recB (atS l (p.e + j)) = p.rcd
def Agr (l : List Ord) (p : Sp) : Prop := ∀ j, 0 ≤ j → j < p.len → Shows l p j

theorem std_le {s : St} (n : Int) : stdS s n ≤ n := by
  unfold stdS
  split
  · omega
  · split <;> split <;> split <;> omega
theorem std_loop {s : St} {n : Int} (hr : s.roll = true) (hl : loopingB s = true) : stdS s n ≤ s.lb - s.pos := by
  unfold stdS
  rw [if_neg (by simp [hr])]
  simp only [hl, if_true]
  split <;> split <;> omega
theorem std_punch {s : St} {n : Int} (hr : s.roll = true) (hp : (s.pon && decide (s.pos < s.pa)) = true) : stdS s n ≤ s.pa - s.pos := by
  unfold stdS
  rw [if_neg (by simp [hr])]
  simp only [hp, if_true]
  split <;> split <;> omega
theorem std_rec {s : St} {n : Int} (hr : s.roll = true) (hc : recB s = true) : stdS s n ≤ s.pb - s.pos := by
  unfold stdS
  rw [if_neg (by simp [hr])]
  rw [if_pos hc]
  split <;> split <;> omega
theorem adv_shows {s : St} {n j : Int} (h0 : 0 ≤ j) (h : j < stdS s n) (hq : Okq s) : (advS s j).pos = (if s.roll then s.pos + j else s.pos) ∧ (advS s j).roll = s.roll ∧ recB (advS s j) = recB s := by
  cases hr : s.roll with
  | false =>
    rw [advS_still hr]
    exact ⟨by simp, hr, rfl⟩
  | true =>
    obtain ⟨p, e⟩ := advS_eq s j
    have hp : (advS s j).pos = s.pos + j := adv_on hr fun hl hlt => by
      have := std_loop (n := n) hr (by unfold loopingB; simp [hr, hl, hlt])
      omega
    refine ⟨by simpa using hp, by rw [e]; exact hr, ?_⟩
    rw [e] at hp ⊢
    have hp : p = s.pos + j := hp
    subst hp
    unfold recB
    dsimp only
    rw [hr]
    cases hpon : s.pon with
    | false => rfl
    | true =>
      have hb := hq hpon
      by_cases h1 : s.pos < s.pa
      · have := std_punch (n := n) hr (by simp [hpon, h1])
        rw [decide_eq_false (show ¬ s.pa ≤ s.pos + j by omega), decide_eq_false (show ¬ s.pa ≤ s.pos by omega)]
        rfl
      · by_cases h2 : s.pos < s.pb
        · have := std_rec (n := n) hr (by unfold recB; simp [hr, hpon, h2]; omega)
          rw [decide_eq_true (show s.pa ≤ s.pos + j by omega), decide_eq_true (show s.pa ≤ s.pos by omega), decide_eq_true (show s.pos + j < s.pb by omega), decide_eq_true h2]
        · rw [decide_eq_false (show ¬ s.pos + j < s.pb by omega), decide_eq_false h2]
          simp
theorem piece_agr {l : List Ord} (hg : GoodTo l l.length) {n m : Int} (h0 : 0 ≤ m) : Agr l (piece l n m) := by
  intro j hj0 hj
  obtain ⟨_, hq⟩ := at_ok hg h0
  have hj : j < stdS (atS l m) (nx l n (cutK l m) - m) := hj
  have hle := std_le (s := atS l m) (nx l n (cutK l m) - m)
  have hc : cutK l (m + j) = cutK l m := by
    refine (cut_uniq (cut_len l m) (fun i hi => by have := cut_le m hi; omega) (fun h => ?_)).symm
    have : nx l n (cutK l m) ≤ oT l (cutK l m) := by
      unfold nx
      rw [if_pos h]
      omega
    omega
  have e : atS l (m + j) = advS (atS l m) j := by
    rw [at_same hg h0 (by omega) hc]
    congr 1
    omega
  unfold Shows
  show (atS l (m + j)).pos = _ ∧ _
  rw [show (piece l n m).e + j = m + j from rfl, e]
  exact adv_shows hj0 hj hq

/-- Spans that follow each other, agree and cannot be joined. -/
structure Fine (l : List Ord) (acc : List Sp) (m : Int) : Prop where
  chain : Chain acc 0 m
  agr : ∀ p ∈ acc, Agr l p
  apart : ∀ i, i + 1 < acc.length → joinB (acc.getD i p0) (acc.getD (i + 1) p0) = false
theorem joinB_iff {a b : Sp} : joinB a b = true ↔ a.roll = b.roll ∧ a.rcd = b.rcd ∧ endS a = b.song := by
  unfold joinB
  simp [and_assoc]
theorem fine_step {l : List Ord} {acc acc' : List Sp} {y : Sp} {m : Int} (h : Fine l acc m) (hy : y.e = m) (hl : 1 ≤ y.len) (hs : 0 ≤ y.song ∧ y.song ≤ 2199023255552) (ha : Agr l y) (hst : stepP acc y = some acc') : Fine l acc' (m + y.len) := by
  have hch := step_chain h.chain hy hl hs hst
  unfold stepP at hst
  split at hst
  · rename_i hc
    cases hst
    obtain ⟨pre, q, hpq⟩ : ∃ pre q, acc = pre ++ [q] := ⟨_, _, last_split hc.1⟩
    have hlast : lastP acc = q := by rw [hpq, lastP_snoc]
    have hdl : acc.dropLast = pre := by rw [hpq, List.dropLast_concat]
    rw [hlast, hdl] at hch ⊢
    rw [hlast] at hc
    obtain ⟨j1, j2, j3⟩ := joinB_iff.1 hc.2
    have hqe : q.e + q.len = m := by
      have hcc := h.chain
      rw [hpq] at hcc
      obtain ⟨b, h1, h2⟩ := hcc.split
      have h3 : b + q.len = m := h2.2.2.2.2
      have := h2.1
      omega
    have hq := h.agr q (by rw [hpq]; simp)
    refine ⟨hch, fun p hp => ?_, fun i hi => ?_⟩
    · rcases List.mem_append.1 hp with hp | hp
      · exact h.agr p (by rw [hpq]; exact List.mem_append_left _ hp)
      · obtain rfl : p = lenUp q y.len := by simpa using hp
        intro j h0 h1
        have h1 : j < q.len + y.len := h1
        by_cases h2 : j < q.len
        · exact hq j h0 h2
        · have h3 := ha (j - q.len) (by omega) (by omega)
          unfold Shows at h3 ⊢
          rw [show (lenUp q y.len).e + j = y.e + (j - q.len) by show q.e + j = _; omega]
          refine ⟨?_, h3.2.1.trans j1.symm, h3.2.2.trans j2.symm⟩
          rw [h3.1]
          show _ = if q.roll = true then q.song + j else q.song
          rw [← j1, ← j3]
          unfold endS
          cases q.roll
          · rfl
          · show q.song + q.len + (j - q.len) = q.song + j
            omega
    · have hi : i + 1 < pre.length + 1 := by simpa using hi
      have h4 := h.apart i (by rw [hpq]; simpa using hi)
      rw [hpq] at h4
      by_cases h5 : i + 1 < pre.length
      · simpa [List.getD, List.getElem?_append, h5, show i < pre.length by omega] using h4
      · obtain h6 : i + 1 = pre.length := by omega
        have h7 : joinB (pre.getD i p0) q = false := by
          simpa [List.getD, List.getElem?_append, show i < pre.length by omega, h6] using h4
        have h8 : joinB (pre.getD i p0) (lenUp q y.len) = false := h7
        simpa [List.getD, List.getElem?_append, show i < pre.length by omega, h6] using h8
  · rename_i hc
    split at hst
    · cases hst
    cases hst
    refine ⟨hch, fun p hp => ?_, fun i hi => ?_⟩
    · rcases List.mem_append.1 hp with hp | hp
      · exact h.agr p hp
      · obtain rfl : p = y := by simpa using hp
        exact ha
    · have hi : i + 1 < acc.length + 1 := by simpa using hi
      by_cases h5 : i + 1 < acc.length
      · have h4 := h.apart i h5
        simpa [List.getD, List.getElem?_append, h5, show i < acc.length by omega] using h4
      · obtain h6 : i + 1 = acc.length := by omega
        have hne : acc ≠ [] := fun hh => by rw [hh] at h6; simp at h6
        have hlast : acc.getD i p0 = lastP acc := by
          conv => lhs; rw [last_split hne]
          have : acc.dropLast.length = i := by simp; omega
          simp [List.getD, List.getElem?_append, this]
        have h7 : joinB (lastP acc) y = false := by
          cases hj : joinB (lastP acc) y with
          | false => rfl
          | true => exact absurd ⟨hne, hj⟩ hc
        have e1 : (acc ++ [y]).getD i p0 = lastP acc := by
          rw [← hlast]
          simp [List.getD, List.getElem?_append, show i < acc.length by omega]
        have e2 : (acc ++ [y]).getD (i + 1) p0 = y := by
          simp [List.getD, h6]
        rw [e1, e2, h7]
theorem fold_fine {l : List Ord} {ys : List Sp} : ∀ {acc0 acc : List Sp} {a m : Int}, Fine l acc0 a → Chain ys a m → (∀ p ∈ ys, Agr l p) → ys.foldl (fun o y => o.bind fun acc => stepP acc y) (some acc0) = some acc → Fine l acc m := by
  induction ys with
  | nil => intro acc0 acc a m h1 h2 _ h3; cases h2; cases h3; exact h1
  | cons y ys ih =>
    intro acc0 acc a m h1 h2 hA h3
    rw [List.foldl_cons] at h3
    change ys.foldl _ (stepP acc0 y) = some acc at h3
    cases hs : stepP acc0 y with
    | none => rw [hs, foldl_none] at h3; cases h3
    | some acc1 =>
      rw [hs] at h3
      exact ih (fine_step h1 h2.1 h2.2.1 ⟨h2.2.2.1, h2.2.2.2.1⟩ (hA y (by simp)) hs) h2.2.2.2.2 (fun p hp => hA p (by simp [hp])) h3
theorem pcS_agr {l : List Ord} (hg : GoodTo l l.length) {n : Int} (hn : n ≤ 1099511627776) (f : Nat) : ∀ (m : Int), 0 ≤ m → ∀ p ∈ pcS l n f m, Agr l p := by
  induction f with
  | zero => intro m h0 p hp; cases hp
  | succ f ih =>
    intro m h0 p hp
    unfold pcS at hp
    by_cases h : m < n
    · rw [if_pos h] at hp
      have h1 := piece_ok hg hn h0 h
      rcases List.mem_cons.1 hp with rfl | hp
      · exact piece_agr hg h0
      · exact ih _ (by omega) p hp
    · rw [if_neg h] at hp
      cases hp
theorem acc_fine {l acc} (hg : GoodTo l l.length) {n : Int} (h0 : 0 ≤ n) (hn : n ≤ 1099511627776) (ha : accOf (pcsL l n) = some acc) : Fine l acc n :=
  fold_fine (show Fine l [] 0 from ⟨rfl, (fun p hp => by cases hp), (fun i hi => by simp at hi)⟩) (pcsL_chain hg h0 hn) (pcS_agr hg hn _ 0 (Int.le_refl _)) ha
end Go.Proofs.Ytjkclplnflaplaa
