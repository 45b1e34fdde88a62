/-
  Pieces put together to spans, as plain data. Conditions: orders that are fine.
-/
import Derived.Test.YtjkclplnflaplaaJoin
import Derived.Test.YtjkclplnflaplaaTailr
namespace Go.Proofs.Ytjkclplnflaplaa
open Go.RowKit

def p0 : Sp := ⟨0, 0, 0, false, false⟩
def lastP (acc : List Sp) : Sp := acc.getLastD p0
def lenUp (p : Sp) (n : Int) : Sp := { p with len := p.len + n }
open Classical in
/-- One more piece. -/
noncomputable def stepP (acc : List Sp) (y : Sp) : Option (List Sp) :=
  if acc ≠ [] ∧ joinB (lastP acc) y = true then some (acc.dropLast ++ [lenUp (lastP acc) y.len]) else if acc.length = 65536 then none else some (acc ++ [y])
noncomputable def accOf (pre : List Sp) : Option (List Sp) := pre.foldl (fun o y => o.bind fun acc => stepP acc y) (some [])
theorem accOf_snoc (pre : List Sp) (y : Sp) : accOf (pre ++ [y]) = (accOf pre).bind fun acc => stepP acc y := by simp [accOf]
theorem foldl_none (ys : List Sp) : ys.foldl (fun o y => o.bind fun acc => stepP acc y) (none : Option (List Sp)) = none := by
  induction ys with
  | nil => rfl
  | cons y ys ih => exact ih
theorem accOf_none {pre l : List Sp} (h : accOf pre = none) (hp : pre <+: l) : accOf l = none := by
  obtain ⟨t, rfl⟩ := hp
  unfold accOf at h ⊢
  rw [List.foldl_append, h, foldl_none]
def ansOf : Option (List Sp) → List Sp × Int
  | none => ([], 2)
  | some acc => (acc, 0)
open Classical in
/-- What Spans answers. -/
noncomputable def gSpans (l : List Ord) (n : Int) : List Sp × Int :=
  if gCheck l ≠ 0 then ([], gCheck l) else if n < 0 ∨ 1099511627776 < n then ([], 1) else ansOf (accOf (pcsL l n))

/-- Spans that follow each other without a gap. -/
def Chain : List Sp → Int → Int → Prop
  | [], a, b => a = b
  | p :: ps, a, b => p.e = a ∧ 1 ≤ p.len ∧ 0 ≤ p.song ∧ p.song ≤ 2199023255552 ∧ Chain ps (a + p.len) b
theorem Chain.append {xs ys : List Sp} {a b c : Int} (h : Chain xs a b) (k : Chain ys b c) : Chain (xs ++ ys) a c := by
  induction xs generalizing a with
  | nil => cases h; exact k
  | cons p ps ih => exact ⟨h.1, h.2.1, h.2.2.1, h.2.2.2.1, ih h.2.2.2.2⟩
theorem Chain.split {xs ys : List Sp} {a c : Int} (h : Chain (xs ++ ys) a c) : ∃ b, Chain xs a b ∧ Chain ys b c := by
  induction xs generalizing a with
  | nil => exact ⟨a, rfl, h⟩
  | cons p ps ih =>
    obtain ⟨b, h1, h2⟩ := ih h.2.2.2.2
    exact ⟨b, ⟨h.1, h.2.1, h.2.2.1, h.2.2.2.1, h1⟩, h2⟩
theorem Chain.le {xs : List Sp} {a b : Int} (h : Chain xs a b) : a ≤ b := by
  induction xs generalizing a with
  | nil => cases h; exact Int.le_refl _
  | cons p ps ih => have := ih h.2.2.2.2; have := h.2.1; omega
theorem Chain.count {xs : List Sp} {a b : Int} (h : Chain xs a b) : (xs.length : Int) ≤ b - a := by
  induction xs generalizing a with
  | nil => cases h; simp
  | cons p ps ih => have := ih h.2.2.2.2; have := h.2.1; simp only [List.length_cons]; omega
theorem Chain.mem {xs : List Sp} {a b : Int} (h : Chain xs a b) {p : Sp} (hp : p ∈ xs) : a ≤ p.e ∧ 1 ≤ p.len ∧ p.e + p.len ≤ b ∧ 0 ≤ p.song ∧ p.song ≤ 2199023255552 := by
  induction xs generalizing a with
  | nil => cases hp
  | cons q ps ih =>
    have hle := h.2.2.2.2.le
    have h1 := h.1
    have h2 := h.2.1
    rcases List.mem_cons.1 hp with rfl | hp
    · exact ⟨by omega, h2, by omega, h.2.2.1, h.2.2.2.1⟩
    · have := ih h.2.2.2.2 hp
      exact ⟨by omega, this.2.1, this.2.2.1, this.2.2.2⟩

theorem last_split {acc : List Sp} (h : acc ≠ []) : acc = acc.dropLast ++ [lastP acc] := by
  have := List.dropLast_concat_getLast h
  unfold lastP
  rw [List.getLastD_eq_getLast?, List.getLast?_eq_some_getLast h]
  exact this.symm
theorem step_chain {acc acc' : List Sp} {y : Sp} {m : Int} (h : Chain acc 0 m) (hy : y.e = m) (hl : 1 ≤ y.len) (hs : 0 ≤ y.song ∧ y.song ≤ 2199023255552) (hst : stepP acc y = some acc') : Chain acc' 0 (m + y.len) := by
  unfold stepP at hst
  split at hst
  · rename_i hc
    cases hst
    rw [last_split hc.1] at h
    obtain ⟨b, h1, h2⟩ := h.split
    refine h1.append ⟨h2.1, ?_, h2.2.2.1, h2.2.2.2.1, ?_⟩
    · have := h2.2.1
      show 1 ≤ (lastP acc).len + y.len
      omega
    · have := h2.2.2.2.2
      show b + ((lastP acc).len + y.len) = m + y.len
      have e : b + (lastP acc).len = m := this
      omega
  · split at hst
    · cases hst
    · cases hst
      exact h.append ⟨hy, hl, hs.1, hs.2, rfl⟩

theorem cut_le {l : List Ord} (m : Int) {i : Nat} (h : i < cutK l m) : oT l i ≤ m := by
  unfold cutK at h
  induction l generalizing i with
  | nil => simp at h
  | cons x l ih =>
    by_cases hx : x.at_ ≤ m
    · rw [List.takeWhile_cons_of_pos (by simpa using hx)] at h
      cases i with
      | zero => unfold oT; simpa using hx
      | succ i =>
        have := ih (by simpa using h)
        unfold oT at this ⊢
        simpa using this
    · rw [List.takeWhile_cons_of_neg (by simpa using hx)] at h
      simp at h
theorem at_ok {l : List Ord} (hg : GoodTo l l.length) {m : Int} (h0 : 0 ≤ m) : Okp (atS l m) m ∧ Okq (atS l m) := by
  have hk : cutK l m ≤ l.length := by
    unfold cutK
    exact List.Sublist.length_le (List.takeWhile_sublist _)
  have hT : ∀ i, i < cutK l m → oT l i ≤ m := fun i hi => cut_le m hi
  have hnb := now_bd hg hk
  have hnm : nowK l (cutK l m) ≤ m := by
    cases hc : cutK l m with
    | zero => exact h0
    | succ j => exact hT j (by omega)
  have h1 := (run_ok hg (cutK l m) hk).adv hnb.1 (n := m - nowK l (cutK l m)) (by omega)
  rw [show nowK l (cutK l m) + (m - nowK l (cutK l m)) = m by omega] at h1
  exact ⟨h1, (run_okq hg (cutK l m) hk).adv _⟩
theorem cut_spec {l : List Ord} (m : Int) : cutK l m < l.length → m < oT l (cutK l m) := fun h => by
  unfold cutK at h ⊢
  induction l with
  | nil => simp at h
  | cons x l ih =>
    by_cases hx : x.at_ ≤ m
    · rw [List.takeWhile_cons_of_pos (by simpa using hx)] at h ⊢
      have := ih (by simpa using h)
      unfold oT at this ⊢
      simpa using this
    · rw [List.takeWhile_cons_of_neg (by simpa using hx)]
      unfold oT
      simpa using hx
theorem piece_ok {l : List Ord} (hg : GoodTo l l.length) {n m : Int} (hn : n ≤ 1099511627776) (h0 : 0 ≤ m) (h1 : m < n) : 1 ≤ (piece l n m).len ∧ (piece l n m).len ≤ n - m ∧ 0 ≤ (piece l n m).song ∧ (piece l n m).song ≤ 2199023255552 := by
  obtain ⟨a, b⟩ := at_ok hg h0
  have hnx : m < nx l n (cutK l m) ∧ nx l n (cutK l m) ≤ n := by
    unfold nx
    split
    · rename_i h
      have := cut_spec m h
      omega
    · omega
  have := std_bd (a.ok (by omega)) b (d := nx l n (cutK l m) - m) (by omega)
  have h2 := a.p0
  have h3 := a.p1
  unfold piece
  dsimp only
  omega
theorem pcS_chain {l : List Ord} (hg : GoodTo l l.length) {n : Int} (hn : n ≤ 1099511627776) (f : Nat) : ∀ (m : Int), 0 ≤ m → m ≤ n → (n - m).toNat ≤ f → Chain (pcS l n f m) m n := by
  induction f with
  | zero => intro m h0 h1 h2; exact (by omega : m = n)
  | succ f ih =>
    intro m h0 h1 h2
    unfold pcS
    by_cases h : m < n
    · rw [if_pos h]
      have hp := piece_ok hg hn h0 h
      exact ⟨rfl, hp.1, hp.2.2.1, hp.2.2.2, ih _ (by omega) (by omega) (by omega)⟩
    · rw [if_neg h]
      exact (by omega : m = n)
theorem pcsL_chain {l : List Ord} (hg : GoodTo l l.length) {n : Int} (h0 : 0 ≤ n) (hn : n ≤ 1099511627776) : Chain (pcsL l n) 0 n := pcS_chain hg hn _ 0 (Int.le_refl _) h0 (by omega)

theorem fold_chain {ys : List Sp} : ∀ {acc0 acc : List Sp} {a m : Int}, Chain acc0 0 a → Chain ys a m → ys.foldl (fun o y => o.bind fun acc => stepP acc y) (some acc0) = some acc → Chain acc 0 m := by
  induction ys with
  | nil => intro acc0 acc a m h1 h2 h3; cases h2; cases h3; exact h1
  | cons y ys ih =>
    intro acc0 acc a m h1 h2 h3
    rw [List.foldl_cons] at h3
    change ys.foldl _ (stepP acc0 y) = some acc at h3
    cases hs : stepP acc0 y with
    | none => rw [hs, foldl_none] at h3; cases h3
    | some acc1 =>
      rw [hs] at h3
      exact ih (step_chain h1 h2.1 h2.2.1 ⟨h2.2.2.1, h2.2.2.2.1⟩ hs) h2.2.2.2.2 h3
/-- What has been put together of pieces that follow each other follows each other. -/
theorem accOf_chain {pre acc : List Sp} {m : Int} (h : Chain pre 0 m) (ha : accOf pre = some acc) : Chain acc 0 m := fold_chain (show Chain [] 0 0 from rfl) h ha
end Go.Proofs.Ytjkclplnflaplaa
