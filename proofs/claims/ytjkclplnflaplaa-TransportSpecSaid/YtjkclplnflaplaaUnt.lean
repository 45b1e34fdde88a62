/-
  Spans put together sample by sample, as the reference does, are the spans put together piece by piece. Plain data. Conditions: orders that are fine, at most 65536 samples.
-/
import Derived.Test.YtjkclplnflaplaaAgr
namespace Go.Proofs.Ytjkclplnflaplaa
open Go.RowKit

/-- A sample as a span of its own. -/
def uS (l : List Ord) (m : Int) : Sp := ⟨m, 1, (atS l m).pos, (atS l m).roll, recB (atS l m)⟩
open Classical in
noncomputable def stepU (acc : List Sp) (y : Sp) : List Sp := if acc ≠ [] ∧ joinB (lastP acc) y = true then acc.dropLast ++ [lenUp (lastP acc) y.len] else acc ++ [y]
/-- What the reference has put together behind so many samples. -/
noncomputable def rAcc (l : List Ord) : Nat → List Sp
  | 0 => []
  | m + 1 => stepU (rAcc l m) (uS l m)
theorem stepU_join {acc : List Sp} {y : Sp} (h : acc ≠ []) (hj : joinB (lastP acc) y = true) : stepU acc y = acc.dropLast ++ [lenUp (lastP acc) y.len] := by
  unfold stepU
  rw [if_pos ⟨h, hj⟩]
theorem stepU_new {acc : List Sp} {y : Sp} (h : acc = [] ∨ joinB (lastP acc) y = false) : stepU acc y = acc ++ [y] := by
  unfold stepU
  rw [if_neg (fun hh => by rcases h with h | h; exact hh.1 h; rw [h] at hh; exact absurd hh.2 (by simp))]
theorem stepP_U {acc : List Sp} {y : Sp} (h : acc.length < 65536) : stepP acc y = some (stepU acc y) := by
  unfold stepP stepU
  split
  · rfl
  · rw [if_neg (by omega)]
theorem stepU_len (acc : List Sp) (y : Sp) : (stepU acc y).length ≤ acc.length + 1 := by
  unfold stepU
  split
  · simp
  · simp
noncomputable def foldU (acc : List Sp) (ys : List Sp) : List Sp := ys.foldl stepU acc
theorem foldP_U {ys : List Sp} : ∀ {acc : List Sp}, acc.length + ys.length ≤ 65536 → ys.foldl (fun o y => o.bind fun acc => stepP acc y) (some acc) = some (foldU acc ys) := by
  induction ys with
  | nil => intro acc _; rfl
  | cons y ys ih =>
    intro acc h
    simp only [List.length_cons] at h
    rw [List.foldl_cons]
    change ys.foldl _ (stepP acc y) = some (foldU (stepU acc y) ys)
    rw [stepP_U (by omega)]
    exact ih (by have := stepU_len acc y; omega)
/-- The samples from a on, each as a span. -/
def unitsL (l : List Ord) (a : Int) (n : Nat) : List Sp := (List.range n).map fun j => uS l (a + (j : Nat))
theorem unitsL_add (l : List Ord) (a : Int) (n m : Nat) : unitsL l a (n + m) = unitsL l a n ++ unitsL l (a + n) m := by
  unfold unitsL
  rw [List.range_add, List.map_append, List.map_map]
  congr 1
  refine List.map_congr_left fun j _ => ?_
  show uS l (a + ((n + j : Nat) : Int)) = uS l (a + n + j)
  congr 1
  omega
theorem rAcc_fold (l : List Ord) (n : Nat) : rAcc l n = foldU [] (unitsL l 0 n) := by
  induction n with
  | zero => rfl
  | succ n ih =>
    show stepU (rAcc l n) (uS l n) = _
    rw [ih, unitsL_add]
    unfold foldU
    rw [List.foldl_append]
    show _ = stepU _ (uS l (0 + n + (0 : Nat)))
    congr 2
    omega
theorem unit_of {l : List Ord} {p : Sp} (h : Agr l p) {j : Int} (h0 : 0 ≤ j) (h1 : j < p.len) : uS l (p.e + j) = ⟨p.e + j, 1, if p.roll then p.song + j else p.song, p.roll, p.rcd⟩ := by
  obtain ⟨a, b, c⟩ := h j h0 h1
  unfold uS
  rw [a, b, c]
theorem lenUp_lenUp (q : Sp) (a b : Int) : lenUp (lenUp q a) b = lenUp q (a + b) := by
  unfold lenUp
  simp [Int.add_assoc]
/-- A span sample by sample is the span at once. -/
theorem units_span {l : List Ord} {p : Sp} (h : Agr l p) (acc : List Sp) (n : Nat) (hn : ((n + 1 : Nat) : Int) ≤ p.len) : foldU acc (unitsL l p.e (n + 1)) = stepU acc { p with len := ((n + 1 : Nat) : Int) } := by
  induction n with
  | zero =>
    show stepU acc (uS l (p.e + ((0 : Nat) : Int))) = _
    rw [unit_of h (by omega) (by omega)]
    congr 1
    cases p.roll <;> simp
  | succ n ih =>
    rw [unitsL_add]
    unfold foldU
    rw [List.foldl_append]
    have ih := ih (by omega)
    unfold foldU at ih
    rw [ih]
    show stepU (stepU acc _) (uS l (p.e + ((n + 1 : Nat) : Int) + ((0 : Nat) : Int))) = _
    rw [show p.e + ((n + 1 : Nat) : Int) + ((0 : Nat) : Int) = p.e + ((n + 1 : Nat) : Int) by omega, unit_of h (by omega) (by omega)]
    obtain ⟨pe, pl, ps, pr, pc⟩ := p
    dsimp only at *
    by_cases hc : acc ≠ [] ∧ joinB (lastP acc) ⟨pe, ((n + 1 : Nat) : Int), ps, pr, pc⟩ = true
    · obtain ⟨hne, hj⟩ := hc
      obtain ⟨j1, j2, j3⟩ := joinB_iff.1 hj
      rw [stepU_join hne hj]
      generalize hq : lastP acc = q at *
      have hj2 : joinB q ⟨pe, ((n + 1 + 1 : Nat) : Int), ps, pr, pc⟩ = true := joinB_iff.2 ⟨j1, j2, j3⟩
      rw [stepU_join (acc := acc) hne (by rw [hq]; exact hj2), hq]
      rw [stepU_join (by simp), lastP_snoc, List.dropLast_concat, lenUp_lenUp]
      · congr 3
      · rw [lastP_snoc]
        refine joinB_iff.2 ⟨j1, j2, ?_⟩
        dsimp only at j1 j3
        unfold endS at j3 ⊢
        unfold lenUp
        dsimp only
        rw [j1] at j3 ⊢
        cases pr
        · simpa using j3
        · simp at j3 ⊢
          omega
    · have hc2 : acc = [] ∨ joinB (lastP acc) ⟨pe, ((n + 1 : Nat) : Int), ps, pr, pc⟩ = false := by
        by_cases h1 : acc = []
        · exact .inl h1
        · right
          cases hj : joinB (lastP acc) ⟨pe, ((n + 1 : Nat) : Int), ps, pr, pc⟩ with
          | false => rfl
          | true => exact absurd ⟨h1, hj⟩ hc
      have hc3 : acc = [] ∨ joinB (lastP acc) ⟨pe, ((n + 1 + 1 : Nat) : Int), ps, pr, pc⟩ = false := hc2
      rw [stepU_new hc2, stepU_new hc3, stepU_join (by simp), lastP_snoc, List.dropLast_concat]
      · congr 2
      · rw [lastP_snoc]
        refine joinB_iff.2 ⟨rfl, rfl, ?_⟩
        unfold endS
        dsimp only
theorem units_chain {l : List Ord} {ys : List Sp} : ∀ {acc : List Sp} {a b : Int}, Chain ys a b → (∀ p ∈ ys, Agr l p) → foldU acc (unitsL l a (b - a).toNat) = foldU acc ys := by
  induction ys with
  | nil =>
    intro acc a b h _
    cases h
    rw [Int.sub_self]
    rfl
  | cons y ys ih =>
    intro acc a b h hA
    obtain ⟨h1, h2, _, _, h5⟩ := h
    have hle := h5.le
    have e : (b - a).toNat = (y.len.toNat - 1 + 1) + (b - (a + y.len)).toNat := by omega
    rw [e, unitsL_add]
    unfold foldU
    rw [List.foldl_append]
    have hu := units_span (hA y (by simp)) acc (y.len.toNat - 1) (by omega)
    unfold foldU at hu
    rw [← h1] at h5 hle ⊢
    rw [hu]
    have e2 : ({ y with len := ((y.len.toNat - 1 + 1 : Nat) : Int) } : Sp) = y := by
      rw [show ((y.len.toNat - 1 + 1 : Nat) : Int) = y.len by omega]
    rw [e2, show y.e + ((y.len.toNat - 1 + 1 : Nat) : Int) = y.e + y.len by omega]
    exact ih h5 (fun p hp => hA p (by simp [hp]))
theorem rAcc_pcs {l : List Ord} (hg : GoodTo l l.length) (n : Nat) (hn : n ≤ 65536) : accOf (pcsL l n) = some (rAcc l n) := by
  have hc := pcsL_chain hg (n := n) (by omega) (by omega)
  have := hc.count
  unfold accOf
  rw [foldP_U (by simp; omega), rAcc_fold]
  have h2 := units_chain (acc := []) hc (pcS_agr hg (by omega) _ 0 (Int.le_refl _))
  rw [show ((n : Int) - 0).toNat = n by omega] at h2
  rw [h2]
theorem gSpans_r {l : List Ord} (h : gCheck l = 0) (n : Nat) (hn : n ≤ 65536) : gSpans l n = (rAcc l n, 0) := by
  rw [gSpans_of h (by omega) (by omega), rAcc_pcs (good_of_check h) n hn]
  rfl
theorem rAcc_fine {l : List Ord} (hg : GoodTo l l.length) (n : Nat) (hn : n ≤ 65536) : Fine l (rAcc l n) n := acc_fine hg (by omega) (by omega) (rAcc_pcs hg n hn)
end Go.Proofs.Ytjkclplnflaplaa
