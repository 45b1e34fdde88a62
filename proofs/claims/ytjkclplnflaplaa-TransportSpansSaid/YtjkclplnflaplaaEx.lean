/-
  The chapter's examples of the transport as plain data; a loop of four samples, cut at every round, needs more spans than there may be. Conditions: none.
-/
import Derived.Test.YtjkclplnflaplaaSame
namespace Go.Proofs.Ytjkclplnflaplaa
open Go.RowKit

theorem stepP_join {acc : List Sp} {y : Sp} (h : acc ≠ []) (hj : joinB (lastP acc) y = true) : stepP acc y = some (acc.dropLast ++ [lenUp (lastP acc) y.len]) := by
  unfold stepP
  rw [if_pos ⟨h, hj⟩]
theorem stepP_new {acc : List Sp} {y : Sp} (h : acc = [] ∨ joinB (lastP acc) y = false) (hl : acc.length ≠ 65536) : stepP acc y = some (acc ++ [y]) := by
  unfold stepP
  rw [if_neg (fun hh => by rcases h with h | h; exact hh.1 h; rw [h] at hh; exact absurd hh.2 (by simp)), if_neg hl]
theorem stepP_full {acc : List Sp} {y : Sp} (h : acc = [] ∨ joinB (lastP acc) y = false) (hl : acc.length = 65536) : stepP acc y = none := by
  unfold stepP
  rw [if_neg (fun hh => by rcases h with h | h; exact hh.1 h; rw [h] at hh; exact absurd hh.2 (by simp)), if_pos hl]
theorem accOf_cons (p : Sp) (ps : List Sp) (o : Option (List Sp)) : (p :: ps).foldl (fun o y => o.bind fun acc => stepP acc y) o = ps.foldl (fun o y => o.bind fun acc => stepP acc y) (o.bind fun acc => stepP acc p) := rfl

theorem check_of {l : List Ord} (h1 : l.length ≤ 256) (h : GoodTo l l.length) : gCheck l = 0 := by
  unfold gCheck
  rw [if_neg (by omega), if_pos h]
theorem gSong_of {l : List Ord} {t : Int} (h : gCheck l = 0) (h0 : 0 ≤ t) (h1 : t ≤ 1099511627776) : gSong l t = ((atS l t).pos, (atS l t).roll, recB (atS l t), 0) := by
  unfold gSong
  rw [if_neg (by omega), if_neg (by omega)]
theorem gSpans_of {l : List Ord} {t : Int} (h : gCheck l = 0) (h0 : 0 ≤ t) (h1 : t ≤ 1099511627776) : gSpans l t = ansOf (accOf (pcsL l t)) := by
  unfold gSpans
  rw [if_neg (by omega), if_neg (by omega)]

def E1 : List Ord := [⟨0, 1, 0, 0⟩, ⟨0, 4, 0, 4⟩]
def E3 : List Ord := [⟨0, 1, 0, 0⟩, ⟨0, 6, 2, 3⟩]
def E4 : List Ord := [⟨3, 3, 7, 0⟩]
def E6 : List Ord := [⟨0, 1, 0, 0⟩, ⟨6, 4, 2, 4⟩]
def E7 : List Ord := [⟨2, 1, 0, 0⟩]
def E10 : List Ord := [⟨0, 4, 5, 5⟩]
theorem good1 {x : Ord} (h : Right x) : GoodTo [x] [x].length := ⟨fun i hi => by
  obtain rfl : i = 0 := by simpa using hi
  exact h, fun i hi => by simp at hi⟩
theorem good2 {x y : Ord} (h : Right x) (k : Right y) (hxy : x.at_ ≤ y.at_) : GoodTo [x, y] [x, y].length := ⟨fun i hi => by
  rcases (show i = 0 ∨ i = 1 by simp at hi; omega) with rfl | rfl
  · exact h
  · exact k, fun i hi => by
  obtain rfl : i = 0 := by simp at hi; omega
  exact hxy⟩
theorem c1 : gCheck E1 = 0 := check_of (by decide) (good2 (by unfold Right; decide) (by unfold Right; decide) (by decide))
theorem c0 : gCheck [] = 0 := check_of (by decide) ⟨fun i hi => by simp at hi, fun i hi => by simp at hi⟩
theorem c3 : gCheck E3 = 0 := check_of (by decide) (good2 (by unfold Right; decide) (by unfold Right; decide) (by decide))
theorem c4 : gCheck E4 = 0 := check_of (by decide) (good1 (by unfold Right; decide))
theorem c6 : gCheck E6 = 0 := check_of (by decide) (good2 (by unfold Right; decide) (by unfold Right; decide) (by decide))
theorem c7 : gCheck E7 = 0 := check_of (by decide) (good1 (by unfold Right; decide))
theorem c10 : gCheck E10 = 510 := by
  unfold gCheck
  rw [if_neg (by decide), if_neg (fun h => by
    have := h.1 0 (by decide)
    revert this
    unfold Right E10
    decide)]

theorem p1 : pcsL E1 10 = [⟨0, 4, 0, true, false⟩, ⟨4, 4, 0, true, false⟩, ⟨8, 2, 0, true, false⟩] := by kernel_rfl
theorem p2 : pcsL [] 5 = [⟨0, 5, 0, false, false⟩] := by kernel_rfl
theorem p3 : pcsL E3 5 = [⟨0, 2, 0, true, false⟩, ⟨2, 1, 2, true, true⟩, ⟨3, 2, 3, true, false⟩] := by kernel_rfl
theorem g1 : gSpans E1 10 = ([⟨0, 4, 0, true, false⟩, ⟨4, 4, 0, true, false⟩, ⟨8, 2, 0, true, false⟩], 0) := by
  rw [gSpans_of c1 (by decide) (by decide), p1]
  unfold accOf
  rw [accOf_cons, Option.bind_some, stepP_new (.inl rfl) (by decide), accOf_cons, Option.bind_some, stepP_new (.inr (by kernel_rfl)) (by decide), accOf_cons, Option.bind_some, stepP_new (.inr (by kernel_rfl)) (by decide)]
  rfl
theorem g2 : gSpans [] 5 = ([⟨0, 5, 0, false, false⟩], 0) := by
  rw [gSpans_of c0 (by decide) (by decide), p2]
  unfold accOf
  rw [accOf_cons, Option.bind_some, stepP_new (.inl rfl) (by decide)]
  rfl
theorem g3 : gSpans E3 5 = ([⟨0, 2, 0, true, false⟩, ⟨2, 1, 2, true, true⟩, ⟨3, 2, 3, true, false⟩], 0) := by
  rw [gSpans_of c3 (by decide) (by decide), p3]
  unfold accOf
  rw [accOf_cons, Option.bind_some, stepP_new (.inl rfl) (by decide), accOf_cons, Option.bind_some, stepP_new (.inr (by kernel_rfl)) (by decide), accOf_cons, Option.bind_some, stepP_new (.inr (by kernel_rfl)) (by decide)]
  rfl
theorem g4 : gSong E4 2 = (0, false, false, 0) := by rw [gSong_of c4 (by decide) (by decide)]; kernel_rfl
theorem g5 : gSong E4 3 = (7, false, false, 0) := by rw [gSong_of c4 (by decide) (by decide)]; kernel_rfl
theorem g6 : gSong E6 9 = (9, true, false, 0) := by rw [gSong_of c6 (by decide) (by decide)]; kernel_rfl
theorem g7 : gSong E7 4 = (2, true, false, 0) := by rw [gSong_of c7 (by decide) (by decide)]; kernel_rfl
theorem g8 : gSong E1 1099511627776 = (0, true, false, 0) := by rw [gSong_of c1 (by decide) (by decide)]; kernel_rfl

def four (i : Nat) : Sp := ⟨4 * i, 4, 0, true, false⟩
theorem cut1 {m : Int} (h : 0 ≤ m) : cutK E1 m = 2 := (cut_uniq (by decide) (fun i hi => by
  rcases (show i = 0 ∨ i = 1 by omega) with rfl | rfl <;> exact h) (fun h2 => absurd h2 (by decide))).symm
theorem at4 (i : Nat) : atS E1 (4 * i) = ⟨0, true, true, 0, 4, false, 0, 0⟩ := by
  unfold atS
  rw [cut1 (by omega), show nowK E1 2 = 0 from rfl, show runS E1 2 = ⟨0, true, true, 0, 4, false, 0, 0⟩ by kernel_rfl]
  unfold advS
  by_cases h : (4 : Int) * (i : Int) - 0 = 0
  · rw [if_pos (.inr h)]
  · rw [if_neg (by simpa using h), if_pos ⟨by kernel_rfl, by dsimp only; omega⟩]
    dsimp only
    congr 1
    omega
theorem piece4 (i : Nat) (n : Int) (h : 4 * (i : Int) + 4 ≤ n) : piece E1 n (4 * i) = four i := by
  unfold piece
  rw [at4, cut1 (by omega), show nx E1 n 2 = n from by unfold nx; rw [if_neg (by decide)]]
  unfold four stdS
  congr 1
  rw [if_neg (by decide), if_neg (by decide), if_neg (by decide), if_pos (by kernel_rfl)]
  dsimp only
  omega
theorem pcs4 (n : Int) (k : Nat) : ∀ (i f : Nat), 4 * (i : Int) + 4 * k ≤ n → ∃ t, pcS E1 n (k + f) (4 * i) = (List.range k).map (fun j => four (i + j)) ++ t := by
  induction k with
  | zero => exact fun i f _ => ⟨_, rfl⟩
  | succ k ih =>
    intro i f h
    obtain ⟨t, ht⟩ := ih (i + 1) f (by omega)
    refine ⟨t, ?_⟩
    rw [show k + 1 + f = (k + f) + 1 by omega]
    show (if 4 * (i : Int) < n then _ else _) = _
    rw [if_pos (by omega), piece4 i n (by omega)]
    show four i :: pcS E1 n (k + f) (4 * (i : Int) + 4) = _
    rw [show 4 * (i : Int) + 4 = 4 * ((i + 1 : Nat) : Int) by omega, ht, List.range_succ_eq_map]
    simp [Nat.add_assoc, Nat.add_comm 1]
theorem lastP_snoc (xs : List Sp) (p : Sp) : lastP (xs ++ [p]) = p := by unfold lastP; simp
theorem join4 (i j : Nat) : joinB (four i) (four j) = false := by unfold joinB four endS; simp
theorem last4 (k j : Nat) : joinB (lastP ((List.range (k + 1)).map fun j => four (0 + j))) (four j) = false := by
  rw [List.range_succ, List.map_append, List.map_cons, List.map_nil, lastP_snoc, join4]
theorem acc4 (k : Nat) (h : k ≤ 65536) : accOf ((List.range k).map fun j => four (0 + j)) = some ((List.range k).map fun j => four (0 + j)) := by
  induction k with
  | zero => rfl
  | succ k ih =>
    rw [List.range_succ, List.map_append, List.map_cons, List.map_nil, accOf_snoc, ih (by omega)]
    refine stepP_new ?_ (by simp; omega)
    cases k with
    | zero => exact .inl rfl
    | succ k => exact .inr (last4 k _)
theorem acc4_full (k : Nat) (h : k = 65536) : accOf ((List.range (k + 1)).map fun j => four (0 + j)) = none := by
  rw [List.range_succ, List.map_append, List.map_cons, List.map_nil, accOf_snoc, acc4 k (by omega)]
  refine stepP_full (.inr ?_) (by simp; omega)
  obtain ⟨k', rfl⟩ : ∃ k', k = k' + 1 := ⟨k - 1, by omega⟩
  exact last4 k' _
theorem g9 : gSpans E1 1099511627776 = ([], 2) := by
  rw [gSpans_of c1 (by decide) (by decide)]
  have h : accOf (pcsL E1 1099511627776) = none := by
    obtain ⟨t, ht⟩ := pcs4 1099511627776 65537 0 (1099511627776 - 65537) (by decide)
    refine accOf_none (pre := (List.range (65536 + 1)).map fun j => four (0 + j)) (acc4_full 65536 rfl) ⟨t, ?_⟩
    rw [← ht]
    unfold pcsL
    rfl
  rw [h]
  rfl
end Go.Proofs.Ytjkclplnflaplaa
