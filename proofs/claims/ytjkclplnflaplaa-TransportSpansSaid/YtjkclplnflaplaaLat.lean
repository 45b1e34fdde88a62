/-
  Orders that come later, and the first orders alone, as plain data. Conditions: orders that are fine.
-/
import Derived.Test.YtjkclplnflaplaaLp
namespace Go.Proofs.Ytjkclplnflaplaa
open Go.RowKit

/-- An order that comes later. -/
def shO (d : Int) (x : Ord) : Ord := { x with at_ := x.at_ + d }
def shL (d : Int) (l : List Ord) : List Ord := l.map (shO d)
theorem shL_len (d : Int) (l : List Ord) : (shL d l).length = l.length := by simp [shL]
theorem shL_get (d : Int) (l : List Ord) {i : Nat} (h : i < l.length) : (shL d l).getD i o0 = shO d (l.getD i o0) := by
  simp [shL, List.getD, h]
theorem shL_oT (d : Int) (l : List Ord) {i : Nat} (h : i < l.length) : oT (shL d l) i = oT l i + d := by
  unfold oT
  rw [shL_get d l h]
  rfl
theorem shL_cut (d : Int) (l : List Ord) (t : Int) : cutK (shL d l) (t + d) = cutK l t := by
  have hl := cut_len l t
  refine (cut_uniq (by rw [shL_len]; exact hl) (fun i hi => ?_) (fun h => ?_)).symm
  · have := cut_le t hi
    rw [shL_oT d l (by omega)]
    omega
  · rw [shL_len] at h
    have := cut_spec t h
    rw [shL_oT d l h]
    omega
theorem ordS_sh (s : St) (d : Int) (x : Ord) : ordS s (shO d x) = ordS s x := rfl
theorem adv_s0 (n : Int) : advS s0 n = s0 := advS_still rfl n
theorem shL_run (d : Int) (l : List Ord) (k : Nat) (hk : k ≤ l.length) : runS (shL d l) k = runS l k := by
  induction k with
  | zero => rfl
  | succ k ih =>
    have ih := ih (by omega)
    unfold runS
    rw [ih, shL_get d l (by omega), ordS_sh, shL_oT d l (by omega)]
    cases k with
    | zero =>
      show ordS (advS s0 _) _ = ordS (advS s0 _) _
      rw [adv_s0, adv_s0]
    | succ k =>
      have e1 : nowK (shL d l) (k + 1) = nowK l (k + 1) + d := shL_oT d l (by omega)
      rw [e1]
      congr 2
      omega
theorem shL_at (d : Int) (l : List Ord) (t : Int) : atS (shL d l) (t + d) = atS l t := by
  have hl := cut_len l t
  unfold atS
  rw [shL_cut, shL_run d l _ hl]
  cases hc : cutK l t with
  | zero =>
    show advS s0 _ = advS s0 _
    rw [adv_s0, adv_s0]
  | succ k =>
    have e1 : nowK (shL d l) (k + 1) = nowK l (k + 1) + d := shL_oT d l (by omega)
    rw [e1]
    congr 1
    omega
theorem at_before {l : List Ord} {t : Int} (h : ∀ i, i < l.length → t < oT l i) : atS l t = s0 := by
  have hc : cutK l t = 0 := (cut_uniq (Nat.zero_le _) (fun i hi => by omega) (fun h0 => h 0 h0)).symm
  unfold atS
  rw [hc]
  exact adv_s0 _
theorem shL_early {d : Int} {l : List Ord} (hg : GoodTo l l.length) (t : Int) (ht : t < d) : atS (shL d l) t = s0 := at_before fun i hi => by
  rw [shL_len] at hi
  rw [shL_oT d l hi]
  have := (hg.1 i hi).1
  have e : oT l i = (l.getD i o0).at_ := rfl
  omega
theorem later_song {d t : Int} {l : List Ord} (h : gCheck l = 0) (h2 : gCheck (shL d l) = 0) (h0 : 0 ≤ t) (hd : 0 ≤ d) (h1 : t + d ≤ 1099511627776) : gSong (shL d l) (t + d) = gSong l t := by
  rw [gSong_of h2 (by omega) h1, gSong_of h h0 (by omega), shL_at]
theorem later_early {d : Int} {l : List Ord} (h : gCheck l = 0) (h2 : gCheck (shL d l) = 0) (hd : 1 ≤ d) (h1 : d ≤ 1099511627776) : gSong (shL d l) (d - 1) = (0, false, false, 0) := by
  rw [gSong_of h2 (by omega) (by omega), shL_early (good_of_check h) _ (by omega)]
  rfl

/-- The first orders alone. -/
theorem take_oT {l : List Ord} {k i : Nat} (h : i < k) : oT (l.take k) i = oT l i := by
  unfold oT
  congr 1
  simp [List.getD, List.getElem?_take, h]
theorem take_get {l : List Ord} {k i : Nat} (h : i < k) : (l.take k).getD i o0 = l.getD i o0 := by
  simp [List.getD, List.getElem?_take, h]
theorem take_good {l : List Ord} (hg : GoodTo l l.length) (k : Nat) : GoodTo (l.take k) (l.take k).length := by
  rw [List.length_take]
  refine ⟨fun i hi => ?_, fun i hi => ?_⟩
  · rw [take_get (by omega)]
    exact hg.1 i (by omega)
  · rw [take_oT (by omega), take_oT (by omega)]
    exact hg.2 i (by omega)
theorem take_check {l : List Ord} (h : gCheck l = 0) (k : Nat) : gCheck (l.take k) = 0 := by
  have := len_of_check h
  exact check_of (by rw [List.length_take]; omega) (take_good (good_of_check h) k)
theorem cut_mono {l : List Ord} (hg : GoodTo l l.length) {a b : Int} (h : a ≤ b) : cutK l a ≤ cutK l b := by
  rcases Nat.lt_or_ge (cutK l b) (cutK l a) with hlt | hge
  · have h1 := cut_le a hlt
    have h2 := cut_len l a
    have := cut_spec b (l := l) (by omega)
    omega
  · exact hge
theorem take_cut {l : List Ord} (hg : GoodTo l l.length) {m n : Int} (h : m ≤ n) : cutK (l.take (cutK l n)) m = cutK l m := by
  have h1 := cut_mono hg h
  have h2 := cut_len l n
  refine (cut_uniq (by rw [List.length_take]; omega) (fun i hi => ?_) (fun hh => ?_)).symm
  · rw [take_oT (by omega)]
    exact cut_le m hi
  · rw [List.length_take] at hh
    rw [take_oT (by omega)]
    exact cut_spec m (by omega)
theorem take_now {l : List Ord} {k j : Nat} (h : j ≤ k) : nowK (l.take k) j = nowK l j := by
  cases j with
  | zero => rfl
  | succ j => exact take_oT (by omega)
theorem take_run {l : List Ord} {k : Nat} (j : Nat) (h : j ≤ k) : runS (l.take k) j = runS l j := by
  induction j with
  | zero => rfl
  | succ j ih =>
    unfold runS
    rw [ih (by omega), take_oT (by omega), take_now (by omega), take_get (by omega)]
theorem take_at {l : List Ord} (hg : GoodTo l l.length) {m n : Int} (h : m ≤ n) : atS (l.take (cutK l n)) m = atS l m := by
  have h1 := cut_mono hg h
  unfold atS
  rw [take_cut hg h, take_run _ h1, take_now h1]
theorem take_nx {l : List Ord} (hg : GoodTo l l.length) {n : Int} {j : Nat} (hj : j ≤ cutK l (n - 1)) : nx (l.take (cutK l (n - 1))) n j = nx l n j := by
  have h2 := cut_len l (n - 1)
  unfold nx
  rw [List.length_take]
  by_cases h : j < cutK l (n - 1)
  · rw [if_pos (by omega), if_pos (by omega), take_oT h]
  · rw [if_neg (by omega)]
    split
    · rename_i h3
      have := cut_gt hg (t := n - 1) (i := j) (by omega) h3
      omega
    · rfl
theorem take_piece {l : List Ord} (hg : GoodTo l l.length) {m n : Int} (h : m < n) : piece (l.take (cutK l (n - 1))) n m = piece l n m := by
  have h1 := cut_mono hg (show m ≤ n - 1 by omega)
  unfold piece
  rw [take_at hg (by omega), take_cut hg (by omega), take_nx hg h1]
theorem take_pcS {l : List Ord} (hg : GoodTo l l.length) (n : Int) (f : Nat) : ∀ m, pcS (l.take (cutK l (n - 1))) n f m = pcS l n f m := by
  induction f with
  | zero => exact fun _ => rfl
  | succ f ih =>
    intro m
    unfold pcS
    by_cases h : m < n
    · rw [if_pos h, if_pos h, take_piece hg h, ih]
    · rw [if_neg h, if_neg h]
theorem before_song {l : List Ord} {n : Int} (h : gCheck l = 0) (h0 : 1 ≤ n) (h1 : n ≤ 1099511627776) : gSong (l.take (cutK l (n - 1))) (n - 1) = gSong l (n - 1) := by
  rw [gSong_of h (by omega) (by omega), gSong_of (take_check h _) (by omega) (by omega), take_at (good_of_check h) (Int.le_refl _)]
theorem before_spans {l : List Ord} {n : Int} (h : gCheck l = 0) (h0 : 1 ≤ n) (h1 : n ≤ 1099511627776) : gSpans (l.take (cutK l (n - 1))) n = gSpans l n := by
  rw [gSpans_of h (by omega) (by omega), gSpans_of (take_check h _) (by omega) (by omega)]
  unfold pcsL
  rw [take_pcS (good_of_check h)]
end Go.Proofs.Ytjkclplnflaplaa
