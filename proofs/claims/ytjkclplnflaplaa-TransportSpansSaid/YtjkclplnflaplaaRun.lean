/-
  Orders carried out one behind the other: the state behind the first k of them, its bounds; which function carries an order out. Conditions: orders that are fine.
-/
import Derived.Test.YtjkclplnflaplaaAdv
import Derived.Shelf.Abstract
namespace Go.Proofs.Ytjkclplnflaplaa
open Go.RowKit

/-- The engine sample of the last of the first k orders. -/
def nowK (l : List Ord) : Nat → Int
  | 0 => 0
  | k + 1 => oT l k
/-- The state behind the first k orders. -/
def runS (l : List Ord) : Nat → St
  | 0 => s0
  | k + 1 => ordS (advS (runS l k) (oT l k - nowK l k)) (l.getD k o0)
/-- How many orders, from the first one on, do not come behind an engine sample. -/
def cutK (l : List Ord) (t : Int) : Nat := (l.takeWhile fun x => decide (x.at_ ≤ t)).length
/-- The state that an engine sample shows. -/
def atS (l : List Ord) (t : Int) : St := advS (runS l (cutK l t)) (t - nowK l (cutK l t))
open Classical in
/-- What Song answers. -/
noncomputable def gSong (l : List Ord) (t : Int) : Int × Bool × Bool × Int :=
  if gCheck l ≠ 0 then (0, false, false, gCheck l) else if t < 0 ∨ 1099511627776 < t then (0, false, false, 1) else ((atS l t).pos, (atS l t).roll, recB (atS l t), 0)

theorem cut_uniq {l : List Ord} {t : Int} {k : Nat} (hk : k ≤ l.length) (h1 : ∀ i, i < k → oT l i ≤ t) (h2 : k < l.length → t < oT l k) : k = cutK l t := by
  unfold cutK
  induction l generalizing k with
  | nil => simp at hk; simp [hk]
  | cons x l ih =>
    cases k with
    | zero =>
      have := h2 (by simp)
      have hx : ¬ x.at_ ≤ t := by unfold oT at this; simp at this; omega
      rw [List.takeWhile_cons_of_neg (by simpa using hx)]
      rfl
    | succ k =>
      have h0 := h1 0 (by omega)
      have hx : x.at_ ≤ t := by unfold oT at h0; simpa using h0
      rw [List.takeWhile_cons_of_pos (by simpa using hx), List.length_cons]
      congr 1
      refine ih (by simpa using hk) (fun i hi => ?_) (fun hlt => ?_)
      · have := h1 (i + 1) (by omega)
        unfold oT at this ⊢
        simpa using this
      · have := h2 (by simpa using hlt)
        unfold oT at this ⊢
        simpa using this

/-- A state's bounds at an engine sample. -/
structure Okp (s : St) (m : Int) : Prop where
  p0 : 0 ≤ s.pos
  p1 : s.pos ≤ 1099511627776 + m
  l : s.lon = true → 0 ≤ s.la ∧ s.la < s.lb ∧ s.lb ≤ 1099511627776
theorem Okp.ok {s : St} {m : Int} (h : Okp s m) (hm : m ≤ 3298534883328) : OkS s := ⟨h.p0, by have := h.p1; omega, h.l⟩
theorem Okp.adv {s : St} {m n : Int} (h : Okp s m) (h0 : 0 ≤ m) (hn : 0 ≤ n) : Okp (advS s n) (m + n) := by
  obtain ⟨p0, p1, hl⟩ := h
  unfold advS
  split
  · exact ⟨p0, by omega, hl⟩
  · split
    · rename_i h2
      have hlon : s.lon = true := by
        have := h2.1
        unfold loopingB at this
        simp at this
        exact this.1.2
      have h3 := hl hlon
      have m0 := Int.emod_nonneg (s.pos + n - s.lb) (b := s.lb - s.la) (by omega)
      have m1 := Int.emod_lt_of_pos (s.pos + n - s.lb) (b := s.lb - s.la) (by omega)
      exact ⟨by dsimp only; omega, by dsimp only; omega, hl⟩
    · exact ⟨by dsimp only; omega, by dsimp only; omega, hl⟩
theorem Okp.ord {s : St} {m : Int} (h : Okp s m) (h0 : 0 ≤ m) {x : Ord} (hx : Right x) : Okp (ordS s x) m := by
  obtain ⟨p0, p1, hl⟩ := h
  unfold Right at hx
  unfold ordS
  split
  · exact ⟨p0, p1, hl⟩
  split
  · exact ⟨p0, p1, hl⟩
  split
  · exact ⟨by dsimp only; omega, by dsimp only; omega, hl⟩
  split
  · exact ⟨p0, p1, fun _ => by dsimp only; omega⟩
  split
  · exact ⟨p0, p1, fun h => by simp at h⟩
  split
  · exact ⟨p0, p1, hl⟩
  · exact ⟨p0, p1, hl⟩
theorem now_bd {l : List Ord} (hg : GoodTo l l.length) {k : Nat} (hk : k ≤ l.length) : 0 ≤ nowK l k ∧ nowK l k ≤ 1099511627776 ∧ (k < l.length → nowK l k ≤ oT l k) := by
  cases k with
  | zero =>
    refine ⟨Int.le_refl _, by simp [nowK], fun h => ?_⟩
    have := hg.1 0 h
    exact this.1
  | succ k =>
    have h := hg.1 k (by omega)
    exact ⟨h.1, h.2.1, fun h' => hg.2 k h'⟩
theorem run_ok {l : List Ord} (hg : GoodTo l l.length) (k : Nat) (hk : k ≤ l.length) : Okp (runS l k) (nowK l k) := by
  induction k with
  | zero => exact ⟨Int.le_refl _, by simp [runS, s0, nowK], fun h => by simp [runS, s0] at h⟩
  | succ k ih =>
    have h := now_bd hg (k := k) (by omega)
    have a := (ih (by omega)).adv h.1 (n := oT l k - nowK l k) (by have := h.2.2 (by omega); omega)
    have b := a.ord (by have := h.2.2 (by omega); omega) (hg.1 k (by omega))
    show Okp (ordS _ _) (oT l k)
    rw [show nowK l k + (oT l k - nowK l k) = oT l k by omega] at b
    exact b

/-- The array of functions that carry orders out. -/
def actsC : Array Value := #[Value.nilFunc, .func (.func 29) #[] #[], .func (.func 30) #[] #[], .func (.func 31) #[] #[], .func (.func 32) #[] #[], .func (.func 33) #[] #[], .func (.func 34) #[] #[]]

theorem acts_t (w : World) : Calls Try.prog 21 #[] w fun e w' => e = .returned (.pointer (some ⟨w.heap.size, 0, none⟩)) ∧ w' = w.alloc (.cells actsC 62) := by
  go_enter Try.func21, Try.ntmps21
  go_wp2
  go_ret
  exact ⟨rfl, rfl⟩

theorem act_any {x : Ord} (hx : Right x) : ∃ (n f : Nat), x.kind = n ∧ n < 7 ∧ 0 < n ∧ actsC[n]? = some (.func (.func f) #[] #[]) ∧ (∀ args w, (callFunc f args).run Try.prog w = .ok (.enter f args) w) ∧
    ∀ (B : Nat) (s : St) (w : World), Blk w B 46 (stc s) → Calls Try.prog f #[.pointer (some ⟨B, 0, none⟩), .agg #[.int .i64 x.at_, .int .i64 x.kind, .int .i64 x.a, .int .i64 x.b]] w fun e w' => ∃ v, e = .returned v ∧ Blk w' B 46 (stc (ordS s x)) ∧ Keep (fun r => r = B) w w' := by
  have hk : x.kind = 1 ∨ x.kind = 2 ∨ x.kind = 3 ∨ x.kind = 4 ∨ x.kind = 5 ∨ x.kind = 6 := by unfold Right at hx; omega
  obtain ⟨t, k, a, b⟩ := x
  dsimp only at hk ⊢
  rcases hk with rfl | rfl | rfl | rfl | rfl | rfl
  · exact ⟨1, 29, rfl, by omega, by omega, rfl, enters_of Try.func29 (by kernel_rfl) rfl, fun B s w h => act1_t B s t 1 a b w h⟩
  · exact ⟨2, 30, rfl, by omega, by omega, rfl, enters_of Try.func30 (by kernel_rfl) rfl, fun B s w h => act2_t B s t 2 a b w h⟩
  · exact ⟨3, 31, rfl, by omega, by omega, rfl, enters_of Try.func31 (by kernel_rfl) rfl, fun B s w h => act3_t B s t 3 a b w h⟩
  · exact ⟨4, 32, rfl, by omega, by omega, rfl, enters_of Try.func32 (by kernel_rfl) rfl, fun B s w h => act4_t B s t 4 a b w h⟩
  · exact ⟨5, 33, rfl, by omega, by omega, rfl, enters_of Try.func33 (by kernel_rfl) rfl, fun B s w h => act5_t B s t 5 a b w h⟩
  · exact ⟨6, 34, rfl, by omega, by omega, rfl, enters_of Try.func34 (by kernel_rfl) rfl, fun B s w h => act6_t B s t 6 a b w h⟩
end Go.Proofs.Ytjkclplnflaplaa
