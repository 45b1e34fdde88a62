/-
  A region that draws its order and whose last operations come behind all others, within any fence. Conditions: found by running through all sets of operations that may have come up.
-/
import Derived.Test.YtjkclplnflaplaaTail
import Derived.Test.YtjkclplnflaplaaHeld
namespace Go.Proofs.Ytjkclplnflaplaa
open Go.RowKit

/-- What holds behind the first ones: the rest of the region is still to come. -/
def RestF (F : Fence) (n : Nat) (P : Program) (ops : Array Oper) (Q : Exit → Act → World → Prop) (k t : Nat) : Exit → Act → World → Prop
  | .normal, a, w => wpAnyIn F n P .any ops Q t (full (List.replicate k true) t) a w
  | .panic c, a, w => Q (.panic c) a w
  | _, _, _ => False
theorem restF_shut {F : Fence} {n : Nat} {P : Program} {ops : Array Oper} {Q : Exit → Act → World → Prop} {k t : Nat} : ¬ LetsOut (RestF F n P ops Q k t) := fun ⟨_, _, h⟩ => h

theorem splitF_any {F : Fence} {P : Program} {ops pre : Array Oper} {Q : Exit → Act → World → Prop} {S : World → Prop} (n k t : Nat) (cv : ∀ (o : Oper) (a : Act) (w : World) (K : Act → World → Prop), (∀ c, o.op ≠ .defer c) → o.wp P a w K (RestF F n P ops Q k t) → o.wpIn F n P a w K Q) (hok : splitOk ops pre k t = true) (hsame : ∀ i, i < k → ops[i]? = pre[i]?) (hpl : plainOps pre = true) :
    ∀ (f : Nat) (l : List Bool) (a : Act) (w : World), l.length = k → closedB pre l = true → unlisted l = f → wpAnyH P .any pre (RestF F n P ops Q k t) S f l.toArray a w → wpAnyIn F n P .any ops Q (f + t) (full l t) a w
  | 0, l, a, w, hl, hc, hu, h => by
    have e := none_unlisted hu
    rw [hl] at e
    have := h.2
    rw [Nat.zero_add, e]
    exact this
  | f + 1, l, a, w, hl, hc, hu, h => by
    have hm := List.all_eq_true.1 hok l (hl ▸ masks_all l)
    unfold maskOk at hm
    rw [hc, hu] at hm
    simp only [Bool.not_true, Bool.false_or, Bool.or_eq_true, beq_iff_eq, Nat.add_eq_zero_iff, Nat.one_ne_zero, and_false, false_or, Bool.and_eq_true, List.all_eq_true, decide_eq_true_eq] at hm
    obtain ⟨⟨h1, h2⟩, h3⟩ := hm
    rw [show f + 1 + t = (f + t) + 1 by omega]
    refine ⟨fun h0 => ?_, fun i hi => ?_⟩
    · rw [h1] at h0
      rw [h0] at h2
      simp at h2
    · rw [h1] at hi
      obtain ⟨⟨hik, hcl⟩, hun⟩ := h3 i hi
      have hw := h.2 i hi
      rw [full_set hik]
      have hnext := fun a' w' (hh : S w' ∧ wpAnyH P .any pre (RestF F n P ops Q k t) S f (l.toArray.setIfInBounds i true) a' w') => splitF_any n k t cv hok hsame hpl f (l.set i true) a' w' (by simpa using hl) hcl (by omega) (by have := hh.2; rwa [List.setIfInBounds_toArray] at this)
      unfold wpOp at hw
      unfold wpOpIn
      rw [hsame i (by omega)]
      cases ho : pre[i]? with
      | none => rw [ho] at hw; exact hnext _ _ hw
      | some o =>
        rw [ho] at hw
        obtain ⟨hg, hd⟩ := plain_spec hpl ho
        have w1 : ∀ y, Region.wanted o y = true := fun y => by unfold Region.wanted; rw [hg]
        simp only [w1, if_true] at hw ⊢
        have hw2 := hw.resolve_right fun hx => restF_shut hx.2
        exact Oper.wpIn_mono hnext (cv o a w _ hd hw2)

/-- The region from its beginning. -/
theorem splitF_region {F : Fence} {P : Program} {ops pre : Array Oper} {Q : Exit → Act → World → Prop} (S : World → Prop) (n k t id : Nat) (cv : ∀ (o : Oper) (a : Act) (w : World) (K : Act → World → Prop), (∀ c, o.op ≠ .defer c) → o.wp P a w K (RestF F n P ops Q k t) → o.wpIn F n P a w K Q) (hm : P.follows .mixedOrders = true) (hok : splitOk ops pre k t = true) (hsz : ops.size = k + t) (hpz : pre.size = k) (hsame : ∀ i, i < k → ops[i]? = pre[i]?) (hpl : plainOps pre = true) (hcl : closedB pre (List.replicate k false) = true) (hun : unlisted (List.replicate k false) = k)
    {a : Act} {w : World} (hS : S w.drew) (h : S w.drew → wpAnyH P .any pre (RestF F n P ops Q k t) S k (Array.replicate k false) a w.drew) : (Code.region id ops true).wpIn F n P Q a w := by
  refine wpIn_region_any hm ?_
  have := splitF_any n k t cv hok hsame hpl k (List.replicate k false) a w.drew (by simp) hcl hun (by rw [List.toArray_replicate]; exact h hS)
  rw [hsz]
  have e : Array.replicate (k + t) false = full (List.replicate k false) t := by
    unfold full
    rw [List.replicate_append_replicate, List.toArray_replicate]
  rw [e]
  exact this

/-- In a round: an operation by the plain laws. -/
theorem operIn_round {P : Program} {Q R : Exit → Act → World → Prop} (l n : Nat) (hR : ¬ LetsOut R) (hp : ∀ c a w, R (.panic c) a w → Q (.panic c) a w) (o : Oper) (a : Act) (w : World) (K : Act → World → Prop) (hd : ∀ c, o.op ≠ .defer c) (h : o.wp P a w K R) :
    o.wpIn (Fence.wide.inRound l) n P a w K Q := by
  unfold Oper.wpIn
  refine ⟨fun f _ => trivial, ?_⟩
  rw [Oper.semAt_eq _ _ _ hd]
  unfold Oper.wp at h
  generalize hg : (execOp a.eval o).run P w = r at *
  cases r with
  | ok x w' =>
    cases x <;> simp only [Oper.upon, Oper.uponIn] at h ⊢ <;> first | exact h | skip
    case enter f args =>
      refine ⟨fun hx => by simp [Fence.wide] at hx, CallsIn.inRound l (callsIn_wide.2 (h.mono fun e w'' he => ?_))⟩
      cases e with
      | returned v => exact he
      | panicked c => exact hp _ _ _ he
      | outgrown => exact (hR he).elim
    case row row args => exact ⟨fun hx => by simp [Fence.wide] at hx, rowsIn_inRound h⟩
  | halt x w' => cases x <;> simp only [Oper.upon, Oper.uponIn] at h ⊢ <;> first | exact h | exact hp _ _ _ h
end Go.Proofs.Ytjkclplnflaplaa
