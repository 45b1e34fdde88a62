/-
  A region that draws its order and whose last operations come behind all others: the first ones by the plain laws, the last ones inside the fence. Conditions: found by running through all sets of operations that may have come up.
-/
import Derived.Test.YtckeopidedoohaaIter
import Derived.Deep.RegionHeld3
import Derived.OrdersIn
namespace Go.Proofs.Ytckeopidedoohaa
open Go.RowKit

/-- All sets of places below k. -/
def masks : Nat → List (List Bool)
  | 0 => [[]]
  | k + 1 => (masks k).map (List.cons true) ++ (masks k).map (List.cons false)
theorem masks_all (l : List Bool) : l ∈ masks l.length := by
  induction l with
  | nil => simp [masks]
  | cons b l ih =>
    simp only [List.length_cons, masks, List.mem_append, List.mem_map, List.cons.injEq]
    cases b
    · exact .inr ⟨l, ih, rfl, rfl⟩
    · exact .inl ⟨l, ih, rfl, rfl⟩
def unlisted (l : List Bool) : Nat := (l.filter (!·)).length
/-- Whatever has come up, what it waits for has come up. -/
def closedB (ops : Array Oper) (l : List Bool) : Bool :=
  (List.range l.length).all fun i => !(l.getD i false) || ((ops[i]?).map fun o => o.after.all fun e => !(Region.binds .any e) || l.getD e.on false).getD true
def full (l : List Bool) (t : Nat) : Array Bool := (l ++ List.replicate t false).toArray
def maskOk (ops pre : Array Oper) (t : Nat) (l : List Bool) : Bool :=
  !closedB pre l || unlisted l == 0 ||
    (Region.ready .any ops (full l t) == Region.ready .any pre l.toArray && !(Region.ready .any pre l.toArray).isEmpty &&
      (Region.ready .any pre l.toArray).all fun i => decide (i < l.length) && closedB pre (l.set i true) && unlisted (l.set i true) + 1 == unlisted l)
def splitOk (ops pre : Array Oper) (k t : Nat) : Bool := (masks k).all (maskOk ops pre t)

theorem operIn_wide {P : Program} {Q R : Exit → Act → World → Prop} (n : Nat) {o : Oper} (hd : ∀ c, o.op ≠ .defer c) (hR : ¬ LetsOut R) (hp : ∀ c a w, R (.panic c) a w → Q (.panic c) a w) {a : Act} {w : World} {K : Act → World → Prop} (h : o.wp P a w K R) :
    o.wpIn Fence.wide n P a w K Q := by
  unfold Oper.wpIn
  refine ⟨fun f _ => trivial, ?_⟩
  rw [Oper.semAt_eq _ _ _ hd]
  unfold Oper.wp at h
  generalize hg : (execOp a.eval o).run P w = r at *
  cases r with
  | ok x w' =>
    cases x <;> simp only [Oper.upon, Oper.uponIn] at h ⊢ <;> first | exact h | skip
    case enter f args =>
      refine ⟨fun hx => by simp [Fence.wide] at hx, callsIn_wide.2 (h.mono fun e w'' he => ?_)⟩
      cases e with
      | returned v => exact he
      | panicked c => exact hp _ _ _ he
      | outgrown => exact (hR he).elim
    case row row args => exact ⟨fun hx => by simp [Fence.wide] at hx, fun c cs _ => let ⟨v, w', r, s⟩ := h c cs; ⟨v, w', r, stepsIn_wide.2 s⟩⟩
  | halt x w' => cases x <;> simp only [Oper.upon, Oper.uponIn] at h ⊢ <;> first | exact h | exact hp _ _ _ h

/-- What holds behind the first ones: the rest of the region is still to come. -/
def Rest (n : Nat) (P : Program) (ops : Array Oper) (Q : Exit → Act → World → Prop) (k t : Nat) : Exit → Act → World → Prop
  | .normal, a, w => wpAnyIn Fence.wide n P .any ops Q t (full (List.replicate k true) t) a w
  | .panic c, a, w => Q (.panic c) a w
  | _, _, _ => False
theorem rest_shut {n : Nat} {P : Program} {ops : Array Oper} {Q : Exit → Act → World → Prop} {k t : Nat} : ¬ LetsOut (Rest n P ops Q k t) := fun ⟨_, _, h⟩ => h

theorem none_unlisted {l : List Bool} (h : unlisted l = 0) : l = List.replicate l.length true := by
  induction l with
  | nil => rfl
  | cons b l ih =>
    unfold unlisted at h ih
    cases b
    · simp at h
    · simp only [List.length_cons, List.replicate_succ]
      congr 1
      exact ih (by simpa using h)
theorem full_set {l : List Bool} {t i : Nat} (hi : i < l.length) : (full l t).setIfInBounds i true = full (l.set i true) t := by
  unfold full
  rw [List.setIfInBounds_toArray, List.set_append_left _ _ hi]

def plainOps (pre : Array Oper) : Bool := pre.toList.all fun o => o.guard.isNone && (match o.op with | .defer _ => false | _ => true)
theorem plain_spec {pre : Array Oper} (h : plainOps pre = true) {i : Nat} {o : Oper} (ho : pre[i]? = some o) : o.guard = none ∧ ∀ c, o.op ≠ .defer c := by
  have hm : o ∈ pre.toList := by
    obtain ⟨hi, he⟩ := Array.getElem?_eq_some_iff.1 ho
    rw [← he]
    simp
  have := List.all_eq_true.1 h o hm
  simp only [Bool.and_eq_true] at this
  refine ⟨by simpa using this.1, fun c hc => ?_⟩
  have h2 := this.2
  rw [hc] at h2
  cases h2

theorem split_any {P : Program} {ops pre : Array Oper} {Q : Exit → Act → World → Prop} {S : World → Prop} (n k t : Nat) (hok : splitOk ops pre k t = true) (hsame : ∀ i, i < k → ops[i]? = pre[i]?) (hpl : plainOps pre = true) :
    ∀ (f : Nat) (l : List Bool) (a : Act) (w : World), l.length = k → closedB pre l = true → unlisted l = f → wpAnyH P .any pre (Rest n P ops Q k t) S f l.toArray a w → wpAnyIn Fence.wide n P .any ops Q (f + t) (full l t) a w
  | 0, l, a, w, hl, hc, hu, h => by
    have e := none_unlisted hu
    rw [hl] at e
    have := h.2
    rw [Nat.zero_add, e]
    exact this
  | f + 1, l, a, w, hl, hc, hu, h => by
    have hm := List.all_eq_true.1 hok l (hl ▸ masks_all l)
    unfold maskOk at hm
    rw [hc, hu] at hm
    simp only [Bool.not_true, Bool.false_or, Bool.or_eq_true, beq_iff_eq, Nat.add_eq_zero_iff, Nat.one_ne_zero, and_false, false_or, Bool.and_eq_true, List.all_eq_true, decide_eq_true_eq] at hm
    obtain ⟨⟨h1, h2⟩, h3⟩ := hm
    rw [show f + 1 + t = (f + t) + 1 by omega]
    refine ⟨fun h0 => ?_, fun i hi => ?_⟩
    · rw [h1] at h0
      rw [h0] at h2
      simp at h2
    · rw [h1] at hi
      obtain ⟨⟨hik, hcl⟩, hun⟩ := h3 i hi
      have hw := h.2 i hi
      rw [full_set hik]
      have hnext := fun a' w' (hh : S w' ∧ wpAnyH P .any pre (Rest n P ops Q k t) S f (l.toArray.setIfInBounds i true) a' w') => split_any n k t hok hsame hpl f (l.set i true) a' w' (by simpa using hl) hcl (by omega) (by have := hh.2; rwa [List.setIfInBounds_toArray] at this)
      unfold wpOp at hw
      unfold wpOpIn
      rw [hsame i (by omega)]
      cases ho : pre[i]? with
      | none => rw [ho] at hw; exact hnext _ _ hw
      | some o =>
        rw [ho] at hw
        obtain ⟨hg, hd⟩ := plain_spec hpl ho
        have w1 : ∀ y, Region.wanted o y = true := fun y => by unfold Region.wanted; rw [hg]
        simp only [w1, if_true] at hw ⊢
        have hw2 := hw.resolve_right fun hx => rest_shut hx.2
        exact Oper.wpIn_mono hnext (operIn_wide (Q := Q) n hd rest_shut (fun c a w (h : Q (.panic c) a w) => h) hw2)

/-- The region from its beginning. -/
theorem split_region {P : Program} {ops pre : Array Oper} {Q : Exit → Act → World → Prop} (S : World → Prop) (n k t id : Nat) (hm : P.follows .mixedOrders = true) (hok : splitOk ops pre k t = true) (hsz : ops.size = k + t) (hpz : pre.size = k) (hsame : ∀ i, i < k → ops[i]? = pre[i]?) (hpl : plainOps pre = true) (hcl : closedB pre (List.replicate k false) = true) (hun : unlisted (List.replicate k false) = k)
    {a : Act} {w : World} (hS : S w.drew) (h : S w.drew → wpAnyH P .any pre (Rest n P ops Q k t) S k (Array.replicate k false) a w.drew) : (Code.region id ops true).wpIn Fence.wide n P Q a w := by
  refine wpIn_region_any hm ?_
  have := split_any n k t hok hsame hpl k (List.replicate k false) a w.drew (by simp) hcl hun (by rw [List.toArray_replicate]; exact h hS)
  rw [hsz]
  have e : Array.replicate (k + t) false = full (List.replicate k false) t := by
    unfold full
    rw [List.replicate_append_replicate, List.toArray_replicate]
  rw [e]
  exact this

theorem wpAnyIn_one {F : Fence} {n : Nat} {P : Program} {ops : Array Oper} {Q : Exit → Act → World → Prop} {md : Region.Mode} {f i : Nat} {listed : Array Bool} {a : Act} {w : World} (h1 : Region.ready md ops listed = [i])
    (h : wpOpIn F n P ops Q i (wpAnyIn F n P md ops Q f (listed.setIfInBounds i true)) a w) : wpAnyIn F n P md ops Q (f + 1) listed a w :=
  ⟨fun h0 => absurd (h1.symm.trans h0) (by simp), fun j hj => (List.mem_singleton.1 (h1 ▸ hj)) ▸ h⟩
theorem wpAnyIn_end {F : Fence} {n : Nat} {P : Program} {ops : Array Oper} {Q : Exit → Act → World → Prop} {md : Region.Mode} {listed : Array Bool} {a : Act} {w : World} (h1 : Region.ready md ops listed = []) (h : Q .normal a w) : wpAnyIn F n P md ops Q 0 listed a w := ⟨h1, h⟩
end Go.Proofs.Ytckeopidedoohaa
