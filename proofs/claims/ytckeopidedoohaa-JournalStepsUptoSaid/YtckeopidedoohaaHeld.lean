/-
  A region that draws its order, in a round of a range over a function: the plain laws on such regions carried into the round. Conditions: the wide fence; no deferred call in the region.
-/
import Derived.Test.YtckeopidedoohaaIter
import Derived.Deep.RegionHeld3
import Derived.OrdersIn
namespace Go.Proofs.Ytckeopidedoohaa
open Go.RowKit

variable {P : Program} {ops : Array Oper} {Q : Exit → Act → World → Prop}

/-- No operation of the list defers a call. -/
def noDefer (ops : Array Oper) : Bool := ops.toList.all fun o => match o.op with | .defer _ => false | _ => true
theorem noDefer_spec (h : noDefer ops = true) {i : Nat} {o : Oper} (ho : ops[i]? = some o) : ∀ c, o.op ≠ .defer c := by
  intro c hc
  have hm : o ∈ ops.toList := by
    obtain ⟨hi, he⟩ := Array.getElem?_eq_some_iff.1 ho
    rw [← he]
    simp
  have := List.all_eq_true.1 h o hm
  rw [hc] at this
  cases this

theorem rowsIn_inRound {l m : Nat} {row : String} {args : Array Value} {w : World} {R : Value → World → Prop} (h : Rows P row args w R) : RowsIn (Fence.wide.inRound l) m P row args w R :=
  fun c cs _ => let ⟨v, w', r, s⟩ := h c cs; ⟨v, w', r, stepsIn_wide.2 s⟩

theorem operIn_of_oper (l n : Nat) {o : Oper} (hd : ∀ c, o.op ≠ .defer c) {a : Act} {w : World} {K : Act → World → Prop} (h : o.wp P a w K Q) :
    o.wpIn (Fence.wide.inRound l) n P a w K Q := by
  unfold Oper.wpIn
  refine ⟨fun f _ => trivial, ?_⟩
  rw [Oper.semAt_eq _ _ _ hd]
  unfold Oper.wp at h
  generalize hg : (execOp a.eval o).run P w = r at *
  cases r with
  | ok x w' =>
    cases x <;> simp only [Oper.upon, Oper.uponIn] at h ⊢ <;> first | exact h | skip
    case enter f args =>
      refine ⟨fun hx => by simp [Fence.wide] at hx, CallsIn.inRound l ((callsIn_wide.2 h).mono fun e w'' he => ?_)⟩
      cases e <;> exact he
    case row row args => exact ⟨fun hx => by simp [Fence.wide] at hx, rowsIn_inRound h⟩
  | halt x w' => cases x <;> simp only [Oper.upon, Oper.uponIn] at h ⊢ <;> exact h

theorem wpOpIn_of_wpOp (l n : Nat) (hnd : noDefer ops = true) (hQ : ¬ LetsOut Q) {i : Nat} {K : Act → World → Prop} {a : Act} {w : World} (h : wpOp P ops Q i K a w) :
    wpOpIn (Fence.wide.inRound l) n P ops Q i K a w := by
  unfold wpOp at h
  unfold wpOpIn
  cases ho : ops[i]? with
  | none => simpa [ho] using h
  | some o =>
    simp only [ho] at h ⊢
    split
    · rename_i hw
      simp only [hw, if_true] at h
      exact operIn_of_oper l n (noDefer_spec hnd ho) (h.resolve_right fun hx => hQ hx.2)
    · rename_i hw
      simp only [hw] at h
      exact ⟨fun f _ => trivial, h⟩

theorem wpAnyIn_of_held (l n : Nat) (hnd : noDefer ops = true) (hQ : ¬ LetsOut Q) {md : Region.Mode} {S : World → Prop} : ∀ (fuel : Nat) (listed : Array Bool) (a : Act) (w : World),
    wpAnyH P md ops Q S fuel listed a w → wpAnyIn (Fence.wide.inRound l) n P md ops Q fuel listed a w
  | 0, _, _, _, h => h
  | fuel + 1, _, _, _, h => ⟨h.1, fun i hi => wpOpIn_of_wpOp l n hnd hQ (wpOp_mono (fun a' w' h' => wpAnyIn_of_held l n hnd hQ fuel _ a' w' h'.2) (h.2 i hi))⟩

/-- The region of a round, by the plain laws: one condition 'S' on the world for the whole region. -/
theorem wpIn_region_heldR (S : World → Prop) {l n id : Nat} {a : Act} {w : World} (hm : P.follows .mixedOrders = true) (hnd : noDefer ops = true) (hQ : ¬ LetsOut Q) (hS : S w.drew)
    (h : S w.drew → wpAnyH P .any ops Q S ops.size (Array.replicate ops.size false) a w.drew) : (Code.region id ops true).wpIn (Fence.wide.inRound l) n P Q a w :=
  wpIn_region_any hm (wpAnyIn_of_held l n hnd hQ _ _ _ _ (h hS))
end Go.Proofs.Ytckeopidedoohaa
