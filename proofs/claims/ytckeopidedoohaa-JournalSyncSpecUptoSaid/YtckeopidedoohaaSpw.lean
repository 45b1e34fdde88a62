/-
  A region that draws its order and whose last operations wait for all others: the first ones by the plain laws under one condition on the world, the last ones one by one. Conditions: no guards among the first ones; each waits for earlier ones alone.
-/
import Derived.Test.YtckeopidedoohaaJit
namespace Go.Proofs.Ytckeopidedoohaa
open Go.RowKit

/-- Each of the last t waits for each of the first k. -/
def waitsAll (ops : Array Oper) (k t : Nat) : Bool := (List.range t).all fun j => (List.range k).all fun i => ((ops[k + j]?).map fun o => o.after.any fun e => Region.binds .any e && e.on == i).getD false
/-- Each of the first k waits for earlier ones alone. -/
def waitsBack (ops : Array Oper) (k : Nat) : Bool := (List.range k).all fun i => ((ops[i]?).map fun o => o.after.all fun e => !Region.binds .any e || decide (e.on < i)).getD false
theorem waitsAll_spec {ops : Array Oper} {k t i j : Nat} (h : waitsAll ops k t = true) (hj : j < t) (hi : i < k) {o : Oper} (ho : ops[k + j]? = some o) : ∃ e ∈ o.after, Region.binds .any e = true ∧ e.on = i := by
  have h1 := List.all_eq_true.1 (List.all_eq_true.1 h j (List.mem_range.2 hj)) i (List.mem_range.2 hi)
  rw [ho] at h1
  simp only [Option.map_some, Option.getD_some, Array.any_eq_true, Bool.and_eq_true, beq_iff_eq] at h1
  obtain ⟨n, hn, h2, h3⟩ := h1
  exact ⟨_, Array.getElem_mem hn, h2, h3⟩
theorem waitsBack_spec {ops : Array Oper} {k i : Nat} (h : waitsBack ops k = true) (hi : i < k) : ∃ o, ops[i]? = some o ∧ ∀ e ∈ o.after, Region.binds .any e = true → e.on < i := by
  have h1 := List.all_eq_true.1 h i (List.mem_range.2 hi)
  cases ho : ops[i]? with
  | none => rw [ho] at h1; simp at h1
  | some o =>
    rw [ho] at h1
    refine ⟨o, rfl, fun e he hb => ?_⟩
    simp only [Option.map_some, Option.getD_some, Array.all_eq_true_iff_forall_mem] at h1
    have := h1 e he
    rw [hb] at this
    simpa using this
theorem full_low {l : List Bool} {t i : Nat} (d : Bool) (hi : i < l.length) : (full l t).getD i d = l.getD i d := by
  unfold full
  simp [List.getElem?_append_left hi, hi]
theorem arr_low {l : List Bool} {i : Nat} (d : Bool) : l.toArray.getD i d = l.getD i d := by simp
theorem least_false : ∀ (l : List Bool), false ∈ l → ∃ i, i < l.length ∧ l.getD i true = false ∧ ∀ j, j < i → l.getD j false = true
  | [], h => absurd h (by simp)
  | false :: l, _ => ⟨0, by simp, rfl, fun j hj => absurd hj (by omega)⟩
  | true :: l, h => by
    obtain ⟨i, h1, h2, h3⟩ := least_false l (by simpa using h)
    refine ⟨i + 1, by simpa using h1, by simpa using h2, fun j hj => ?_⟩
    cases j with
    | zero => rfl
    | succ j => simpa using h3 j (by omega)
theorem unlisted_set : ∀ (l : List Bool) (i : Nat), l.getD i true = false → unlisted (l.set i true) + 1 = unlisted l
  | [], i, h => by simp at h
  | b :: l, 0, h => by
    have hb : b = false := by simpa using h
    subst hb
    simp [unlisted]
  | b :: l, i + 1, h => by
    have := unlisted_set l i (by simpa using h)
    unfold unlisted at *
    cases b <;> simp at * <;> omega
theorem unlisted_mem {l : List Bool} {f : Nat} (h : unlisted l = f + 1) : false ∈ l := by
  unfold unlisted at h
  have : 0 < (l.filter (!·)).length := by omega
  obtain ⟨b, hb⟩ := List.exists_mem_of_length_pos this
  rw [List.mem_filter] at hb
  obtain ⟨h1, h2⟩ := hb
  cases b
  · exact h1
  · cases h2

theorem oper_swap {P : Program} {Q R : Exit → Act → World → Prop} {o : Oper} (hR : ¬ LetsOut R) (hp : ∀ c a w, R (.panic c) a w → Q (.panic c) a w) {a : Act} {w : World} {K : Act → World → Prop} (h : o.wp P a w K R) : o.wp P a w K Q := by
  unfold Oper.wp at *
  generalize hg : (execOp a.eval o).run P w = r at *
  cases r with
  | ok x w' =>
    cases x <;> simp only [Oper.upon] at h ⊢ <;> first | exact h | skip
    case enter f args =>
      refine h.mono fun e w'' he => ?_
      cases e with
      | returned v => exact he
      | panicked c => exact hp _ _ _ he
      | outgrown => exact (hR he).elim
  | halt x w' => cases x <;> simp only [Oper.upon] at h ⊢ <;> first | exact h | exact hp _ _ _ h

/-- What holds behind the first ones: the rest of the region is still to come. -/
def RestW (P : Program) (ops : Array Oper) (Q : Exit → Act → World → Prop) (k t : Nat) : Exit → Act → World → Prop
  | .normal, a, w => wpAny P .any ops Q t (full (List.replicate k true) t) a w
  | .panic c, a, w => Q (.panic c) a w
  | _, _, _ => False
theorem restW_shut {P : Program} {ops : Array Oper} {Q : Exit → Act → World → Prop} {k t : Nat} : ¬ LetsOut (RestW P ops Q k t) := fun ⟨_, _, h⟩ => h

theorem splitW_any {P : Program} {ops pre : Array Oper} {Q : Exit → Act → World → Prop} {S : World → Prop} (k t : Nat) (hwa : waitsAll ops k t = true) (hwb : waitsBack ops k = true) (hsz : ops.size = k + t) (hsame : ∀ i, i < k → ops[i]? = pre[i]?) (hpl : plainOps pre = true) :
    ∀ (f : Nat) (l : List Bool) (a : Act) (w : World), l.length = k → unlisted l = f → wpAnyH P .any pre (RestW P ops Q k t) S f l.toArray a w → wpAny P .any ops Q (f + t) (full l t) a w
  | 0, l, a, w, hl, hu, h => by
    have e := none_unlisted hu
    rw [hl] at e
    have := h.2
    rw [Nat.zero_add, e]
    exact this
  | f + 1, l, a, w, hl, hu, h => by
    obtain ⟨m, hm1, hm2, hm3⟩ := least_false l (unlisted_mem hu)
    rw [show f + 1 + t = (f + t) + 1 by omega]
    refine ⟨fun h0 => ?_, fun i hi => ?_⟩
    · exfalso
      obtain ⟨o, ho, hdep⟩ := waitsBack_spec hwb (show m < k by omega)
      have : m ∈ Region.ready .any ops (full l t) := mem_ready.2 ⟨by rw [full_low _ hm1]; exact hm2, o, ho, fun e he hb => by
        have := hdep e he hb
        rw [full_low _ (by omega)]
        exact hm3 _ this⟩
      rw [h0] at this
      cases this
    · obtain ⟨h0, o, ho, hdep⟩ := mem_ready.1 hi
      have hik : i < k := by
        rcases Nat.lt_or_ge i k with h' | h'
        · exact h'
        · exfalso
          have hlt : i < ops.size := (Array.getElem?_eq_some_iff.1 ho).1
          obtain ⟨e, he, hb, hon⟩ := waitsAll_spec (j := i - k) (i := m) hwa (by omega) (by omega) (show ops[k + (i - k)]? = some o by rw [show k + (i - k) = i by omega]; exact ho)
          have := hdep e he hb
          rw [hon, full_low _ hm1] at this
          rw [List.getD_eq_getElem?_getD, List.getElem?_eq_getElem hm1] at this hm2
          simp at this hm2
          rw [this] at hm2
          cases hm2
      have hpo : pre[i]? = some o := by rw [← hsame i hik]; exact ho
      have hir : i ∈ Region.ready .any pre l.toArray := mem_ready.2 ⟨by rw [arr_low]; rw [full_low _ (by omega)] at h0; exact h0, o, hpo, fun e he hb => by
        obtain ⟨o', ho', hd'⟩ := waitsBack_spec hwb hik
        rw [ho] at ho'
        obtain rfl : o = o' := by simpa using ho'
        have h1 := hd' e he hb
        have h2 := hdep e he hb
        rw [full_low _ (by omega)] at h2
        rw [arr_low]
        exact h2⟩
      have hw := h.2 i hir
      rw [full_set (by omega)]
      have hun : unlisted (l.set i true) = f := by
        have := unlisted_set l i (by rw [full_low _ (by omega)] at h0; exact h0)
        omega
      have hnext := fun a' w' (hh : S w' ∧ wpAnyH P .any pre (RestW P ops Q k t) S f (l.toArray.setIfInBounds i true) a' w') => splitW_any k t hwa hwb hsz hsame hpl f (l.set i true) a' w' (by simpa using hl) hun (by have := hh.2; rwa [List.setIfInBounds_toArray] at this)
      obtain ⟨hg, hd⟩ := plain_spec hpl hpo
      have w1 : ∀ y, Region.wanted o y = true := fun y => by unfold Region.wanted; rw [hg]
      unfold wpOp at hw ⊢
      rw [hpo] at hw
      rw [ho]
      simp only [w1, if_true] at hw ⊢
      exact .inl (Oper.wp_mono hnext (oper_swap restW_shut (fun c a w (h : Q (.panic c) a w) => h) (hw.resolve_right fun hx => restW_shut hx.2)))

/-- The region from its beginning. -/
theorem splitW_region {P : Program} {ops pre : Array Oper} {Q : Exit → Act → World → Prop} (S : World → Prop) (k t id : Nat) (hm : P.follows .mixedOrders = true) (hwa : waitsAll ops k t = true) (hwb : waitsBack ops k = true) (hsz : ops.size = k + t) (hsame : ∀ i, i < k → ops[i]? = pre[i]?) (hpl : plainOps pre = true)
    {a : Act} {w : World} (hS : S w.drew) (h : S w.drew → wpAnyH P .any pre (RestW P ops Q k t) S k (Array.replicate k false) a w.drew) : (Code.region id ops true).wp P Q a w := by
  refine wp_region_any hm ?_
  have hun : unlisted (List.replicate k false) = k := by
    unfold unlisted
    simp
  have := splitW_any k t hwa hwb hsz hsame hpl k (List.replicate k false) a w.drew (by simp) hun (by rw [List.toArray_replicate]; exact h hS)
  rw [hsz]
  have e : Array.replicate (k + t) false = full (List.replicate k false) t := by
    unfold full
    rw [List.replicate_append_replicate, List.toArray_replicate]
  rw [e]
  exact this

/-- One operation alone can come up. -/
theorem wpAny_one {P : Program} {ops : Array Oper} {Q : Exit → Act → World → Prop} {md : Region.Mode} {f i : Nat} {listed : Array Bool} {a : Act} {w : World} {o : Oper} (h1 : Region.ready md ops listed = [i]) (ho : ops[i]? = some o) (hg : o.guard = none)
    (h : ∀ K : Act → World → Prop, (∀ a w, wpAny P md ops Q f (listed.setIfInBounds i true) a w → K a w) → o.wp P a w K Q) : wpAny P md ops Q (f + 1) listed a w :=
  ⟨fun h0 => absurd (h1.symm.trans h0) (by simp), fun j hj => by
    obtain rfl := List.mem_singleton.1 (h1 ▸ hj)
    unfold wpOp
    rw [ho]
    have w1 : Region.wanted o (yielded ops a.tmps) = true := by unfold Region.wanted; rw [hg]
    simp only [w1, if_true]
    exact .inl (h _ fun a w h => h)⟩
end Go.Proofs.Ytckeopidedoohaa
