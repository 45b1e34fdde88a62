/-
  A region that draws its order and whose last operations wait for all others: the first ones by the plain laws under one condition on the world, the last ones one by one. Conditions: no guards among the first ones; each waits for earlier ones alone. | Sync of the reference. Conditions: the disk lies as plain data.
-/
import Derived.Test.YtckeopidedoohaaJit
import Derived.Test.YtckeopidedoohaaDsy
import Derived.Test.YtckeopidedoohaaDop
import Derived.Test.YtckeopidedoohaaDbx
import Derived.Test.YtckeopidedoohaaDrw
import Derived.Test.YtckeopidedoohaaApw
import Derived.BigRegion
import Derived.Deep.RegionHeld3
import Derived.Deep.DeepCutAuto
namespace Go.Proofs.Ytckeopidedoohaa
open Go.RowKit

/-- Each of the last t waits for each of the first k. -/
def waitsAll (ops : Array Oper) (k t : Nat) : Bool := (List.range t).all fun j => (List.range k).all fun i => ((ops[k + j]?).map fun o => o.after.any fun e => Region.binds .any e && e.on == i).getD false
/-- Each of the first k waits for earlier ones alone. -/
def waitsBack (ops : Array Oper) (k : Nat) : Bool := (List.range k).all fun i => ((ops[i]?).map fun o => o.after.all fun e => !Region.binds .any e || decide (e.on < i)).getD false
theorem waitsAll_spec {ops : Array Oper} {k t i j : Nat} (h : waitsAll ops k t = true) (hj : j < t) (hi : i < k) {o : Oper} (ho : ops[k + j]? = some o) : ∃ e ∈ o.after, Region.binds .any e = true ∧ e.on = i := by
  have h1 := List.all_eq_true.1 (List.all_eq_true.1 h j (List.mem_range.2 hj)) i (List.mem_range.2 hi)
  rw [ho] at h1
  simp only [Option.map_some, Option.getD_some, Array.any_eq_true, Bool.and_eq_true, beq_iff_eq] at h1
  obtain ⟨n, hn, h2, h3⟩ := h1
  exact ⟨_, Array.getElem_mem hn, h2, h3⟩
theorem waitsBack_spec {ops : Array Oper} {k i : Nat} (h : waitsBack ops k = true) (hi : i < k) : ∃ o, ops[i]? = some o ∧ ∀ e ∈ o.after, Region.binds .any e = true → e.on < i := by
  have h1 := List.all_eq_true.1 h i (List.mem_range.2 hi)
  cases ho : ops[i]? with
  | none => rw [ho] at h1; simp at h1
  | some o =>
    rw [ho] at h1
    refine ⟨o, rfl, fun e he hb => ?_⟩
    simp only [Option.map_some, Option.getD_some, Array.all_eq_true_iff_forall_mem] at h1
    have := h1 e he
    rw [hb] at this
    simpa using this
theorem full_low {l : List Bool} {t i : Nat} (d : Bool) (hi : i < l.length) : (full l t).getD i d = l.getD i d := by
  unfold full
  simp [List.getElem?_append_left hi, hi]
theorem arr_low {l : List Bool} {i : Nat} (d : Bool) : l.toArray.getD i d = l.getD i d := by simp
theorem least_false : ∀ (l : List Bool), false ∈ l → ∃ i, i < l.length ∧ l.getD i true = false ∧ ∀ j, j < i → l.getD j false = true
  | [], h => absurd h (by simp)
  | false :: l, _ => ⟨0, by simp, rfl, fun j hj => absurd hj (by omega)⟩
  | true :: l, h => by
    obtain ⟨i, h1, h2, h3⟩ := least_false l (by simpa using h)
    refine ⟨i + 1, by simpa using h1, by simpa using h2, fun j hj => ?_⟩
    cases j with
    | zero => rfl
    | succ j => simpa using h3 j (by omega)
theorem unlisted_set : ∀ (l : List Bool) (i : Nat), l.getD i true = false → unlisted (l.set i true) + 1 = unlisted l
  | [], i, h => by simp at h
  | b :: l, 0, h => by
    have hb : b = false := by simpa using h
    subst hb
    simp [unlisted]
  | b :: l, i + 1, h => by
    have := unlisted_set l i (by simpa using h)
    unfold unlisted at *
    cases b <;> simp at * <;> omega
theorem unlisted_mem {l : List Bool} {f : Nat} (h : unlisted l = f + 1) : false ∈ l := by
  unfold unlisted at h
  have : 0 < (l.filter (!·)).length := by omega
  obtain ⟨b, hb⟩ := List.exists_mem_of_length_pos this
  rw [List.mem_filter] at hb
  obtain ⟨h1, h2⟩ := hb
  cases b
  · exact h1
  · cases h2

theorem oper_swap {P : Program} {Q R : Exit → Act → World → Prop} {o : Oper} (hR : ¬ LetsOut R) (hp : ∀ c a w, R (.panic c) a w → Q (.panic c) a w) {a : Act} {w : World} {K : Act → World → Prop} (h : o.wp P a w K R) : o.wp P a w K Q := by
  unfold Oper.wp at *
  generalize hg : (execOp a.eval o).run P w = r at *
  cases r with
  | ok x w' =>
    cases x <;> simp only [Oper.upon] at h ⊢ <;> first | exact h | skip
    case enter f args =>
      refine h.mono fun e w'' he => ?_
      cases e with
      | returned v => exact he
      | panicked c => exact hp _ _ _ he
      | outgrown => exact (hR he).elim
  | halt x w' => cases x <;> simp only [Oper.upon] at h ⊢ <;> first | exact h | exact hp _ _ _ h

/-- What holds behind the first ones: the rest of the region is still to come. -/
def RestW (P : Program) (ops : Array Oper) (Q : Exit → Act → World → Prop) (k t : Nat) : Exit → Act → World → Prop
  | .normal, a, w => wpAny P .any ops Q t (full (List.replicate k true) t) a w
  | .panic c, a, w => Q (.panic c) a w
  | _, _, _ => False
theorem restW_shut {P : Program} {ops : Array Oper} {Q : Exit → Act → World → Prop} {k t : Nat} : ¬ LetsOut (RestW P ops Q k t) := fun ⟨_, _, h⟩ => h

theorem splitW_any {P : Program} {ops pre : Array Oper} {Q : Exit → Act → World → Prop} {S : World → Prop} (k t : Nat) (hwa : waitsAll ops k t = true) (hwb : waitsBack ops k = true) (hsz : ops.size = k + t) (hsame : ∀ i, i < k → ops[i]? = pre[i]?) (hpl : plainOps pre = true) :
    ∀ (f : Nat) (l : List Bool) (a : Act) (w : World), l.length = k → unlisted l = f → wpAnyH P .any pre (RestW P ops Q k t) S f l.toArray a w → wpAny P .any ops Q (f + t) (full l t) a w
  | 0, l, a, w, hl, hu, h => by
    have e := none_unlisted hu
    rw [hl] at e
    have := h.2
    rw [Nat.zero_add, e]
    exact this
  | f + 1, l, a, w, hl, hu, h => by
    obtain ⟨m, hm1, hm2, hm3⟩ := least_false l (unlisted_mem hu)
    rw [show f + 1 + t = (f + t) + 1 by omega]
    refine ⟨fun h0 => ?_, fun i hi => ?_⟩
    · exfalso
      obtain ⟨o, ho, hdep⟩ := waitsBack_spec hwb (show m < k by omega)
      have : m ∈ Region.ready .any ops (full l t) := mem_ready.2 ⟨by rw [full_low _ hm1]; exact hm2, o, ho, fun e he hb => by
        have := hdep e he hb
        rw [full_low _ (by omega)]
        exact hm3 _ this⟩
      rw [h0] at this
      cases this
    · obtain ⟨h0, o, ho, hdep⟩ := mem_ready.1 hi
      have hik : i < k := by
        rcases Nat.lt_or_ge i k with h' | h'
        · exact h'
        · exfalso
          have hlt : i < ops.size := (Array.getElem?_eq_some_iff.1 ho).1
          obtain ⟨e, he, hb, hon⟩ := waitsAll_spec (j := i - k) (i := m) hwa (by omega) (by omega) (show ops[k + (i - k)]? = some o by rw [show k + (i - k) = i by omega]; exact ho)
          have := hdep e he hb
          rw [hon, full_low _ hm1] at this
          rw [List.getD_eq_getElem?_getD, List.getElem?_eq_getElem hm1] at this hm2
          simp at this hm2
          rw [this] at hm2
          cases hm2
      have hpo : pre[i]? = some o := by rw [← hsame i hik]; exact ho
      have hir : i ∈ Region.ready .any pre l.toArray := mem_ready.2 ⟨by rw [arr_low]; rw [full_low _ (by omega)] at h0; exact h0, o, hpo, fun e he hb => by
        obtain ⟨o', ho', hd'⟩ := waitsBack_spec hwb hik
        rw [ho] at ho'
        obtain rfl : o = o' := by simpa using ho'
        have h1 := hd' e he hb
        have h2 := hdep e he hb
        rw [full_low _ (by omega)] at h2
        rw [arr_low]
        exact h2⟩
      have hw := h.2 i hir
      rw [full_set (by omega)]
      have hun : unlisted (l.set i true) = f := by
        have := unlisted_set l i (by rw [full_low _ (by omega)] at h0; exact h0)
        omega
      have hnext := fun a' w' (hh : S w' ∧ wpAnyH P .any pre (RestW P ops Q k t) S f (l.toArray.setIfInBounds i true) a' w') => splitW_any k t hwa hwb hsz hsame hpl f (l.set i true) a' w' (by simpa using hl) hun (by have := hh.2; rwa [List.setIfInBounds_toArray] at this)
      obtain ⟨hg, hd⟩ := plain_spec hpl hpo
      have w1 : ∀ y, Region.wanted o y = true := fun y => by unfold Region.wanted; rw [hg]
      unfold wpOp at hw ⊢
      rw [hpo] at hw
      rw [ho]
      simp only [w1, if_true] at hw ⊢
      exact .inl (Oper.wp_mono hnext (oper_swap restW_shut (fun c a w (h : Q (.panic c) a w) => h) (hw.resolve_right fun hx => restW_shut hx.2)))

/-- The region from its beginning. -/
theorem splitW_region {P : Program} {ops pre : Array Oper} {Q : Exit → Act → World → Prop} (S : World → Prop) (k t id : Nat) (hm : P.follows .mixedOrders = true) (hwa : waitsAll ops k t = true) (hwb : waitsBack ops k = true) (hsz : ops.size = k + t) (hsame : ∀ i, i < k → ops[i]? = pre[i]?) (hpl : plainOps pre = true)
    {a : Act} {w : World} (hS : S w.drew) (h : S w.drew → wpAnyH P .any pre (RestW P ops Q k t) S k (Array.replicate k false) a w.drew) : (Code.region id ops true).wp P Q a w := by
  refine wp_region_any hm ?_
  have hun : unlisted (List.replicate k false) = k := by
    unfold unlisted
    simp
  have := splitW_any k t hwa hwb hsz hsame hpl k (List.replicate k false) a w.drew (by simp) hun (by rw [List.toArray_replicate]; exact h hS)
  rw [hsz]
  have e : Array.replicate (k + t) false = full (List.replicate k false) t := by
    unfold full
    rw [List.replicate_append_replicate, List.toArray_replicate]
  rw [e]
  exact this

/-- One operation alone can come up. -/
theorem wpAny_one {P : Program} {ops : Array Oper} {Q : Exit → Act → World → Prop} {md : Region.Mode} {f i : Nat} {listed : Array Bool} {a : Act} {w : World} {o : Oper} (h1 : Region.ready md ops listed = [i]) (ho : ops[i]? = some o) (hg : o.guard = none)
    (h : ∀ K : Act → World → Prop, (∀ a w, wpAny P md ops Q f (listed.setIfInBounds i true) a w → K a w) → o.wp P a w K Q) : wpAny P md ops Q (f + 1) listed a w :=
  ⟨fun h0 => absurd (h1.symm.trans h0) (by simp), fun j hj => by
    obtain rfl := List.mem_singleton.1 (h1 ▸ hj)
    unfold wpOp
    rw [ho]
    have w1 : Region.wanted o (yielded ops a.tmps) = true := by unfold Region.wanted; rw [hg]
    simp only [w1, if_true]
    exact .inl (h _ fun a w h => h)⟩
end Go.Proofs.Ytckeopidedoohaa

namespace Go.Proofs.Ytckeopidedoohaa
open Go.RowKit
variable {n₀ : Nat}
attribute [local go_sem] Oper.semAt_some

theorem ow_belowR {w w' : World} {base : Nat} {e : TypeId} {size : Nat} {v : Value} {n : Nat} {xs : List Value} (h : w.ownsRow base e size v n xs) (hb : Below w.heap.size w w') : w'.ownsRow base e size v n xs :=
  own_keep h (Keep.of_same hb (fun _ => False)) (fun _ _ h => h)

/-- The box of the new disk, its sectors a row of the call's own. -/
def RsB (n₀ : Nat) (w0 w : World) (base n : Nat) (lf : Int) (rs : List Bs) (B : Nat) (V : Option Addr) (cp : Nat) : Prop := Blk w B 25 #[.slice V n cp, .slice none 0 0, .int .i64 lf, .bool false] ∧ n ≤ cp ∧ ∃ vs : List Value, Rws n₀ w0 vs rs ∧ w.ownsRow base 35 1 (.slice V n cp) n vs
theorem grow_blk {w w' : World} {B : Nat} {t : TypeId} {cs : Array Value} {row : Option Nat} (h : Blk w B t cs) (hg : w.grownBy w' row) (hne : some B ≠ row) : Blk w' B t cs := (hg.block B h.lt hne).trans h
theorem own_is {w : World} {base : Nat} {e : TypeId} {size g n c : Nat} {xs : List Value} (h : w.ownsRow base e size (.slice (some ⟨g, 0, none⟩) n c) n xs) : ∃ cs, Blk w g e cs := by
  rcases h.2 with ⟨h1, _⟩ | ⟨g', cap, cur, hv, _, hh, _⟩
  · cases h1
  · injection hv with e1 _ _
    injection e1 with e1
    injection e1 with e1 _ _
    subst e1
    exact ⟨cur, hh⟩
theorem own_apart {w : World} {base : Nat} {e t : TypeId} {size n : Nat} {v : Value} {xs : List Value} {B : Nat} {cs : Array Value} (h : w.ownsRow base e size v n xs) (hB : Blk w B t cs) (hne : e ≠ t) : v.ownBlock ≠ some B := fun hb => by
  rcases h.2 with ⟨rfl, _⟩ | ⟨g, cap, cur, rfl, _, hh, _⟩
  · cases hb
  · simp [Value.ownBlock] at hb
    subst hb
    exact absurd rfl (Blk.ne (show Blk w g e cur from hh) hB hne)
/-- The box stored into, the row kept. -/
theorem rsb_put {w : World} {w0 : World} {base n : Nat} {rs : List Bs} {B : Nat} {V : Option Addr} {cp : Nat} {c0 c1 c2 c3 : Value} {lf : Int} {vs : List Value} (hx : Blk w B 25 #[c0, c1, c2, c3]) (hc : n ≤ cp) (hR : Rws n₀ w0 vs rs) (hown : w.ownsRow base 35 1 (.slice V n cp) n vs) :
    RsB n₀ w0 ((((w.setCell ⟨B, 0, none⟩ (.slice V n cp)).setCell ⟨B, 1, none⟩ (.slice none 0 0)).setCell ⟨B, 2, none⟩ (.int .i64 lf)).setCell ⟨B, 3, none⟩ (.bool false)) base n lf rs B V cp := by
  refine ⟨(((hx.set 0 _).set 1 _).set 2 _).set 3 _, hc, vs, hR, ?_⟩
  have h0 := own_apart hown hx (by decide)
  exact ownsRow_setCell_other (ownsRow_setCell_other (ownsRow_setCell_other (ownsRow_setCell_other hown (a := ⟨B, 0, none⟩) h0 _) (a := ⟨B, 1, none⟩) h0 _) (a := ⟨B, 2, none⟩) h0 _) (a := ⟨B, 3, none⟩) h0 _
theorem rsb_new {w : World} {w0 : World} {base n : Nat} {rs : List Bs} {V : Option Addr} {cp : Nat} {lf : Int} {vs : List Value} (hc : n ≤ cp) (hR : Rws n₀ w0 vs rs) (hown : w.ownsRow base 35 1 (.slice V n cp) n vs) :
    RsB n₀ w0 (w.alloc (.cells #[.slice V n cp, .slice none 0 0, .int .i64 lf, .bool false] 25)) base n lf rs w.heap.size V cp := ⟨Blk.new w 25 _, hc, vs, hR, hown.alloc _⟩
theorem bs_src_drop {w w' : World} {b o : Nat} {bs : Bs} (h : BsAt n₀ w (some ⟨b, o, none⟩) bs) (hb : Below w.heap.size w w') (k : Nat) (h0 : k < bs.length) : ∀ j u, (bcells (bs.drop k))[j]? = some u → w'.cell? ((⟨b, o + k, none⟩ : Addr).add j) = some u := fun j u hu => by
  obtain ⟨ad, e, hc⟩ := bs_src h hb (by omega)
  cases e
  have h1 := hc (k + j) u (by unfold bcells at hu ⊢; rw [List.map_drop, List.getElem?_drop] at hu; exact hu)
  have e1 : ∀ x y : Nat, (⟨b, x, none⟩ : Addr).add y = ⟨b, x + y, none⟩ := fun x y => by
    unfold Addr.add
    split
    · rename_i h2; subst h2; rfl
    · rfl
  rw [e1] at h1 ⊢
  rw [Nat.add_assoc]
  exact h1
/-- What a sync leaves that tore a write. -/
theorem torn2_end {w W : World} {rs : List Bs} {tb : Bs} {vs : List Value} {c n gr gT cT base base2 k : Nat} (hn : n = rs.length) (hc : n ≤ c) (hR : Rws n₀ w vs rs) (hown : W.ownsRow base 35 1 (.slice (some ⟨gr, 0, none⟩) n c) n (vs.set k (.slice (some ⟨gT, 0, none⟩) 128 cT))) (ht : W.ownsRow base2 5 1 (.slice (some ⟨gT, 0, none⟩) 128 cT) 128 (bcells tb)) (htl : tb.length = 128) (hcT : 128 ≤ cT) (hW : Below w.heap.size w W) :
    DkIs n₀ w (⟨rs.set k tb, [], 0, true⟩, 40) (.returned (.tuple #[.agg #[.slice (some ⟨gr, 0, none⟩) n c, .slice none 0 0, .int .i64 0, .bool true], .int .i64 40])) W := by
  subst hn
  exact ⟨_, rfl, ⟨_, c, none, 0, by rw [List.length_set]; rfl, by rw [List.length_set]; exact hc, Nat.le_refl _, ⟨_, (hR.below hW).set k ⟨_, cT, by rw [htl], by rw [htl]; exact hcT, own_BsAt ht htl.symm⟩, own_ValsAt hown (by rw [List.length_set]; exact hR.1.symm)⟩, WrsAt.nil _ _⟩, hW⟩
/-- What a sync leaves, from its own row. -/
theorem rsb_end {w W : World} {rs : List Bs} {vs : List Value} {V : Option Addr} {c n base : Nat} {lf : Int} {st : Bool} {e : Int} (hn : n = rs.length) (hc : n ≤ c) (hR : Rws n₀ w vs rs) (hown : W.ownsRow base 35 1 (.slice V n c) n vs) (hW : Below w.heap.size w W) :
    DkIs n₀ w (⟨rs, [], lf, st⟩, e) (.returned (.tuple #[.agg #[.slice V n c, .slice none 0 0, .int .i64 lf, .bool st], .int .i64 e])) W := by
  subst hn
  exact ⟨_, rfl, ⟨V, c, none, 0, rfl, hc, Nat.le_refl _, ⟨vs, hR.below hW, own_ValsAt hown hR.1.symm⟩, WrsAt.nil _ _⟩, hW⟩

set_option maxRecDepth 20000 in
set_option maxHeartbeats 8000000 in
theorem rsync_t (SA PA : Option Addr) (sc pc : Nat) (d : Dk) (w : World) (hl1 : d.secs.length ≤ 140737488355328) (hl2 : d.pend.length ≤ 140737488355328) (r0 : RowsAt n₀ w SA d.secs) (q0 : WrsAt n₀ w PA d.pend) :
    Calls Try.prog 37 #[.agg #[.slice SA d.secs.length sc, .slice PA d.pend.length pc, .int .i64 d.left, .bool d.stop]] w (DkIs n₀ w (gSync d)) := by
  obtain ⟨gc, hgc⟩ : ∃ r, r = gChk d := ⟨_, rfl⟩
  have HGC := Lib.hid hgc
  by_cases k4 : gc = 0
  case neg =>
    have E := Lib.hid (gSync_no (d := d) (fun h => k4 (by rw [hgc, chk_yes h.1])))
    have dk4 : (gc != 0) = true := bne_iff_ne.2 k4
    clear hgc k4
    go_enter Try.func37, Try.ntmps37
    go_wp2_with (fail)
    obtain ⟨W1, hW1⟩ : ∃ W, W = (w.alloc (.cells #[.slice SA d.secs.length sc, .slice PA d.pend.length pc, .int .i64 d.left, .bool d.stop] 25)).alloc (.cells #[.slice none 0 0, .slice none 0 0, .int .i64 0, .bool false] 25) := ⟨_, rfl⟩
    rw [← hW1]
    have hb : Below w.heap.size w W1 := by rw [hW1]; exact ((Below.refl _ _).alloc (Nat.le_refl _) _).alloc (by simp) _
    have x1 : Blk W1 w.heap.size 25 #[.slice SA d.secs.length sc, .slice PA d.pend.length pc, .int .i64 d.left, .bool d.stop] := by rw [hW1]; exact (Blk.new w 25 _).alloc _
    have x2 : Blk W1 (w.heap.size + 1) 25 #[.slice none 0 0, .slice none 0 0, .int .i64 0, .bool false] := by rw [hW1]; exact Blk.newAt (by simp) 25 _
    clear hW1
    replace r0 := r0.below hb
    replace q0 := q0.below hb
    have hw := hb
    clear hb
    have K : Calls Try.prog 29 #[.agg #[.slice SA d.secs.length sc, .slice PA d.pend.length pc, .int .i64 d.left, .bool d.stop]] W1 (fun e w' => e = .returned (.int .i64 gc) ∧ Below W1.heap.size W1 w') := by rw [HGC.out]; exact rcheck_t SA PA sc pc d W1 hl1 hl2 r0 q0
    go_at_call 29
    refine K.mono ?_
    rintro e1 w1 ⟨rfl, hb⟩
    clear K
    replace r0 := r0.below hb
    replace q0 := q0.below hb
    replace x1 := x1.below hb x1.lt
    replace x2 := x2.below hb x2.lt
    replace hw := hw.trans (hb.mono hw.size)
    clear hb
    have x1c0 := x1.cell 0
    have x1c1 := x1.cell 1
    have x1c2 := x1.cell 2
    have x1c3 := x1.cell 3
    simp only [List.getElem?_toArray, List.getElem?_cons_zero, List.getElem?_cons_succ] at x1c0 x1c1 x1c2 x1c3
    have x1l := x1.lt
    have x2c0 := x2.cell 0
    have x2f0 := x2.frozen 0
    have x2c1 := x2.cell 1
    have x2f1 := x2.frozen 1
    have x2c2 := x2.cell 2
    have x2f2 := x2.frozen 2
    have x2c3 := x2.cell 3
    have x2f3 := x2.frozen 3
    simp only [List.getElem?_toArray, List.getElem?_cons_zero, List.getElem?_cons_succ] at x2c0 x2c1 x2c2 x2c3
    have x2l := x2.lt
    go_wp2
    refine bodyPost_ret (v := .tuple #[.agg #[.slice none 0 0, .slice none 0 0, .int .i64 0, .bool false], .int .i64 40]) (by simp [results, Try.results37, go_sem, x2c0, x2c1, x2c2, x2c3]) rfl ?_
    rw [E.out]
    exact dk_end (fun W BB => dk0V W) (by repeat (first | refine Below.setCell ?_ (by simp <;> omega) _ | exact hw))
  subst k4
  by_cases k5 : d.stop = true
  case pos =>
    have E := Lib.hid (gSync_no (d := d) (runs_no2 k5))
    have K5 := Lib.hid k5
    clear hgc k5
    go_enter Try.func37, Try.ntmps37
    go_wp2_with (fail)
    obtain ⟨W1, hW1⟩ : ∃ W, W = (w.alloc (.cells #[.slice SA d.secs.length sc, .slice PA d.pend.length pc, .int .i64 d.left, .bool d.stop] 25)).alloc (.cells #[.slice none 0 0, .slice none 0 0, .int .i64 0, .bool false] 25) := ⟨_, rfl⟩
    rw [← hW1]
    have hb : Below w.heap.size w W1 := by rw [hW1]; exact ((Below.refl _ _).alloc (Nat.le_refl _) _).alloc (by simp) _
    have x1 : Blk W1 w.heap.size 25 #[.slice SA d.secs.length sc, .slice PA d.pend.length pc, .int .i64 d.left, .bool d.stop] := by rw [hW1]; exact (Blk.new w 25 _).alloc _
    have x2 : Blk W1 (w.heap.size + 1) 25 #[.slice none 0 0, .slice none 0 0, .int .i64 0, .bool false] := by rw [hW1]; exact Blk.newAt (by simp) 25 _
    clear hW1
    replace r0 := r0.below hb
    replace q0 := q0.below hb
    have hw := hb
    clear hb
    have K : Calls Try.prog 29 #[.agg #[.slice SA d.secs.length sc, .slice PA d.pend.length pc, .int .i64 d.left, .bool d.stop]] W1 (fun e w' => e = .returned (.int .i64 0) ∧ Below W1.heap.size W1 w') := by rw [HGC.out]; exact rcheck_t SA PA sc pc d W1 hl1 hl2 r0 q0
    go_at_call 29
    refine K.mono ?_
    rintro e1 w1 ⟨rfl, hb⟩
    clear K
    replace r0 := r0.below hb
    replace q0 := q0.below hb
    replace x1 := x1.below hb x1.lt
    replace x2 := x2.below hb x2.lt
    replace hw := hw.trans (hb.mono hw.size)
    clear hb
    have x1c0 := x1.cell 0
    have x1c1 := x1.cell 1
    have x1c2 := x1.cell 2
    have x1c3 := x1.cell 3
    simp only [List.getElem?_toArray, List.getElem?_cons_zero, List.getElem?_cons_succ] at x1c0 x1c1 x1c2 x1c3
    have x1l := x1.lt
    have x2c0 := x2.cell 0
    have x2f0 := x2.frozen 0
    have x2c1 := x2.cell 1
    have x2f1 := x2.frozen 1
    have x2c2 := x2.cell 2
    have x2f2 := x2.frozen 2
    have x2c3 := x2.cell 3
    have x2f3 := x2.frozen 3
    simp only [List.getElem?_toArray, List.getElem?_cons_zero, List.getElem?_cons_succ] at x2c0 x2c1 x2c2 x2c3
    have x2l := x2.lt
    rw [K5.out] at x1c3
    go_wp2
    refine bodyPost_ret (v := .tuple #[.agg #[.slice none 0 0, .slice none 0 0, .int .i64 0, .bool false], .int .i64 40]) (by simp [results, Try.results37, go_sem, x2c0, x2c1, x2c2, x2c3]) rfl ?_
    rw [E.out]
    exact dk_end (fun W BB => dk0V W) (by repeat (first | refine Below.setCell ?_ (by simp <;> omega) _ | exact hw))
  have k6 : d.stop = false := by simpa using k5
  have hr : Runs d := runs_yes hgc.symm k6
  have K6 := Lib.hid k6
  clear k5 hgc k6
  have hpl : d.pend.length ≤ 4096 := hr.1.2.2.1
  have hsl : d.secs.length ≤ 4096 := hr.1.2.1
  have hsl1 : 1 ≤ d.secs.length := hr.1.1
  have HPE := Lib.hid hr.1.2.2.2.2.2.1
  have HSE := Lib.hid hr.1.2.2.2.2.2.2
  have HRU := Lib.hid hr
  clear hr
  by_cases k7 : 0 ≤ d.left ∧ d.left < d.pend.length
  case pos =>
    have E := Lib.hid (gSync_torn HRU.out k7)
    have dl1 : decide (0 ≤ d.left) = true := decide_eq_true k7.1
    have dl2 : decide (d.left < (d.pend.length : Int)) = true := decide_eq_true k7.2
    obtain ⟨m, hm⟩ : ∃ m : Nat, d.left = m := ⟨d.left.toNat, by omega⟩
    have hmp : m ≤ d.pend.length := by omega
    have hml : m < d.pend.length := by omega
    have HM := Lib.hid hm
    clear k7 hm
    obtain ⟨vs, hrw, hva⟩ := r0
    have HRW := Lib.hid hrw
    have HVA := Lib.hid hva
    have HQ0 := Lib.hid q0
    have hvl := hrw.1
    have r0 : RowsAt n₀ w SA d.secs := ⟨vs, hrw, hva⟩
    clear hrw hva
    go_enter Try.func37, Try.ntmps37
    go_wp2_with (fail)
    obtain ⟨W1, hW1⟩ : ∃ W, W = (w.alloc (.cells #[.slice SA d.secs.length sc, .slice PA d.pend.length pc, .int .i64 d.left, .bool d.stop] 25)).alloc (.cells #[.slice none 0 0, .slice none 0 0, .int .i64 0, .bool false] 25) := ⟨_, rfl⟩
    rw [← hW1]
    have hb : Below w.heap.size w W1 := by rw [hW1]; exact ((Below.refl _ _).alloc (Nat.le_refl _) _).alloc (by simp) _
    have x1 : Blk W1 w.heap.size 25 #[.slice SA d.secs.length sc, .slice PA d.pend.length pc, .int .i64 d.left, .bool d.stop] := by rw [hW1]; exact (Blk.new w 25 _).alloc _
    have x2 : Blk W1 (w.heap.size + 1) 25 #[.slice none 0 0, .slice none 0 0, .int .i64 0, .bool false] := by rw [hW1]; exact Blk.newAt (by simp) 25 _
    clear hW1
    replace r0 := r0.below hb
    replace q0 := q0.below hb
    have hw := hb
    clear hb
    have K : Calls Try.prog 29 #[.agg #[.slice SA d.secs.length sc, .slice PA d.pend.length pc, .int .i64 d.left, .bool d.stop]] W1 (fun e w' => e = .returned (.int .i64 0) ∧ Below W1.heap.size W1 w') := by rw [HGC.out]; exact rcheck_t SA PA sc pc d W1 hl1 hl2 r0 q0
    go_at_call 29
    refine K.mono ?_
    rintro e1 w1 ⟨rfl, hb⟩
    clear K
    replace r0 := r0.below hb
    replace q0 := q0.below hb
    replace x1 := x1.below hb x1.lt
    replace x2 := x2.below hb x2.lt
    replace hw := hw.trans (hb.mono hw.size)
    clear hb
    have x1c0 := x1.cell 0
    have x1c1 := x1.cell 1
    have x1c2 := x1.cell 2
    have x1c3 := x1.cell 3
    simp only [List.getElem?_toArray, List.getElem?_cons_zero, List.getElem?_cons_succ] at x1c0 x1c1 x1c2 x1c3
    have x1l := x1.lt
    have x2c0 := x2.cell 0
    have x2f0 := x2.frozen 0
    have x2c1 := x2.cell 1
    have x2f1 := x2.frozen 1
    have x2c2 := x2.cell 2
    have x2f2 := x2.frozen 2
    have x2c3 := x2.cell 3
    have x2f3 := x2.frozen 3
    simp only [List.getElem?_toArray, List.getElem?_cons_zero, List.getElem?_cons_succ] at x2c0 x2c1 x2c2 x2c3
    have x2l := x2.lt
    rw [K6.out] at x1c3
    go_upto_region 4 with (fail)
    go_cut [5] (fun s5 wx => s5 = .bool true ∧ wx = w1)
    case first =>
      go_wp2_with (fail)
      go_meet
      exact ⟨rfl, rfl⟩
    case rest =>
      obtain ⟨rfl, hwc⟩ := hcut
      have hwc := hwc.symm
      subst hwc
      clear dl1 dl2
      have e1w : w.heap.size < w1.heap.size := x1l
      have e2w : w.heap.size + 1 < w1.heap.size := x2l
      go_upto_region 7 with (fail)
      obtain ⟨base, hbase⟩ : ∃ b, b = w1.heap.size := ⟨_, rfl⟩
      have HBASE := Lib.hid hbase
      clear hbase
      go_cut [6] (fun s6 wx => ∃ B V cp, s6 = .pointer (some ⟨B, 0, none⟩) ∧ RsB n₀ w wx w1.heap.size d.secs.length d.left d.secs B V cp ∧ Below w1.heap.size w1 wx ∧ w1.heap.size ≤ B)
      case first =>
        obtain ⟨i0, hi0, hz0, hz1, hz2⟩ := info_parts info35
        have hdl : vs.length = d.secs.length * 1 := by rw [hvl]; omega
        have hks : ∀ W : World, Below w1.heap.size w1 W → W.cell? ⟨w.heap.size, 0, none⟩ = some (.slice SA d.secs.length sc) ∧ W.cell? ⟨w.heap.size, 2, none⟩ = some (.int .i64 d.left) := fun W hb => ⟨(x1.below hb x1l).cell 0, (x1.below hb x1l).cell 2⟩
        have HKS := Lib.hid hks
        have HX1 := Lib.hid x1
        have HX2 := Lib.hid x2
        have HW := Lib.hid hw
        clear hks x1 x2 hw
        go_region_held3 (fun W => W.cell? ⟨w.heap.size, 0, none⟩ = some (.slice SA d.secs.length sc) ∧ W.cell? ⟨w.heap.size, 2, none⟩ = some (.int .i64 d.left)) ((refine HKS.out _ ?_; repeat (first | with_reducible exact h9 | with_reducible exact Below.refl _ _ | refine Below.drew ?_ | refine Below.alloc ?_ (by first | (simp <;> omega) | (have := h9.size; simp <;> omega)) _ | refine Below.setCell ?_ (by first | (simp <;> omega) | (have := h9.size; simp <;> omega)) _)))
          (first | ((refine step_append_any rfl (.tmp 32) (.tmp 34) 22 rfl w1.heap.size 35 i0 (.slice none 0 0) 1 24 Try.underlying22 hi0 hz0 hz1 hz2 rfl (by decide) (.slice (some ⟨w1.heap.size, 0, none⟩) 0 0) 0 [] rfl (by first | with_reducible exact World.ownsRow.drew (World.ownsRow_lit w1 #[] 0 (by simp) (by simp [maxLen]) rfl) | exact World.ownsRow.drew ((World.ownsRow_lit w1 #[] 0 (by simp) (by simp [maxLen]) rfl).alloc _)) SA d.secs.length sc vs rfl hdl (fun h0 => vals_src HVA.out (Below.trans HW.out (Below.mono (by repeat (first | with_reducible exact Below.refl _ _ | refine Below.drew ?_ | refine Below.alloc ?_ (by simp <;> omega) _)) HW.out.size)) (by omega)) (rws_one HRW.out) (by simp [maxLen]; omega) (by omega) (by simp <;> omega) ?_; intro v9 w9 hown9 hgrow9; simp only [Nat.zero_add, List.nil_append] at hown9; obtain ⟨V9, c9, rfl, hc9⟩ := own_slice hown9; have h9 : Below w1.heap.size w1 w9 := Below.grown (by repeat (first | with_reducible exact Below.refl _ _ | refine Below.drew ?_ | refine Below.alloc ?_ (by simp <;> omega) _)) hgrow9 (by simp <;> omega) (by intro k hk; simp [Value.ownBlock] at hk; omega); (first | (have t9 : Blk w9 (w1.heap.size + 1) 25 #[.slice none 0 0, .slice none 0 0, .int .i64 0, .bool false] := grow_blk (w := ((w1.alloc (.cells #[] 35)).alloc (.cells #[.slice none 0 0, .slice none 0 0, .int .i64 0, .bool false] 25)).drew) (Blk.newAt (by simp) 25 _) (by with_reducible exact hgrow9) (by simp [Value.ownBlock]); have t0 := t9.cell 0; have f0 := t9.frozen 0; have t1 := t9.cell 1; have f1 := t9.frozen 1; have t2 := t9.cell 2; have f2 := t9.frozen 2; have t3 := t9.cell 3; have f3 := t9.frozen 3; simp only [List.getElem?_toArray, List.getElem?_cons_zero, List.getElem?_cons_succ] at t0 t1 t2 t3) | skip))) | ((refine step_append_any rfl (.tmp 32) (.tmp 34) 22 rfl w1.heap.size 35 i0 (.slice none 0 0) 1 24 Try.underlying22 hi0 hz0 hz1 hz2 rfl (by decide) (.slice (some ⟨w1.heap.size + 1, 0, none⟩) 0 0) 0 [] rfl (by have h := World.ownsRow_lit (base := w1.heap.size) (e := 35) (size := 1) (w1.alloc (.cells #[.slice none 0 0, .slice none 0 0, .int .i64 0, .bool false] 25)) #[] 0 (by simp) (by simp [maxLen]) rfl; rw [World.size_alloc] at h; exact World.ownsRow.drew h) SA d.secs.length sc vs rfl hdl (fun h0 => vals_src HVA.out (Below.trans HW.out (Below.mono (by repeat (first | with_reducible exact Below.refl _ _ | refine Below.drew ?_ | refine Below.alloc ?_ (by simp <;> omega) _)) HW.out.size)) (by omega)) (rws_one HRW.out) (by simp [maxLen]; omega) (by omega) (by simp <;> omega) ?_; intro v9 w9 hown9 hgrow9; simp only [Nat.zero_add, List.nil_append] at hown9; obtain ⟨V9, c9, rfl, hc9⟩ := own_slice hown9; have h9 : Below w1.heap.size w1 w9 := Below.grown (by repeat (first | with_reducible exact Below.refl _ _ | refine Below.drew ?_ | refine Below.alloc ?_ (by simp <;> omega) _)) hgrow9 (by simp <;> omega) (by intro k hk; simp [Value.ownBlock] at hk; omega); (have t9 : Blk w9 w1.heap.size 25 #[.slice none 0 0, .slice none 0 0, .int .i64 0, .bool false] := grow_blk (w := ((w1.alloc (.cells #[.slice none 0 0, .slice none 0 0, .int .i64 0, .bool false] 25)).alloc (.cells #[] 35)).drew) ((Blk.new w1 25 _).alloc _) (by with_reducible exact hgrow9) (by simp [Value.ownBlock]); have t0 := t9.cell 0; have f0 := t9.frozen 0; have t1 := t9.cell 1; have f1 := t9.frozen 1; have t2 := t9.cell 2; have f2 := t9.frozen 2; have t3 := t9.cell 3; have f3 := t9.frozen 3; simp only [List.getElem?_toArray, List.getElem?_cons_zero, List.getElem?_cons_succ] at t0 t1 t2 t3))))
        all_goals
         go_wp2_with (fail)
         go_meet
         have h9s := h9.size
         refine ⟨_, V9, c9, rfl, ?_, ?_, ?_⟩
         · first | with_reducible exact rsb_new hc9 HRW.out hown9 | exact rsb_put t9 hc9 HRW.out hown9
         · repeat (first | with_reducible exact h9 | refine Below.setCell ?_ (by simp <;> omega) _ | refine Below.alloc ?_ (by omega) _ | refine Below.drew ?_)
         · (first | omega | (simp <;> omega))
      case rest =>
        obtain ⟨B, V, cp, rfl, ⟨xB, hcp, vs2, hR2, hown2⟩, hb7, lB⟩ := hcut
        clear x1c0 x1c1 x1c2 x1c3 x2c0 x2c1 x2c2 x2c3 x2f0 x2f1 x2f2 x2f3
        have HX1 := Lib.hid x1
        have HX2 := Lib.hid x2
        have HW := Lib.hid hw
        clear x1 x2 hw
        go_wp2_with (fail)
        go_loopw [7] (fun v7 wr => ∃ j : Nat, j ≤ m ∧ v7 = .int .i64 j ∧ RsB n₀ w wr w1.heap.size d.secs.length d.left (perfL d.secs (d.pend.take j)) B V cp ∧ Below w1.heap.size w1 wr) (fun v7 _ => m - (intOf v7).toNat)
        case atStart => exact ⟨0, by omega, rfl, ⟨xB, hcp, vs2, by rw [List.take_zero]; exact hR2, hown2⟩, hb7⟩
        case round =>
          clear xB hcp hR2 hown2 hb7
          obtain ⟨j, hj, rfl, ⟨xB, hcp, vs2, hR2, hown2⟩, hb7⟩ := hrel
          have x1 := HX1.out.below hb7 HX1.out.lt
          have x2 := HX2.out.below hb7 HX2.out.lt
          have hbw := HW.out.trans (hb7.mono HW.out.size)
          by_cases hlt : j < m
          case pos =>
            have dj : (j : Int) < d.left := by have := HM.out; omega
            obtain ⟨b, o, hPA, hb, hc⟩ := HQ0.out.get (by omega)
            subst hPA
            obtain ⟨z0, UA, uc, z1, hcu, hbu⟩ := hc j (by omega)
            replace z0 := (hbw.cell (p := ⟨b, _, none⟩) hb).trans z0
            replace z1 := (hbw.cell (p := ⟨b, _, none⟩) hb).trans z1
            have hmem : d.pend.getD j wr0 ∈ d.pend := by rw [List.getD_eq_getElem?_getD, List.getElem?_eq_getElem (by omega)]; exact List.getElem_mem _
            obtain ⟨ha0, ha1, ha2⟩ := HPE.out _ hmem
            have hst := perfL_snoc d.secs (d.pend.take j) (d.pend.getD j wr0)
            rw [← take_snocW d.pend j (by omega)] at hst
            obtain ⟨⟨xa, xd⟩, hx⟩ : ∃ x, x = d.pend.getD j wr0 := ⟨_, rfl⟩
            rw [← hx] at z0 z1 hcu hbu ha0 ha1 ha2 hst
            dsimp only at z0 z1 hcu hbu ha0 ha1 ha2
            rw [ha2] at z1
            obtain ⟨k, rfl⟩ : ∃ k : Nat, xa = k := ⟨xa.toNat, by omega⟩
            obtain ⟨gr, rfl, hg1, hg2⟩ := own_some hown2 (by omega)
            have hfk := hown2.frozenAt k
            obtain ⟨cv, hcv⟩ : ∃ cv, wr.cell? ⟨gr, k, none⟩ = some cv := by
              rw [hown2.cellAt k (by omega)]
              exact ⟨vs2[k]'(by have := hown2.1; omega), List.getElem?_eq_getElem _⟩
            have hBg : B ≠ gr := by obtain ⟨cs, hcs⟩ := own_is hown2; exact Blk.ne xB hcs (by decide)
            have hq : RsB n₀ w (wr.setCell ⟨gr, k, none⟩ (.slice UA 128 uc)) w1.heap.size d.secs.length d.left (perfL d.secs (d.pend.take (j + 1))) B (some ⟨gr, 0, none⟩) cp ∧ Below w1.heap.size w1 (wr.setCell ⟨gr, k, none⟩ (.slice UA 128 uc)).drew := by
              refine ⟨⟨xB.other (p := ⟨gr, k, none⟩) hBg _, hcp, vs2.set k (.slice UA 128 uc), ?_, (hown2.stored k _).1⟩, (hb7.setCell hg1 _).drew⟩
              rw [hst]
              exact hR2.set k ⟨UA, uc, by rw [ha2], hcu, hbu⟩
            have HQ := Lib.hid hq
            have c1 := x1.cell 1
            have c2 := xB.cell 0
            simp only [List.getElem?_toArray, List.getElem?_cons_zero, List.getElem?_cons_succ] at c1 c2
            have k0 : (0 : Int) ≤ (j : Int) := by omega
            have k1 : (j : Int) < (d.pend.length : Int) := by omega
            have k2 : (0 : Int) ≤ (k : Int) := by omega
            have k3 : (k : Int) < (d.secs.length : Int) := by omega
            clear hq xB hR2 hown2 hb7 x1 x2 hbw hc hbu hst hmem hx hBg
            go_upto_region 11 with (fail)
            go_region
            all_goals
              (try go_wp2_with (fail))
              go_roundw
              case rel =>
                obtain ⟨hq1, hq2⟩ := HQ.out
                exact ⟨j + 1, by omega, by go_num, hq1, hq2⟩
              case measure => simp [intOf] <;> omega
          case neg =>
            obtain rfl : j = m := by omega
            clear hlt
            have hml2 := hml
            have hmt : d.left.toNat = j := by have := HM.out; omega
            have dl0 : (0 : Int) ≤ d.left := by have := HM.out; omega
            have dl1 : d.left < (d.pend.length : Int) := by have := HM.out; omega
            have dj : ¬ (j : Int) < d.left := by have := HM.out; omega
            obtain ⟨b, o, hPA, hb, hc⟩ := HQ0.out.get (by omega)
            subst hPA
            obtain ⟨z0, UA, uc, z1, hcu, hbu⟩ := hc j hml
            replace z0 := (hbw.cell (p := ⟨b, _, none⟩) hb).trans z0
            replace z1 := (hbw.cell (p := ⟨b, _, none⟩) hb).trans z1
            have hmem : d.pend.getD j wr0 ∈ d.pend := by rw [List.getD_eq_getElem?_getD, List.getElem?_eq_getElem (by omega)]; exact List.getElem_mem _
            obtain ⟨ha0, ha1, ha2⟩ := HPE.out _ hmem
            have htl : tornL d.secs d.pend j = (perfL d.secs (d.pend.take j)).set (d.pend.getD j wr0).at_.toNat (tornB ((perfL d.secs (d.pend.take j)).getD (d.pend.getD j wr0).at_.toNat []) (d.pend.getD j wr0).data) := rfl
            obtain ⟨⟨xa, xd⟩, hx⟩ : ∃ x, x = d.pend.getD j wr0 := ⟨_, rfl⟩
            rw [← hx] at z0 z1 hcu hbu ha0 ha1 ha2 htl
            dsimp only at z0 z1 hcu hbu ha0 ha1 ha2 htl
            rw [ha2] at z1 hcu
            obtain ⟨k, rfl⟩ : ∃ k : Nat, xa = k := ⟨xa.toNat, by omega⟩
            rw [Int.toNat_natCast] at htl
            have hkn : k < d.secs.length := by omega
            have hpl2 := perfL_len d.secs (d.pend.take j)
            have hol : ((perfL d.secs (d.pend.take j)).getD k []).length = 128 := by
              rw [List.getD_eq_getElem?_getD, List.getElem?_eq_getElem (by omega)]
              exact perfL_all (P := fun b => b.length = 128) _ _ HSE.out (fun x hx => (HPE.out x (List.mem_of_mem_take hx)).2.2) _ (List.getElem_mem _)
            obtain ⟨OA, oc, eo, hoc, hob⟩ := hR2.2 k (by omega)
            obtain ⟨old, hold⟩ : ∃ x, x = (perfL d.secs (d.pend.take j)).getD k [] := ⟨_, rfl⟩
            rw [← hold] at hol eo hoc hob htl
            rw [hol] at eo hoc
            obtain ⟨gr, rfl, hg1, hg2⟩ := own_some hown2 (by omega)
            have hfk := hown2.frozenAt k
            have hck := hown2.cellAt k (by omega)
            have hvk : vs2[k]? = some (.slice OA 128 oc) := by
              have h := hown2.1
              rw [← eo, List.getD_eq_getElem?_getD, List.getElem?_eq_getElem (by omega)]
              rfl
            rw [hvk] at hck
            have hBg : B ≠ gr := by obtain ⟨cs, hcs⟩ := own_is hown2; exact Blk.ne xB hcs (by decide)
            obtain ⟨bu, ou, rfl, hbul, -⟩ := hbu (by omega)
            obtain ⟨bo, oo, rfl, hobl, -⟩ := hob (by omega)
            rw [← hmt] at z0 z1
            clear hmt
            have k2 : (0 : Int) ≤ (k : Int) := by omega
            have k3 : (k : Int) < (d.secs.length : Int) := by omega
            have k4 : (128 : Int) ≤ (uc : Int) := by omega
            have k5 : (128 : Int) ≤ (oc : Int) := by omega
            have k6 : (64 : Int) ≤ (uc : Int) := by omega
            have k7 : (64 : Int) ≤ (oc : Int) := by omega
            have k8 : 64 ≤ uc := by omega
            have k9 : 64 ≤ oc := by omega
            have k10 : ¬ uc < 64 := by omega
            have k11 : ¬ oc < 64 := by omega
            have k12 : ¬ oc = 64 := by omega
            have HR := Lib.hid hR2
            have HBU := Lib.hid hbu
            have HOB := Lib.hid hob
            have HTL := Lib.hid htl
            have HA2 := Lib.hid ha2
            have HOL := Lib.hid hol
            have HB7 := Lib.hid hb7
            have HOLD := Lib.hid hold
            clear hR2 hbu hob htl hx hmem hc hvk eo hold hpl2 hb7
            have c1 := x1.cell 1
            simp only [List.getElem?_toArray, List.getElem?_cons_zero, List.getElem?_cons_succ] at c1
            go_upto_region 14 with (fail)
            clear z0 z1 c1
            have hb17 : w1.heap.size ≤ wr.heap.size := HB7.out.size
            have hw := Below.refl wr.heap.size wr
            obtain ⟨W2, hW2⟩ : ∃ W, W = wr.alloc (.cells #[.int .i64 (k : Int), .slice (some ⟨bu, ou, none⟩) 128 uc] 90) := ⟨_, rfl⟩
            rw [← hW2]
            have hb : Below wr.heap.size wr W2 := by rw [hW2]; exact (Below.refl _ _).alloc (Nat.le_refl _) _
            have x8 : Blk W2 wr.heap.size 90 #[.int .i64 (k : Int), .slice (some ⟨bu, ou, none⟩) 128 uc] := by rw [hW2]; exact Blk.new wr 90 _
            clear hW2
            replace xB := xB.below hb xB.lt
            replace x2 := x2.below hb x2.lt
            replace hown2 := ow_belowR hown2 hb
            replace hw := hw.trans (hb.mono hw.size)
            replace hbw := hbw.trans (hb.mono hbw.size)
            clear hb
            have hgl : gr < W2.heap.size := Nat.lt_of_lt_of_le hg2 hw.size
            have x8l := x8.lt
            have xBl := xB.lt
            have hck2 : W2.cell? ⟨gr, k, none⟩ = some (.slice (some ⟨bo, oo, none⟩) 128 oc) := (hw.cell (p := ⟨gr, k, none⟩) hg2).trans hck
            have hfk2 := hown2.frozenAt k
            clear hck hfk
            go_cut [] (fun wx => ∃ gT cT, Blk wx B 25 #[.slice (some ⟨gr, 0, none⟩) d.secs.length cp, .slice none 0 0, .int .i64 d.left, .bool false] ∧ 128 ≤ cT ∧ wx.ownsRow w1.heap.size 35 1 (.slice (some ⟨gr, 0, none⟩) d.secs.length cp) d.secs.length (vs2.set k (.slice (some ⟨gT, 0, none⟩) 128 cT)) ∧ wx.ownsRow W2.heap.size 5 1 (.slice (some ⟨gT, 0, none⟩) 128 cT) 128 (bcells (tornB old xd)) ∧ Below w.heap.size w wx ∧ Blk wx (w.heap.size + 1) 25 #[.slice none 0 0, .slice none 0 0, .int .i64 0, .bool false])
            case first =>
              have hks : ∀ W : World, Below W2.heap.size W2 W → W.cell? ⟨B, 0, none⟩ = some (.slice (some ⟨gr, 0, none⟩) d.secs.length cp) ∧ W.cell? ⟨wr.heap.size, 0, none⟩ = some (.int .i64 (k : Int)) ∧ W.cell? ⟨wr.heap.size, 1, none⟩ = some (.slice (some ⟨bu, ou, none⟩) 128 uc) ∧ W.cell? ⟨gr, k, none⟩ = some (.slice (some ⟨bo, oo, none⟩) 128 oc) := fun W hb => ⟨(xB.below hb xBl).cell 0, (x8.below hb x8l).cell 0, (x8.below hb x8l).cell 1, (hb.cell (p := ⟨gr, k, none⟩) hgl).trans hck2⟩
              have HKS := Lib.hid hks
              have HXB := Lib.hid xB
              have HX8 := Lib.hid x8
              have HY2 := Lib.hid x2
              have HO2 := Lib.hid hown2
              have HBW := Lib.hid hbw
              clear hks xB x8 x2 hown2 hbw
              obtain ⟨i5, hi5, hy0, hy1, hy2⟩ := info_parts info5
              have l1 : (bcells (xd.take 64)).length = 64 * 1 := by rw [bcells_len, List.length_take, HA2.out]; rfl
              have l2 : (bcells (old.drop 64)).length = 64 * 1 := by rw [bcells_len, List.length_drop, HOL.out]
              have s1 : ∀ W' : World, Below w.heap.size w W' → (0 < 64 → ∃ ad, (some ⟨bu, ou, none⟩ : Option Addr) = some ad ∧ ∀ j u, (bcells (xd.take 64))[j]? = some u → W'.cell? (ad.add j) = some u) := fun W' hb _ => bs_src_take HBU.out hb 64 (by rw [HA2.out]; decide) (by decide)
              have s2 : ∀ W' : World, Below w.heap.size w W' → (0 < 64 → ∃ ad, (some ⟨bo, oo + 64, none⟩ : Option Addr) = some ad ∧ ∀ j u, (bcells (old.drop 64))[j]? = some u → W'.cell? (ad.add j) = some u) := fun W' hb _ => ⟨_, rfl, bs_src_drop HOB.out hb 64 (by rw [HOL.out]; decide)⟩
              have S1 := Lib.hid s1
              have S2 := Lib.hid s2
              clear s1 s2
              refine splitW_region (pre := #[{ dst := some 65, op := Op.fieldAddr 25 (Operand.tmp 6) 0, type := 0, pos := "ref.go:87", after := #[], guard := none }, { dst := some 66, op := Op.load 22 (Operand.tmp 65), type := 22, pos := "ref.go:87", after := #[{ on := 0, ground := Ground.data }], guard := none }, { dst := some 67, op := Op.fieldAddr 90 (Operand.tmp 8) 0, type := 0, pos := "ref.go:87", after := #[], guard := none }, { dst := some 68, op := Op.load 3 (Operand.tmp 67), type := 3, pos := "ref.go:87", after := #[{ on := 2, ground := Ground.data }], guard := none }, { dst := some 69, op := Op.buildSlice 35 0 #[], type := 35, pos := "ref.go:87", after := #[], guard := none }, { dst := some 70, op := Op.fieldAddr 90 (Operand.tmp 8) 1, type := 0, pos := "ref.go:87", after := #[], guard := none }, { dst := some 71, op := Op.load 35 (Operand.tmp 70), type := 35, pos := "ref.go:87", after := #[{ on := 5, ground := Ground.data }], guard := none }, { dst := some 72, op := Op.slice 35 (Operand.tmp 71) none (some (Operand.const (Value.int IntKind.i64 64))) none, type := 35, pos := "ref.go:87", after := #[{ on := 6, ground := Ground.data }], guard := none }, { dst := some 73, op := Op.call { callee := Callee.builtin Builtin.append, args := #[Operand.tmp 69, Operand.tmp 72], argTypes := #[35, 35] }, type := 35, pos := "ref.go:87", after := #[{ on := 4, ground := Ground.data }, { on := 7, ground := Ground.data }], guard := none }, { dst := some 74, op := Op.fieldAddr 25 (Operand.tmp 6) 0, type := 0, pos := "ref.go:87", after := #[], guard := none }, { dst := some 75, op := Op.load 22 (Operand.tmp 74), type := 22, pos := "ref.go:87", after := #[{ on := 9, ground := Ground.data }], guard := none }, { dst := some 76, op := Op.fieldAddr 90 (Operand.tmp 8) 0, type := 0, pos := "ref.go:87", after := #[], guard := none }, { dst := some 77, op := Op.load 3 (Operand.tmp 76), type := 3, pos := "ref.go:87", after := #[{ on := 11, ground := Ground.data }], guard := none }, { dst := some 78, op := Op.indexAddr 22 (Operand.tmp 75) (Operand.tmp 77), type := 0, pos := "ref.go:87", after := #[{ on := 10, ground := Ground.data }, { on := 12, ground := Ground.data }], guard := none }, { dst := some 79, op := Op.load 35 (Operand.tmp 78), type := 35, pos := "ref.go:87", after := #[{ on := 13, ground := Ground.data }], guard := none }, { dst := some 80, op := Op.slice 35 (Operand.tmp 79) (some (Operand.const (Value.int IntKind.i64 64))) none none, type := 35, pos := "ref.go:87", after := #[{ on := 14, ground := Ground.data }], guard := none }, { dst := some 81, op := Op.call { callee := Callee.builtin Builtin.append, args := #[Operand.tmp 73, Operand.tmp 80], argTypes := #[35, 35] }, type := 35, pos := "ref.go:87", after := #[{ on := 8, ground := Ground.data }, { on := 15, ground := Ground.data }, { on := 8, ground := Ground.chain }], guard := none }, { dst := some 82, op := Op.indexAddr 22 (Operand.tmp 66) (Operand.tmp 68), type := 0, pos := "ref.go:87", after := #[{ on := 1, ground := Ground.data }, { on := 3, ground := Ground.data }, { on := 0, ground := Ground.phase }, { on := 1, ground := Ground.phase }, { on := 2, ground := Ground.phase }, { on := 3, ground := Ground.phase }, { on := 4, ground := Ground.phase }, { on := 5, ground := Ground.phase }, { on := 6, ground := Ground.phase }, { on := 7, ground := Ground.phase }, { on := 8, ground := Ground.phase }, { on := 9, ground := Ground.phase }, { on := 10, ground := Ground.phase }, { on := 11, ground := Ground.phase }, { on := 12, ground := Ground.phase }, { on := 13, ground := Ground.phase }, { on := 14, ground := Ground.phase }, { on := 15, ground := Ground.phase }, { on := 16, ground := Ground.phase }], guard := none }]) (S := fun W => W.cell? ⟨B, 0, none⟩ = some (.slice (some ⟨gr, 0, none⟩) d.secs.length cp) ∧ W.cell? ⟨wr.heap.size, 0, none⟩ = some (.int .i64 (k : Int)) ∧ W.cell? ⟨wr.heap.size, 1, none⟩ = some (.slice (some ⟨bu, ou, none⟩) 128 uc) ∧ W.cell? ⟨gr, k, none⟩ = some (.slice (some ⟨bo, oo, none⟩) 128 oc)) 18 1 14 (by kernel_rfl) (by kernel_rfl) (by kernel_rfl) rfl (fun i hi => by rcases (show i = 0 ∨ i = 1 ∨ i = 2 ∨ i = 3 ∨ i = 4 ∨ i = 5 ∨ i = 6 ∨ i = 7 ∨ i = 8 ∨ i = 9 ∨ i = 10 ∨ i = 11 ∨ i = 12 ∨ i = 13 ∨ i = 14 ∨ i = 15 ∨ i = 16 ∨ i = 17 by omega) with rfl | rfl | rfl | rfl | rfl | rfl | rfl | rfl | rfl | rfl | rfl | rfl | rfl | rfl | rfl | rfl | rfl | rfl <;> rfl) (by kernel_rfl) ?_ (fun hHeld => ?_)
              · exact HKS.out _ (Below.refl _ _).drew
              try dsimp only at hHeld
              refine wpAnyH_take (i := 0) (oi := { dst := some 65, op := Op.fieldAddr 25 (Operand.tmp 6) 0, type := 0, pos := "ref.go:87", after := #[], guard := none }) (v := ?_) rfl (by kernel_rfl) (by kernel_rfl) (by kernel_rfl) (fun _ _ _ h => h) (Or.inl ⟨by rfl, ?_⟩) (by assumption) ?_
              rotate_left
              · intro wS hSw; go_split_ands; go_simp; first | done | with_reducible rfl
              simp only [Act.put, List.setIfInBounds_toArray, List.set_cons_zero, List.set_cons_succ]
              refine wpAnyH_take (i := 1) (oi := { dst := some 66, op := Op.load 22 (Operand.tmp 65), type := 22, pos := "ref.go:87", after := #[{ on := 0, ground := Ground.data }], guard := none }) (v := ?_) rfl (by kernel_rfl) (by kernel_rfl) (by kernel_rfl) (fun _ _ _ h => h) (Or.inl ⟨by rfl, ?_⟩) (by assumption) ?_
              rotate_left
              · intro wS hSw; go_split_ands; go_simp; first | done | with_reducible rfl
              simp only [Act.put, List.setIfInBounds_toArray, List.set_cons_zero, List.set_cons_succ]
              refine wpAnyH_take (i := 2) (oi := { dst := some 67, op := Op.fieldAddr 90 (Operand.tmp 8) 0, type := 0, pos := "ref.go:87", after := #[], guard := none }) (v := ?_) rfl (by kernel_rfl) (by kernel_rfl) (by kernel_rfl) (fun _ _ _ h => h) (Or.inl ⟨by rfl, ?_⟩) (by assumption) ?_
              rotate_left
              · intro wS hSw; go_split_ands; go_simp; first | done | with_reducible rfl
              simp only [Act.put, List.setIfInBounds_toArray, List.set_cons_zero, List.set_cons_succ]
              refine wpAnyH_take (i := 3) (oi := { dst := some 68, op := Op.load 3 (Operand.tmp 67), type := 3, pos := "ref.go:87", after := #[{ on := 2, ground := Ground.data }], guard := none }) (v := ?_) rfl (by kernel_rfl) (by kernel_rfl) (by kernel_rfl) (fun _ _ _ h => h) (Or.inl ⟨by rfl, ?_⟩) (by assumption) ?_
              rotate_left
              · intro wS hSw; go_split_ands; go_simp; first | done | with_reducible rfl
              simp only [Act.put, List.setIfInBounds_toArray, List.set_cons_zero, List.set_cons_succ]
              refine wpAnyH_take (i := 5) (oi := { dst := some 70, op := Op.fieldAddr 90 (Operand.tmp 8) 1, type := 0, pos := "ref.go:87", after := #[], guard := none }) (v := ?_) rfl (by kernel_rfl) (by kernel_rfl) (by kernel_rfl) (fun _ _ _ h => h) (Or.inl ⟨by rfl, ?_⟩) (by assumption) ?_
              rotate_left
              · intro wS hSw; go_split_ands; go_simp; first | done | with_reducible rfl
              simp only [Act.put, List.setIfInBounds_toArray, List.set_cons_zero, List.set_cons_succ]
              refine wpAnyH_take (i := 6) (oi := { dst := some 71, op := Op.load 35 (Operand.tmp 70), type := 35, pos := "ref.go:87", after := #[{ on := 5, ground := Ground.data }], guard := none }) (v := ?_) rfl (by kernel_rfl) (by kernel_rfl) (by kernel_rfl) (fun _ _ _ h => h) (Or.inl ⟨by rfl, ?_⟩) (by assumption) ?_
              rotate_left
              · intro wS hSw; go_split_ands; go_simp; first | done | with_reducible rfl
              simp only [Act.put, List.setIfInBounds_toArray, List.set_cons_zero, List.set_cons_succ]
              refine wpAnyH_take (i := 7) (oi := { dst := some 72, op := Op.slice 35 (Operand.tmp 71) none (some (Operand.const (Value.int IntKind.i64 64))) none, type := 35, pos := "ref.go:87", after := #[{ on := 6, ground := Ground.data }], guard := none }) (v := ?_) rfl (by kernel_rfl) (by kernel_rfl) (by kernel_rfl) (fun _ _ _ h => h) (Or.inl ⟨by rfl, ?_⟩) (by assumption) ?_
              rotate_left
              · intro wS hSw; go_split_ands; go_simp; first | done | with_reducible rfl
              simp only [Act.put, List.setIfInBounds_toArray, List.set_cons_zero, List.set_cons_succ]
              refine wpAnyH_take (i := 9) (oi := { dst := some 74, op := Op.fieldAddr 25 (Operand.tmp 6) 0, type := 0, pos := "ref.go:87", after := #[], guard := none }) (v := ?_) rfl (by kernel_rfl) (by kernel_rfl) (by kernel_rfl) (fun _ _ _ h => h) (Or.inl ⟨by rfl, ?_⟩) (by assumption) ?_
              rotate_left
              · intro wS hSw; go_split_ands; go_simp; first | done | with_reducible rfl
              simp only [Act.put, List.setIfInBounds_toArray, List.set_cons_zero, List.set_cons_succ]
              refine wpAnyH_take (i := 10) (oi := { dst := some 75, op := Op.load 22 (Operand.tmp 74), type := 22, pos := "ref.go:87", after := #[{ on := 9, ground := Ground.data }], guard := none }) (v := ?_) rfl (by kernel_rfl) (by kernel_rfl) (by kernel_rfl) (fun _ _ _ h => h) (Or.inl ⟨by rfl, ?_⟩) (by assumption) ?_
              rotate_left
              · intro wS hSw; go_split_ands; go_simp; first | done | with_reducible rfl
              simp only [Act.put, List.setIfInBounds_toArray, List.set_cons_zero, List.set_cons_succ]
              refine wpAnyH_take (i := 11) (oi := { dst := some 76, op := Op.fieldAddr 90 (Operand.tmp 8) 0, type := 0, pos := "ref.go:87", after := #[], guard := none }) (v := ?_) rfl (by kernel_rfl) (by kernel_rfl) (by kernel_rfl) (fun _ _ _ h => h) (Or.inl ⟨by rfl, ?_⟩) (by assumption) ?_
              rotate_left
              · intro wS hSw; go_split_ands; go_simp; first | done | with_reducible rfl
              simp only [Act.put, List.setIfInBounds_toArray, List.set_cons_zero, List.set_cons_succ]
              refine wpAnyH_take (i := 12) (oi := { dst := some 77, op := Op.load 3 (Operand.tmp 76), type := 3, pos := "ref.go:87", after := #[{ on := 11, ground := Ground.data }], guard := none }) (v := ?_) rfl (by kernel_rfl) (by kernel_rfl) (by kernel_rfl) (fun _ _ _ h => h) (Or.inl ⟨by rfl, ?_⟩) (by assumption) ?_
              rotate_left
              · intro wS hSw; go_split_ands; go_simp; first | done | with_reducible rfl
              simp only [Act.put, List.setIfInBounds_toArray, List.set_cons_zero, List.set_cons_succ]
              refine wpAnyH_take (i := 13) (oi := { dst := some 78, op := Op.indexAddr 22 (Operand.tmp 75) (Operand.tmp 77), type := 0, pos := "ref.go:87", after := #[{ on := 10, ground := Ground.data }, { on := 12, ground := Ground.data }], guard := none }) (v := ?_) rfl (by kernel_rfl) (by kernel_rfl) (by kernel_rfl) (fun _ _ _ h => h) (Or.inl ⟨by rfl, ?_⟩) (by assumption) ?_
              rotate_left
              · intro wS hSw; go_split_ands; go_simp; first | done | with_reducible rfl
              simp only [Act.put, List.setIfInBounds_toArray, List.set_cons_zero, List.set_cons_succ]
              refine wpAnyH_take (i := 14) (oi := { dst := some 79, op := Op.load 35 (Operand.tmp 78), type := 35, pos := "ref.go:87", after := #[{ on := 13, ground := Ground.data }], guard := none }) (v := ?_) rfl (by kernel_rfl) (by kernel_rfl) (by kernel_rfl) (fun _ _ _ h => h) (Or.inl ⟨by rfl, ?_⟩) (by assumption) ?_
              rotate_left
              · intro wS hSw; go_split_ands; go_simp; first | done | with_reducible rfl
              simp only [Act.put, List.setIfInBounds_toArray, List.set_cons_zero, List.set_cons_succ]
              refine wpAnyH_take (i := 15) (oi := { dst := some 80, op := Op.slice 35 (Operand.tmp 79) (some (Operand.const (Value.int IntKind.i64 64))) none none, type := 35, pos := "ref.go:87", after := #[{ on := 14, ground := Ground.data }], guard := none }) (v := ?_) rfl (by kernel_rfl) (by kernel_rfl) (by kernel_rfl) (fun _ _ _ h => h) (Or.inl ⟨by rfl, ?_⟩) (by assumption) ?_
              rotate_left
              · intro wS hSw; go_split_ands; go_simp; first | done | with_reducible rfl
              simp only [Act.put, List.setIfInBounds_toArray, List.set_cons_zero, List.set_cons_succ]
              refine wpAnyH_ready (rs := [4]) (by kernel_rfl) (by simp) ?_
              refine AllReadyH.cons (o := { dst := some 69, op := Op.buildSlice 35 0 #[], type := 35, pos := "ref.go:87", after := #[], guard := none }) rfl (fun K hK => ?_) AllReadyH.nil
              go_simp
              refine hK.out _ _ ?_ (fun hHeld => ?_)
              · (refine HKS.out _ ?_; (repeat (first | with_reducible exact h10 | with_reducible exact h9 | with_reducible exact Below.refl _ _ | refine Below.drew ?_ | refine Below.alloc ?_ (by simp <;> omega) _)); done)
              clear hK K
              try simp only [Act.put, List.setIfInBounds_toArray, List.set_cons_zero, List.set_cons_succ]
              refine wpAnyH_ready (rs := [8]) (by kernel_rfl) (by simp) ?_
              refine AllReadyH.cons (o := { dst := some 73, op := Op.call { callee := Callee.builtin Builtin.append, args := #[Operand.tmp 69, Operand.tmp 72], argTypes := #[35, 35] }, type := 35, pos := "ref.go:87", after := #[{ on := 4, ground := Ground.data }, { on := 7, ground := Ground.data }], guard := none }) rfl (fun K hK => ?_) AllReadyH.nil
              (refine step_append_any rfl (.tmp 69) (.tmp 72) 35 rfl W2.heap.size 5 i5 (.int .u8 0) 1 1 Try.underlying35 hi5 hy0 hy1 hy2 rfl (by decide) (.slice (some ⟨W2.heap.size, 0, none⟩) 0 0) 0 [] rfl (by first | with_reducible exact World.ownsRow.drew (World.ownsRow_lit W2 #[] 0 (by simp) (by simp [maxLen]) rfl) | exact World.ownsRow_lit W2 #[] 0 (by simp) (by simp [maxLen]) rfl) (some ⟨bu, ou, none⟩) 64 uc (bcells (xd.take 64)) rfl l1 (S1.out _ (HBW.out.trans (Below.mono (by repeat (first | with_reducible exact Below.refl _ _ | refine Below.drew ?_ | refine Below.alloc ?_ (by simp <;> omega) _)) HBW.out.size))) (bcells_one _) (by simp [maxLen]) (by omega) (by simp <;> omega) ?_; intro v9 w9 hown9 hgrow9; simp only [Nat.zero_add, List.nil_append] at hown9; obtain ⟨V9, c9, rfl, hc9⟩ := own_slice hown9; have h9 : Below W2.heap.size W2 w9 := Below.grown (by repeat (first | with_reducible exact Below.refl _ _ | refine Below.drew ?_ | refine Below.alloc ?_ (by simp <;> omega) _)) hgrow9 (by simp <;> omega) (by intro k hk; simp [Value.ownBlock] at hk; omega); have hk9 : w9.cell? ⟨gr, k, none⟩ = some (.slice (some ⟨bo, oo, none⟩) 128 oc) := (h9.cell (p := ⟨gr, k, none⟩) hgl).trans hck2; have hf9 : w9.frozen? ⟨gr, k, none⟩ = false := (h9.frozen (p := ⟨gr, k, none⟩) hgl).trans hfk2)
              refine hK.out _ _ ?_ (fun hHeld => ?_)
              · (refine HKS.out _ ?_; (repeat (first | with_reducible exact h10 | with_reducible exact h9 | with_reducible exact Below.refl _ _ | refine Below.drew ?_ | refine Below.alloc ?_ (by simp <;> omega) _)); done)
              clear hK K
              try simp only [Act.put, List.setIfInBounds_toArray, List.set_cons_zero, List.set_cons_succ]
              refine wpAnyH_ready (rs := [16]) (by kernel_rfl) (by simp) ?_
              refine AllReadyH.cons (o := { dst := some 81, op := Op.call { callee := Callee.builtin Builtin.append, args := #[Operand.tmp 73, Operand.tmp 80], argTypes := #[35, 35] }, type := 35, pos := "ref.go:87", after := #[{ on := 8, ground := Ground.data }, { on := 15, ground := Ground.data }, { on := 8, ground := Ground.chain }], guard := none }) rfl (fun K hK => ?_) AllReadyH.nil
              (refine step_append_any rfl (.tmp 73) (.tmp 80) 35 rfl W2.heap.size 5 i5 (.int .u8 0) 1 1 Try.underlying35 hi5 hy0 hy1 hy2 rfl (by decide) (.slice V9 64 c9) 64 (bcells (xd.take 64)) rfl hown9 _ _ _ (bcells (old.drop 64)) rfl l2 (S2.out _ (HBW.out.trans (Below.mono (by repeat (first | with_reducible exact h9 | with_reducible exact Below.refl _ _ | refine Below.drew ?_ | refine Below.alloc ?_ (by simp <;> omega) _)) HBW.out.size))) (bcells_one _) (by simp [maxLen]) (by omega) (by have := h9.size; simp <;> omega) ?_; intro v10 w10 hown10 hgrow10; obtain ⟨V10, c10, rfl, hc10⟩ := own_slice hown10; have h10 : Below W2.heap.size W2 w10 := Below.grown (by repeat (first | with_reducible exact h9 | with_reducible exact Below.refl _ _ | refine Below.drew ?_ | refine Below.alloc ?_ (by simp <;> omega) _)) hgrow10 (by have := h9.size; simp <;> omega) (own_base hown9); obtain ⟨gT, rfl, hgT1, hgT2⟩ := own_some hown10 (by decide); have hk10 : w10.cell? ⟨gr, k, none⟩ = some (.slice (some ⟨bo, oo, none⟩) 128 oc) := (h10.cell (p := ⟨gr, k, none⟩) hgl).trans hck2; have hf10 : w10.frozen? ⟨gr, k, none⟩ = false := (h10.frozen (p := ⟨gr, k, none⟩) hgl).trans hfk2; have HO10 := Lib.hid hown10)
              refine hK.out _ _ ?_ (fun hHeld => ?_)
              · (refine HKS.out _ ?_; (repeat (first | with_reducible exact h10 | with_reducible exact h9 | with_reducible exact Below.refl _ _ | refine Below.drew ?_ | refine Below.alloc ?_ (by simp <;> omega) _)); done)
              clear hK K
              try simp only [Act.put, List.setIfInBounds_toArray, List.set_cons_zero, List.set_cons_succ]
              refine wpAnyH_take (i := 17) (oi := { dst := some 82, op := Op.indexAddr 22 (Operand.tmp 66) (Operand.tmp 68), type := 0, pos := "ref.go:87", after := #[{ on := 1, ground := Ground.data }, { on := 3, ground := Ground.data }, { on := 0, ground := Ground.phase }, { on := 1, ground := Ground.phase }, { on := 2, ground := Ground.phase }, { on := 3, ground := Ground.phase }, { on := 4, ground := Ground.phase }, { on := 5, ground := Ground.phase }, { on := 6, ground := Ground.phase }, { on := 7, ground := Ground.phase }, { on := 8, ground := Ground.phase }, { on := 9, ground := Ground.phase }, { on := 10, ground := Ground.phase }, { on := 11, ground := Ground.phase }, { on := 12, ground := Ground.phase }, { on := 13, ground := Ground.phase }, { on := 14, ground := Ground.phase }, { on := 15, ground := Ground.phase }, { on := 16, ground := Ground.phase }], guard := none }) (v := ?_) rfl (by kernel_rfl) (by kernel_rfl) (by kernel_rfl) (fun _ _ _ h => h) (Or.inl ⟨by rfl, ?_⟩) (by assumption) ?_
              rotate_left
              · intro wS hSw; go_split_ands; go_simp; first | done | with_reducible rfl
              simp only [Act.put, List.setIfInBounds_toArray, List.set_cons_zero, List.set_cons_succ]
              refine wpAnyH_done (by kernel_rfl) ?_ _
              clear hHeld
              show wpAny _ _ _ _ 1 _ _ _
              refine wpAny_one (f := 0) (i := 18) (o := { dst := none, op := Op.store 35 (Operand.tmp 82) (Operand.tmp 81), type := 0, pos := "ref.go:87", after := #[{ on := 17, ground := Ground.data }, { on := 16, ground := Ground.data }, { on := 16, ground := Ground.chain }, { on := 0, ground := Ground.phase }, { on := 1, ground := Ground.phase }, { on := 2, ground := Ground.phase }, { on := 3, ground := Ground.phase }, { on := 4, ground := Ground.phase }, { on := 5, ground := Ground.phase }, { on := 6, ground := Ground.phase }, { on := 7, ground := Ground.phase }, { on := 8, ground := Ground.phase }, { on := 9, ground := Ground.phase }, { on := 10, ground := Ground.phase }, { on := 11, ground := Ground.phase }, { on := 12, ground := Ground.phase }, { on := 13, ground := Ground.phase }, { on := 14, ground := Ground.phase }, { on := 15, ground := Ground.phase }, { on := 16, ground := Ground.phase }], guard := none }) (by kernel_rfl) rfl rfl (fun K hK => ?_)
              go_simp
              refine hK _ _ ⟨by kernel_rfl, ?_⟩
              all_goals
               have o10 := ow_belowR HO2.out h10
               have ho := HO10.out
               have b10 : Blk w10 gr 35 _ := (own_is o10).choose_spec
               have hfin : Blk (w10.setCell ⟨gr, k, none⟩ (.slice (some ⟨gT, 0, none⟩) 128 c10)) B 25 #[.slice (some ⟨gr, 0, none⟩) d.secs.length cp, .slice none 0 0, .int .i64 d.left, .bool false] ∧ 128 ≤ c10 ∧ (w10.setCell ⟨gr, k, none⟩ (.slice (some ⟨gT, 0, none⟩) 128 c10)).ownsRow w1.heap.size 35 1 (.slice (some ⟨gr, 0, none⟩) d.secs.length cp) d.secs.length (vs2.set k (.slice (some ⟨gT, 0, none⟩) 128 c10)) ∧ (w10.setCell ⟨gr, k, none⟩ (.slice (some ⟨gT, 0, none⟩) 128 c10)).ownsRow W2.heap.size 5 1 (.slice (some ⟨gT, 0, none⟩) 128 c10) 128 (bcells (tornB old xd)) ∧ Below w.heap.size w (w10.setCell ⟨gr, k, none⟩ (.slice (some ⟨gT, 0, none⟩) 128 c10)) ∧ Blk (w10.setCell ⟨gr, k, none⟩ (.slice (some ⟨gT, 0, none⟩) 128 c10)) (w.heap.size + 1) 25 #[.slice none 0 0, .slice none 0 0, .int .i64 0, .bool false] := by
                refine ⟨(HXB.out.below h10 xBl).other (p := ⟨gr, k, none⟩) hBg _, hc10, (o10.stored k _).1, ownsRow_setCell_other ?_ (a := ⟨gr, k, none⟩) (own_apart ho b10 (by decide)) _, (HBW.out.trans (h10.mono HBW.out.size)).setCell (show w.heap.size ≤ gr by omega) _, (HY2.out.below h10 HY2.out.lt).other (p := ⟨gr, k, none⟩) (show w.heap.size + 1 ≠ gr by omega) _⟩
                unfold tornB
                rw [show bcells (xd.take 64 ++ old.drop 64) = bcells (xd.take 64) ++ bcells (old.drop 64) from List.map_append]
                exact ho
               have HFIN := Lib.hid hfin
               clear hfin o10 b10 ho hk10 hf10
               (try go_wp2_with (fail))
               go_meet
               exact ⟨gT, c10, HFIN.out⟩
            case rest =>
              obtain ⟨gT, cT, xB2, hcT, ho, ht, hbw2, x22⟩ := hcut
              clear xB x2 x8 hown2 hbw hw hck2 hfk2 x8l xBl
              have xB2c0 := xB2.cell 0
              have xB2f0 := xB2.frozen 0
              have xB2c1 := xB2.cell 1
              have xB2f1 := xB2.frozen 1
              have xB2c2 := xB2.cell 2
              have xB2f2 := xB2.frozen 2
              have xB2c3 := xB2.cell 3
              have xB2f3 := xB2.frozen 3
              simp only [List.getElem?_toArray, List.getElem?_cons_zero, List.getElem?_cons_succ] at xB2c0 xB2c1 xB2c2 xB2c3
              have xB2l := xB2.lt
              go_upto_region 17 with (fail)
              obtain ⟨W9, hW9⟩ : ∃ W, W = (wc.setCell ⟨B, 2, none⟩ (.int .i64 0)).setCell ⟨B, 3, none⟩ (.bool true) := ⟨_, rfl⟩
              rw [← hW9]
              have y2 : Blk W9 (w.heap.size + 1) 25 #[.slice none 0 0, .slice none 0 0, .int .i64 0, .bool false] := by rw [hW9]; exact (x22.other (p := ⟨B, 2, none⟩) (show w.heap.size + 1 ≠ B by omega) _).other (p := ⟨B, 3, none⟩) (show w.heap.size + 1 ≠ B by omega) _
              have yB : Blk W9 B 25 #[.slice (some ⟨gr, 0, none⟩) d.secs.length cp, .slice none 0 0, .int .i64 0, .bool true] := by rw [hW9]; exact (xB2.set 2 _).set 3 _
              have ha1 := own_apart ho xB2 (by decide)
              have ha2 := own_apart ht xB2 (by decide)
              have ho9 : W9.ownsRow w1.heap.size 35 1 (.slice (some ⟨gr, 0, none⟩) d.secs.length cp) d.secs.length (vs2.set k (.slice (some ⟨gT, 0, none⟩) 128 cT)) := by rw [hW9]; exact ownsRow_setCell_other (ownsRow_setCell_other ho (a := ⟨B, 2, none⟩) ha1 _) (a := ⟨B, 3, none⟩) ha1 _
              have ht9 : W9.ownsRow W2.heap.size 5 1 (.slice (some ⟨gT, 0, none⟩) 128 cT) 128 (bcells (tornB old xd)) := by rw [hW9]; exact ownsRow_setCell_other (ownsRow_setCell_other ht (a := ⟨B, 2, none⟩) ha2 _) (a := ⟨B, 3, none⟩) ha2 _
              have hb9 : Below w.heap.size w W9 := by rw [hW9]; exact (hbw2.setCell (show w.heap.size ≤ B by omega) _).setCell (show w.heap.size ≤ B by omega) _
              have e8 : w.heap.size + 1 < W2.heap.size := by omega
              have HO9 := Lib.hid ho9
              have HT9 := Lib.hid ht9
              have HB9 := Lib.hid hb9
              clear hW9 ho9 ht9 hb9 ho ht hbw2 x22 ha1 ha2
              clear xB2f0 xB2f1 xB2f2 xB2f3 xB2c0 xB2c1 xB2c2 xB2c3 xB2l
              clear xB2
              have yBc0 := yB.cell 0
              have yBc1 := yB.cell 1
              have yBc2 := yB.cell 2
              have yBc3 := yB.cell 3
              simp only [List.getElem?_toArray, List.getElem?_cons_zero, List.getElem?_cons_succ] at yBc0 yBc1 yBc2 yBc3
              have yBl := yB.lt
              have y2c0 := y2.cell 0
              have y2f0 := y2.frozen 0
              have y2c1 := y2.cell 1
              have y2f1 := y2.frozen 1
              have y2c2 := y2.cell 2
              have y2f2 := y2.frozen 2
              have y2c3 := y2.cell 3
              have y2f3 := y2.frozen 3
              simp only [List.getElem?_toArray, List.getElem?_cons_zero, List.getElem?_cons_succ] at y2c0 y2c1 y2c2 y2c3
              have y2l := y2.lt
              go_wp2
              refine bodyPost_ret (v := .tuple #[.agg #[.slice (some ⟨gr, 0, none⟩) d.secs.length cp, .slice none 0 0, .int .i64 0, .bool true], .int .i64 40]) (by simp [results, Try.results37, go_sem, y2c0, y2c1, y2c2, y2c3]) rfl ?_
              rw [E.out, show d.left.toNat = j by have := HM.out; omega, HTL.out]
              exact torn2_end (base := w1.heap.size) (base2 := W2.heap.size) (perfL_len _ _).symm hcp HR.out (by repeat (first | with_reducible exact HO9.out | refine ownsRow_setCell_below ?_ (by simp <;> omega) _)) (by repeat (first | with_reducible exact HT9.out | refine ownsRow_setCell_below ?_ (by simp <;> omega) _)) (tornB_len HOL.out HA2.out) hcT (by repeat (first | with_reducible exact HB9.out | refine Below.setCell ?_ (by simp <;> omega) _))
  case neg =>
    have E := Lib.hid (gSync_ok HRU.out k7)
    obtain ⟨m, hm⟩ : ∃ m : Nat, m = d.pend.length := ⟨_, rfl⟩
    have hmp : m ≤ d.pend.length := by omega
    have HM := Lib.hid hm
    have K7 := Lib.hid k7
    clear k7 hm
    obtain ⟨vs, hrw, hva⟩ := r0
    have HRW := Lib.hid hrw
    have HVA := Lib.hid hva
    have HQ0 := Lib.hid q0
    have hvl := hrw.1
    have r0 : RowsAt n₀ w SA d.secs := ⟨vs, hrw, hva⟩
    clear hrw hva
    go_enter Try.func37, Try.ntmps37
    go_wp2_with (fail)
    obtain ⟨W1, hW1⟩ : ∃ W, W = (w.alloc (.cells #[.slice SA d.secs.length sc, .slice PA d.pend.length pc, .int .i64 d.left, .bool d.stop] 25)).alloc (.cells #[.slice none 0 0, .slice none 0 0, .int .i64 0, .bool false] 25) := ⟨_, rfl⟩
    rw [← hW1]
    have hb : Below w.heap.size w W1 := by rw [hW1]; exact ((Below.refl _ _).alloc (Nat.le_refl _) _).alloc (by simp) _
    have x1 : Blk W1 w.heap.size 25 #[.slice SA d.secs.length sc, .slice PA d.pend.length pc, .int .i64 d.left, .bool d.stop] := by rw [hW1]; exact (Blk.new w 25 _).alloc _
    have x2 : Blk W1 (w.heap.size + 1) 25 #[.slice none 0 0, .slice none 0 0, .int .i64 0, .bool false] := by rw [hW1]; exact Blk.newAt (by simp) 25 _
    clear hW1
    replace r0 := r0.below hb
    replace q0 := q0.below hb
    have hw := hb
    clear hb
    have K : Calls Try.prog 29 #[.agg #[.slice SA d.secs.length sc, .slice PA d.pend.length pc, .int .i64 d.left, .bool d.stop]] W1 (fun e w' => e = .returned (.int .i64 0) ∧ Below W1.heap.size W1 w') := by rw [HGC.out]; exact rcheck_t SA PA sc pc d W1 hl1 hl2 r0 q0
    go_at_call 29
    refine K.mono ?_
    rintro e1 w1 ⟨rfl, hb⟩
    clear K
    replace r0 := r0.below hb
    replace q0 := q0.below hb
    replace x1 := x1.below hb x1.lt
    replace x2 := x2.below hb x2.lt
    replace hw := hw.trans (hb.mono hw.size)
    clear hb
    have x1c0 := x1.cell 0
    have x1c1 := x1.cell 1
    have x1c2 := x1.cell 2
    have x1c3 := x1.cell 3
    simp only [List.getElem?_toArray, List.getElem?_cons_zero, List.getElem?_cons_succ] at x1c0 x1c1 x1c2 x1c3
    have x1l := x1.lt
    have x2c0 := x2.cell 0
    have x2f0 := x2.frozen 0
    have x2c1 := x2.cell 1
    have x2f1 := x2.frozen 1
    have x2c2 := x2.cell 2
    have x2f2 := x2.frozen 2
    have x2c3 := x2.cell 3
    have x2f3 := x2.frozen 3
    simp only [List.getElem?_toArray, List.getElem?_cons_zero, List.getElem?_cons_succ] at x2c0 x2c1 x2c2 x2c3
    have x2l := x2.lt
    rw [K6.out] at x1c3
    go_upto_region 4 with (fail)
    go_cut [5] (fun s5 wx => s5 = .bool false ∧ wx = w1)
    case first =>
      by_cases k8 : 0 ≤ d.left
      case pos =>
        have dl1 : decide (0 ≤ d.left) = true := decide_eq_true k8
        have dl2 : decide (d.left < (d.pend.length : Int)) = false := decide_eq_false (fun h => K7.out ⟨k8, h⟩)
        go_wp2_with (fail)
        go_meet
        exact ⟨rfl, rfl⟩
      have dl1 : decide (0 ≤ d.left) = false := decide_eq_false k8
      go_wp2_with (fail)
      go_meet
      exact ⟨rfl, rfl⟩
    case rest =>
      obtain ⟨rfl, hwc⟩ := hcut
      have hwc := hwc.symm
      subst hwc
      have e1w : w.heap.size < w1.heap.size := x1l
      have e2w : w.heap.size + 1 < w1.heap.size := x2l
      go_upto_region 7 with (fail)
      obtain ⟨base, hbase⟩ : ∃ b, b = w1.heap.size := ⟨_, rfl⟩
      have HBASE := Lib.hid hbase
      clear hbase
      go_cut [6] (fun s6 wx => ∃ B V cp, s6 = .pointer (some ⟨B, 0, none⟩) ∧ RsB n₀ w wx w1.heap.size d.secs.length d.left d.secs B V cp ∧ Below w1.heap.size w1 wx ∧ w1.heap.size ≤ B)
      case first =>
        obtain ⟨i0, hi0, hz0, hz1, hz2⟩ := info_parts info35
        have hdl : vs.length = d.secs.length * 1 := by rw [hvl]; omega
        have hks : ∀ W : World, Below w1.heap.size w1 W → W.cell? ⟨w.heap.size, 0, none⟩ = some (.slice SA d.secs.length sc) ∧ W.cell? ⟨w.heap.size, 2, none⟩ = some (.int .i64 d.left) := fun W hb => ⟨(x1.below hb x1l).cell 0, (x1.below hb x1l).cell 2⟩
        have HKS := Lib.hid hks
        have HX1 := Lib.hid x1
        have HX2 := Lib.hid x2
        have HW := Lib.hid hw
        clear hks x1 x2 hw
        go_region_held3 (fun W => W.cell? ⟨w.heap.size, 0, none⟩ = some (.slice SA d.secs.length sc) ∧ W.cell? ⟨w.heap.size, 2, none⟩ = some (.int .i64 d.left)) ((refine HKS.out _ ?_; repeat (first | with_reducible exact h9 | with_reducible exact Below.refl _ _ | refine Below.drew ?_ | refine Below.alloc ?_ (by first | (simp <;> omega) | (have := h9.size; simp <;> omega)) _ | refine Below.setCell ?_ (by first | (simp <;> omega) | (have := h9.size; simp <;> omega)) _)))
          (first | ((refine step_append_any rfl (.tmp 32) (.tmp 34) 22 rfl w1.heap.size 35 i0 (.slice none 0 0) 1 24 Try.underlying22 hi0 hz0 hz1 hz2 rfl (by decide) (.slice (some ⟨w1.heap.size, 0, none⟩) 0 0) 0 [] rfl (by first | with_reducible exact World.ownsRow.drew (World.ownsRow_lit w1 #[] 0 (by simp) (by simp [maxLen]) rfl) | exact World.ownsRow.drew ((World.ownsRow_lit w1 #[] 0 (by simp) (by simp [maxLen]) rfl).alloc _)) SA d.secs.length sc vs rfl hdl (fun h0 => vals_src HVA.out (Below.trans HW.out (Below.mono (by repeat (first | with_reducible exact Below.refl _ _ | refine Below.drew ?_ | refine Below.alloc ?_ (by simp <;> omega) _)) HW.out.size)) (by omega)) (rws_one HRW.out) (by simp [maxLen]; omega) (by omega) (by simp <;> omega) ?_; intro v9 w9 hown9 hgrow9; simp only [Nat.zero_add, List.nil_append] at hown9; obtain ⟨V9, c9, rfl, hc9⟩ := own_slice hown9; have h9 : Below w1.heap.size w1 w9 := Below.grown (by repeat (first | with_reducible exact Below.refl _ _ | refine Below.drew ?_ | refine Below.alloc ?_ (by simp <;> omega) _)) hgrow9 (by simp <;> omega) (by intro k hk; simp [Value.ownBlock] at hk; omega); (first | (have t9 : Blk w9 (w1.heap.size + 1) 25 #[.slice none 0 0, .slice none 0 0, .int .i64 0, .bool false] := grow_blk (w := ((w1.alloc (.cells #[] 35)).alloc (.cells #[.slice none 0 0, .slice none 0 0, .int .i64 0, .bool false] 25)).drew) (Blk.newAt (by simp) 25 _) (by with_reducible exact hgrow9) (by simp [Value.ownBlock]); have t0 := t9.cell 0; have f0 := t9.frozen 0; have t1 := t9.cell 1; have f1 := t9.frozen 1; have t2 := t9.cell 2; have f2 := t9.frozen 2; have t3 := t9.cell 3; have f3 := t9.frozen 3; simp only [List.getElem?_toArray, List.getElem?_cons_zero, List.getElem?_cons_succ] at t0 t1 t2 t3) | skip))) | ((refine step_append_any rfl (.tmp 32) (.tmp 34) 22 rfl w1.heap.size 35 i0 (.slice none 0 0) 1 24 Try.underlying22 hi0 hz0 hz1 hz2 rfl (by decide) (.slice (some ⟨w1.heap.size + 1, 0, none⟩) 0 0) 0 [] rfl (by have h := World.ownsRow_lit (base := w1.heap.size) (e := 35) (size := 1) (w1.alloc (.cells #[.slice none 0 0, .slice none 0 0, .int .i64 0, .bool false] 25)) #[] 0 (by simp) (by simp [maxLen]) rfl; rw [World.size_alloc] at h; exact World.ownsRow.drew h) SA d.secs.length sc vs rfl hdl (fun h0 => vals_src HVA.out (Below.trans HW.out (Below.mono (by repeat (first | with_reducible exact Below.refl _ _ | refine Below.drew ?_ | refine Below.alloc ?_ (by simp <;> omega) _)) HW.out.size)) (by omega)) (rws_one HRW.out) (by simp [maxLen]; omega) (by omega) (by simp <;> omega) ?_; intro v9 w9 hown9 hgrow9; simp only [Nat.zero_add, List.nil_append] at hown9; obtain ⟨V9, c9, rfl, hc9⟩ := own_slice hown9; have h9 : Below w1.heap.size w1 w9 := Below.grown (by repeat (first | with_reducible exact Below.refl _ _ | refine Below.drew ?_ | refine Below.alloc ?_ (by simp <;> omega) _)) hgrow9 (by simp <;> omega) (by intro k hk; simp [Value.ownBlock] at hk; omega); (have t9 : Blk w9 w1.heap.size 25 #[.slice none 0 0, .slice none 0 0, .int .i64 0, .bool false] := grow_blk (w := ((w1.alloc (.cells #[.slice none 0 0, .slice none 0 0, .int .i64 0, .bool false] 25)).alloc (.cells #[] 35)).drew) ((Blk.new w1 25 _).alloc _) (by with_reducible exact hgrow9) (by simp [Value.ownBlock]); have t0 := t9.cell 0; have f0 := t9.frozen 0; have t1 := t9.cell 1; have f1 := t9.frozen 1; have t2 := t9.cell 2; have f2 := t9.frozen 2; have t3 := t9.cell 3; have f3 := t9.frozen 3; simp only [List.getElem?_toArray, List.getElem?_cons_zero, List.getElem?_cons_succ] at t0 t1 t2 t3))))
        all_goals
         go_wp2_with (fail)
         go_meet
         have h9s := h9.size
         refine ⟨_, V9, c9, rfl, ?_, ?_, ?_⟩
         · first | with_reducible exact rsb_new hc9 HRW.out hown9 | exact rsb_put t9 hc9 HRW.out hown9
         · repeat (first | with_reducible exact h9 | refine Below.setCell ?_ (by simp <;> omega) _ | refine Below.alloc ?_ (by omega) _ | refine Below.drew ?_)
         · (first | omega | (simp <;> omega))
      case rest =>
        obtain ⟨B, V, cp, rfl, ⟨xB, hcp, vs2, hR2, hown2⟩, hb7, lB⟩ := hcut
        clear x1c0 x1c1 x1c2 x1c3 x2c0 x2c1 x2c2 x2c3 x2f0 x2f1 x2f2 x2f3
        have HX1 := Lib.hid x1
        have HX2 := Lib.hid x2
        have HW := Lib.hid hw
        clear x1 x2 hw
        go_wp2_with (fail)
        go_loopw [7] (fun v7 wr => ∃ j : Nat, j ≤ m ∧ v7 = .int .i64 j ∧ RsB n₀ w wr w1.heap.size d.secs.length d.left (perfL d.secs (d.pend.take j)) B V cp ∧ Below w1.heap.size w1 wr) (fun v7 _ => m - (intOf v7).toNat)
        case atStart => exact ⟨0, by omega, rfl, ⟨xB, hcp, vs2, by rw [List.take_zero]; exact hR2, hown2⟩, hb7⟩
        case round =>
          clear xB hcp hR2 hown2 hb7
          obtain ⟨j, hj, rfl, ⟨xB, hcp, vs2, hR2, hown2⟩, hb7⟩ := hrel
          have x1 := HX1.out.below hb7 HX1.out.lt
          have x2 := HX2.out.below hb7 HX2.out.lt
          have hbw := HW.out.trans (hb7.mono HW.out.size)
          by_cases hlt : j < m
          case pos =>
            have dj : (j : Int) < (d.pend.length : Int) := by have := HM.out; omega
            obtain ⟨b, o, hPA, hb, hc⟩ := HQ0.out.get (by omega)
            subst hPA
            obtain ⟨z0, UA, uc, z1, hcu, hbu⟩ := hc j (by omega)
            replace z0 := (hbw.cell (p := ⟨b, _, none⟩) hb).trans z0
            replace z1 := (hbw.cell (p := ⟨b, _, none⟩) hb).trans z1
            have hmem : d.pend.getD j wr0 ∈ d.pend := by rw [List.getD_eq_getElem?_getD, List.getElem?_eq_getElem (by omega)]; exact List.getElem_mem _
            obtain ⟨ha0, ha1, ha2⟩ := HPE.out _ hmem
            have hst := perfL_snoc d.secs (d.pend.take j) (d.pend.getD j wr0)
            rw [← take_snocW d.pend j (by omega)] at hst
            obtain ⟨⟨xa, xd⟩, hx⟩ : ∃ x, x = d.pend.getD j wr0 := ⟨_, rfl⟩
            rw [← hx] at z0 z1 hcu hbu ha0 ha1 ha2 hst
            dsimp only at z0 z1 hcu hbu ha0 ha1 ha2
            rw [ha2] at z1
            obtain ⟨k, rfl⟩ : ∃ k : Nat, xa = k := ⟨xa.toNat, by omega⟩
            obtain ⟨gr, rfl, hg1, hg2⟩ := own_some hown2 (by omega)
            have hfk := hown2.frozenAt k
            obtain ⟨cv, hcv⟩ : ∃ cv, wr.cell? ⟨gr, k, none⟩ = some cv := by
              rw [hown2.cellAt k (by omega)]
              exact ⟨vs2[k]'(by have := hown2.1; omega), List.getElem?_eq_getElem _⟩
            have hBg : B ≠ gr := by obtain ⟨cs, hcs⟩ := own_is hown2; exact Blk.ne xB hcs (by decide)
            have hq : RsB n₀ w (wr.setCell ⟨gr, k, none⟩ (.slice UA 128 uc)) w1.heap.size d.secs.length d.left (perfL d.secs (d.pend.take (j + 1))) B (some ⟨gr, 0, none⟩) cp ∧ Below w1.heap.size w1 (wr.setCell ⟨gr, k, none⟩ (.slice UA 128 uc)).drew := by
              refine ⟨⟨xB.other (p := ⟨gr, k, none⟩) hBg _, hcp, vs2.set k (.slice UA 128 uc), ?_, (hown2.stored k _).1⟩, (hb7.setCell hg1 _).drew⟩
              rw [hst]
              exact hR2.set k ⟨UA, uc, by rw [ha2], hcu, hbu⟩
            have HQ := Lib.hid hq
            have c1 := x1.cell 1
            have c2 := xB.cell 0
            simp only [List.getElem?_toArray, List.getElem?_cons_zero, List.getElem?_cons_succ] at c1 c2
            have k0 : (0 : Int) ≤ (j : Int) := by omega
            have k1 : (j : Int) < (d.pend.length : Int) := by omega
            have k2 : (0 : Int) ≤ (k : Int) := by omega
            have k3 : (k : Int) < (d.secs.length : Int) := by omega
            clear hq xB hR2 hown2 hb7 x1 x2 hbw hc hbu hst hmem hx hBg
            go_upto_region 11 with (fail)
            go_region
            all_goals
              (try go_wp2_with (fail))
              go_roundw
              case rel =>
                obtain ⟨hq1, hq2⟩ := HQ.out
                exact ⟨j + 1, by omega, by go_num, hq1, hq2⟩
              case measure => simp [intOf] <;> omega
          case neg =>
            obtain rfl : j = m := by omega
            clear hlt
            have hmm := HM.out
            rw [hmm, List.take_length] at hR2
            have dj : ¬ (j : Int) < (d.pend.length : Int) := by omega
            clear hmm
            have HR := Lib.hid hR2
            have HO := Lib.hid hown2
            have HBW := Lib.hid hbw
            have HB7 := Lib.hid hb7
            clear hR2 hown2 hbw hb7 x1
            by_cases k8 : 0 ≤ d.left
            case pos =>
              have hif : (if 0 ≤ d.left then d.left - (d.pend.length : Int) else d.left) = d.left - d.pend.length := if_pos k8
              rw [hif] at E
              have hwr : IntKind.i64.wrap (d.left - (d.pend.length : Int)) = d.left - d.pend.length := IntWalk.i64_in _ (by have := HRU.out.1.2.2.2.2.1; omega)
              have HWR := Lib.hid hwr
              clear hif hwr
              have xBc0 := xB.cell 0
              have xBf0 := xB.frozen 0
              have xBc1 := xB.cell 1
              have xBf1 := xB.frozen 1
              have xBc2 := xB.cell 2
              have xBf2 := xB.frozen 2
              have xBc3 := xB.cell 3
              have xBf3 := xB.frozen 3
              simp only [List.getElem?_toArray, List.getElem?_cons_zero, List.getElem?_cons_succ] at xBc0 xBc1 xBc2 xBc3
              have xBl := xB.lt
              have hwr := HWR.out
              go_upto_region 20 with (fail)
              obtain ⟨W9, hW9⟩ : ∃ W, W = wr.setCell ⟨B, 2, none⟩ (.int .i64 (d.left - (d.pend.length : Int))) := ⟨_, rfl⟩
              rw [← hW9]
              have y2 : Blk W9 (w.heap.size + 1) 25 #[.slice none 0 0, .slice none 0 0, .int .i64 0, .bool false] := by rw [hW9]; exact x2.other (p := ⟨B, 2, none⟩) (show w.heap.size + 1 ≠ B by omega) _
              have yB : Blk W9 B 25 #[.slice V d.secs.length cp, .slice none 0 0, .int .i64 (d.left - (d.pend.length : Int)), .bool false] := by rw [hW9]; exact xB.set 2 _
              have ho9 : W9.ownsRow w1.heap.size 35 1 (.slice V d.secs.length cp) d.secs.length vs2 := by rw [hW9]; exact ownsRow_setCell_other HO.out (a := ⟨B, 2, none⟩) (own_apart HO.out xB (by decide)) _
              have hb9 : Below w.heap.size w W9 := by rw [hW9]; exact HBW.out.setCell (show w.heap.size ≤ B by omega) _
              have HO9 := Lib.hid ho9
              have HB9 := Lib.hid hb9
              clear hW9 x2 ho9 hb9
              clear xBf0 xBf1 xBf2 xBf3 xBc0 xBc1 xBc2 xBc3 xBl
              clear xB
              have yBc0 := yB.cell 0
              have yBc1 := yB.cell 1
              have yBc2 := yB.cell 2
              have yBc3 := yB.cell 3
              simp only [List.getElem?_toArray, List.getElem?_cons_zero, List.getElem?_cons_succ] at yBc0 yBc1 yBc2 yBc3
              have yBl := yB.lt
              have y2c0 := y2.cell 0
              have y2f0 := y2.frozen 0
              have y2c1 := y2.cell 1
              have y2f1 := y2.frozen 1
              have y2c2 := y2.cell 2
              have y2f2 := y2.frozen 2
              have y2c3 := y2.cell 3
              have y2f3 := y2.frozen 3
              simp only [List.getElem?_toArray, List.getElem?_cons_zero, List.getElem?_cons_succ] at y2c0 y2c1 y2c2 y2c3
              have y2l := y2.lt
              go_wp2
              refine bodyPost_ret (v := .tuple #[.agg #[.slice V d.secs.length cp, .slice none 0 0, .int .i64 (d.left - (d.pend.length : Int)), .bool false], .int .i64 0]) (by simp [results, Try.results37, go_sem, y2c0, y2c1, y2c2, y2c3]) rfl ?_
              rw [E.out]
              exact rsb_end (base := w1.heap.size) (perfL_len _ _).symm hcp HR.out (by repeat (first | with_reducible exact HO9.out | refine ownsRow_setCell_below ?_ (by simp <;> omega) _)) (by repeat (first | with_reducible exact HB9.out | refine Below.setCell ?_ (by simp <;> omega) _))
            have hif : (if 0 ≤ d.left then d.left - (d.pend.length : Int) else d.left) = d.left := if_neg k8
            rw [hif] at E
            clear hif
            have yB := xB
            have y2 := x2
            clear xB x2
            have yBc0 := yB.cell 0
            have yBc1 := yB.cell 1
            have yBc2 := yB.cell 2
            have yBc3 := yB.cell 3
            simp only [List.getElem?_toArray, List.getElem?_cons_zero, List.getElem?_cons_succ] at yBc0 yBc1 yBc2 yBc3
            have yBl := yB.lt
            have y2c0 := y2.cell 0
            have y2f0 := y2.frozen 0
            have y2c1 := y2.cell 1
            have y2f1 := y2.frozen 1
            have y2c2 := y2.cell 2
            have y2f2 := y2.frozen 2
            have y2c3 := y2.cell 3
            have y2f3 := y2.frozen 3
            simp only [List.getElem?_toArray, List.getElem?_cons_zero, List.getElem?_cons_succ] at y2c0 y2c1 y2c2 y2c3
            have y2l := y2.lt
            go_wp2
            refine bodyPost_ret (v := .tuple #[.agg #[.slice V d.secs.length cp, .slice none 0 0, .int .i64 d.left, .bool false], .int .i64 0]) (by simp [results, Try.results37, go_sem, y2c0, y2c1, y2c2, y2c3]) rfl ?_
            rw [E.out]
            exact rsb_end (base := w1.heap.size) (perfL_len _ _).symm hcp HR.out (by repeat (first | with_reducible exact HO.out | refine ownsRow_setCell_below ?_ (by simp <;> omega) _)) (by repeat (first | with_reducible exact HBW.out | refine Below.setCell ?_ (by simp <;> omega) _))
end Go.Proofs.Ytckeopidedoohaa
