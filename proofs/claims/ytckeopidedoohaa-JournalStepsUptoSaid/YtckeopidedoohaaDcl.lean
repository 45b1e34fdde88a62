/-
  Copies of slices: what slices.Clone and slices.Clip answer. Conditions: the slice lies as plain data.
-/
import Derived.Test.YtckeopidedoohaaDk
import Derived.Test.YtckeopidedoohaaApp
import Derived.WalkSpells
import Derived.Lib.SliceRun
namespace Go.Proofs.Ytckeopidedoohaa
open Go.RowKit
variable {n₀ : Nat}
attribute [local go_sem] Oper.semAt_some

theorem info5 : (Try.prog.info? 5).map (fun i => (i.zero, i.size, i.bytes)) = some (some (.int .u8 0), 1, 1) := by kernel_rfl
theorem info35 : (Try.prog.info? 35).map (fun i => (i.zero, i.size, i.bytes)) = some (some (.slice none 0 0), 1, 24) := by kernel_rfl
theorem info90 : (Try.prog.info? 90).map (fun i => (i.zero, i.size, i.bytes)) = some (some (.agg #[.int .i64 0, .slice none 0 0]), 2, 32) := by kernel_rfl
theorem own_slice {w : World} {base : Nat} {e : TypeId} {size : Nat} {v : Value} {n : Nat} {xs : List Value} (h : w.ownsRow base e size v n xs) : ∃ A c, v = .slice A n c ∧ n ≤ c := by
  rcases h.2 with ⟨rfl, rfl⟩ | ⟨g, cap, cur, rfl, _, _, hnc, _⟩
  · exact ⟨none, 0, rfl, Nat.le_refl _⟩
  · exact ⟨_, _, rfl, hnc⟩
theorem own_some {w : World} {base : Nat} {e : TypeId} {size : Nat} {A : Option Addr} {n c : Nat} {xs : List Value} (h : w.ownsRow base e size (.slice A n c) n xs) (hn : 0 < n) : ∃ g, A = some ⟨g, 0, none⟩ ∧ base ≤ g ∧ g < w.heap.size := by
  rcases h.2 with ⟨h1, _⟩ | ⟨g, cap, cur, hv, hb, hh, _⟩
  · cases h1
    omega
  · have hA : A = some ⟨g, 0, none⟩ := by injection hv
    exact ⟨g, hA, hb, (Array.getElem?_eq_some_iff.1 hh).1⟩
theorem own_lies {w : World} {base g : Nat} {e : TypeId} {size n c : Nat} {xs : List Value} (h : w.ownsRow base e size (.slice (some ⟨g, 0, none⟩) n c) n xs) (ht : rowT e = true) : Lies n₀ w g := by
  rcases h.2 with ⟨h1, _⟩ | ⟨g', cap, cur, hv, _, hh, _⟩
  · cases h1
  · injection hv with e1 _ _
    injection e1 with e1
    injection e1 with e1 _ _
    subst e1
    exact ⟨(Array.getElem?_eq_some_iff.1 hh).1, .inr ⟨_, _, _, hh, ht⟩⟩
theorem own_base {w : World} {base : Nat} {e : TypeId} {size : Nat} {v : Value} {n : Nat} {xs : List Value} (h : w.ownsRow base e size v n xs) : ∀ k, v.ownBlock = some k → base ≤ k := fun k hk => (h.lt k hk).1
theorem row_keep {w w' : World} {base : Nat} {e : TypeId} {size : Nat} {v : Value} {n : Nat} {xs : List Value} (h : w.ownsRow base e size v n xs) (hb : Below w.heap.size w w') : w'.ownsRow base e size v n xs := by
  refine ⟨h.1, ?_⟩
  rcases h.2 with h2 | ⟨g, cap, cur, rfl, hg, hh, r⟩
  · exact .inl h2
  · exact .inr ⟨g, cap, cur, rfl, hg, (hb.block g (Array.getElem?_eq_some_iff.1 hh).1).trans hh, r⟩
theorem addr_add (b o k : Nat) : (⟨b, o, none⟩ : Addr).add k = ⟨b, o + k, none⟩ := by
  unfold Addr.add
  split
  · rename_i h; rw [h]; rfl
  · rfl

/-- The cells of bytes. -/
def bcells (bs : Bs) : List Value := bs.map u8v
theorem bcells_len (bs : Bs) : (bcells bs).length = bs.length := by simp [bcells]
theorem bcells_one (bs : Bs) : ∀ u ∈ bcells bs, u.oneCell' = true := fun u hu => by
  obtain ⟨b, _, rfl⟩ := List.mem_map.1 hu
  rfl
theorem bcells_get (bs : Bs) (i : Nat) (hi : i < bs.length) : (bcells bs)[i]? = some (u8v (bs.getD i 0)) := by simp [bcells, List.getD, hi]
theorem bs_src {w w' : World} {A : Option Addr} {bs : Bs} (h : BsAt n₀ w A bs) (hb : Below w.heap.size w w') : 0 < bs.length → ∃ ad, A = some ad ∧ ∀ j u, (bcells bs)[j]? = some u → w'.cell? (ad.add j) = some u := fun h0 => by
  obtain ⟨b, o, e, hlt, hc⟩ := h h0
  refine ⟨_, e, fun j u hu => ?_⟩
  have hj : j < bs.length := by rw [← bcells_len]; exact (List.getElem?_eq_some_iff.1 hu).1
  rw [bcells_get bs j hj] at hu
  cases hu
  rw [addr_add]
  exact (hb.cell (p := ⟨b, _, none⟩) hlt.lt).trans (hc j hj)
theorem own_BsAt {w : World} {base n c : Nat} {A : Option Addr} {bs : Bs} (h : w.ownsRow base 5 1 (.slice A n c) n (bcells bs)) (hn : n = bs.length) : BsAt n₀ w A bs := fun h0 => by
  obtain ⟨g, rfl, _, hlt⟩ := own_some h (by omega)
  refine ⟨g, 0, rfl, own_lies h rfl, fun i hi => ?_⟩
  rw [Nat.zero_add, h.cellAt i (by omega), bcells_get bs i hi]
theorem vals_src {w w' : World} {A : Option Addr} {vs : List Value} (h : ValsAt n₀ w A vs) (hb : Below w.heap.size w w') : 0 < vs.length → ∃ ad, A = some ad ∧ ∀ j u, vs[j]? = some u → w'.cell? (ad.add j) = some u := fun h0 => by
  obtain ⟨b, o, e, hlt, hc⟩ := h h0
  refine ⟨_, e, fun j u hu => ?_⟩
  have hj : j < vs.length := (List.getElem?_eq_some_iff.1 hu).1
  have e2 : vs.getD j undef = u := by simp [List.getD, hu]
  rw [addr_add]
  exact (hb.cell (p := ⟨b, _, none⟩) hlt.lt).trans (by rw [hc j hj, e2])
theorem rws_one {w : World} {vs : List Value} {rs : List Bs} (h : Rws n₀ w vs rs) : ∀ u ∈ vs, u.oneCell' = true := fun u hu => by
  obtain ⟨i, hi, rfl⟩ := List.getElem_of_mem hu
  obtain ⟨A, c, e, _, _⟩ := h.2 i (by rw [← h.1]; exact hi)
  have : vs.getD i undef = vs[i] := by simp [List.getD, hi]
  rw [← this, e]
  rfl
theorem own_ValsAt {w : World} {base n c : Nat} {A : Option Addr} {vs : List Value} (h : w.ownsRow base 35 1 (.slice A n c) n vs) (hn : n = vs.length) : ValsAt n₀ w A vs := fun h0 => by
  obtain ⟨g, rfl, _, hlt⟩ := own_some h (by omega)
  refine ⟨g, 0, rfl, own_lies h rfl, fun i hi => ?_⟩
  rw [Nat.zero_add, h.cellAt i (by omega)]
  simp [List.getD, hi]
theorem wcells_one {l : List Wr} {w : World} {vs : List Value} (h : Rws n₀ w vs (l.map Wr.data)) : ∀ u ∈ flatW l vs, u.oneCell' = true := fun u hu => by
  have hl : vs.length = l.length := by have := h.1; simpa using this
  obtain ⟨i, hi, rfl⟩ := List.getElem_of_mem hu
  rw [flatW_len] at hi
  obtain ⟨f1, f2⟩ := flatW_get l vs hl (i / 2) (by omega)
  obtain ⟨A, c, e, _, _⟩ := h.2 (i / 2) (by simp; omega)
  rcases (show i % 2 = 0 ∨ i % 2 = 1 by omega) with hr | hr
  · have : (flatW l vs)[i]? = some (.int .i64 (l.getD (i / 2) wr0).at_) := by rw [← f1]; congr 1; omega
    rw [List.getElem?_eq_getElem (by rw [flatW_len]; omega)] at this
    injection this with this
    rw [this]
    rfl
  · have : (flatW l vs)[i]? = some (vs.getD (i / 2) undef) := by rw [← f2]; congr 1; omega
    rw [List.getElem?_eq_getElem (by rw [flatW_len]; omega)] at this
    injection this with this
    rw [this, e]
    rfl
theorem own_WrsAt {w : World} {base n c : Nat} {A : Option Addr} {l : List Wr} {vs : List Value} (h : w.ownsRow base 90 2 (.slice A n c) n (flatW l vs)) (hn : n = l.length) (hr : Rws n₀ w vs (l.map Wr.data)) : WrsAt n₀ w A l := ⟨vs, hr, fun h0 => by
  obtain ⟨g, rfl, _, hlt⟩ := own_some h (by omega)
  refine ⟨g, 0, rfl, own_lies h rfl, fun i hi => ?_⟩
  rw [Nat.zero_add, h.cellAt i (by omega)]⟩

/-- A slice of the call's own that holds some cells. -/
def OwnIs (w : World) (E size n : Nat) (xs : List Value) (e : Ending) (w' : World) : Prop := ∃ v, e = .returned v ∧ w'.ownsRow w.heap.size E size v n xs ∧ Below w.heap.size w w'

set_option maxRecDepth 20000 in
set_option maxHeartbeats 1000000 in
theorem cloneB_t (A : Option Addr) (n c : Nat) (bs : Bs) (w : World) (hn : n = bs.length) (h : BsAt n₀ w A bs) (hm : n ≤ 1000000000) :
    Calls Try.prog 80 #[.slice A n c] w (OwnIs w 5 1 n (bcells bs)) := by
  obtain ⟨i0, hi0, hz0, hz1, hz2⟩ := info_parts info5
  cases A with
  | none =>
    have h0 : n = 0 := by
      rcases Nat.eq_zero_or_pos n with h0 | h0
      · exact h0
      · obtain ⟨ad, e, _⟩ := bs_src h (Below.refl _ _) (by omega)
        cases e
    subst h0
    have hxs : (bcells bs) = [] := List.eq_nil_of_length_eq_zero (by rw [bcells_len]; omega)
    rw [hxs]
    clear hn hxs h hm hi0 hz0 hz1 hz2
    have heq := fun (W : World) => Lib.run_eql_slice_nil (P := Try.prog) W 35 5 none 0 c 0 0 Try.underlying35
    go_enter Try.func80, Try.ntmps80
    go_wp2
    go_ret
    exact ⟨_, rfl, World.ownsRow_nil _ _ _ _, Below.refl _ _⟩
  | some ad =>
    have ow := World.ownsRow_lit (base := w.heap.size) (e := 5) (size := 1) w #[] 0 (Nat.le_refl _) (by simp [maxLen]) rfl
    have hal : Below w.heap.size w (w.alloc (.cells #[] 5)) := (Below.refl _ _).alloc (Nat.le_refl _) _
    have hcl : (bcells bs).length = n * 1 := (by rw [bcells_len]; omega)
    have hsrc : 0 < n → ∃ a, some ad = some a ∧ ∀ j u, (bcells bs)[j]? = some u → (w.alloc (.cells #[] 5)).cell? (a.add j) = some u := fun hp => bs_src h hal (by omega)
    have HCL := Lib.hid hcl
    have HSRC := Lib.hid hsrc
    clear hn hcl hsrc h
    have heq := fun (W : World) => Lib.run_eql_slice_nil (P := Try.prog) W 35 5 (some ad) n c 0 0 Try.underlying35
    go_enter Try.func80, Try.ntmps80
    go_wp2_with (at_builtin; refine wpList_append_any (by rfl) (.tmp 5) (.tmp 6) 35 rfl w.heap.size 5 i0 (.int .u8 0) 1 1 Try.underlying35 hi0 hz0 hz1 hz2 rfl (by decide) _ 0 [] rfl ow (some ad) n c (bcells bs) rfl HCL.out HSRC.out (bcells_one bs) (by simp [maxLen]; omega) (by omega) (by simp) ?_; intro v7 w7 hown7 hgrow7; simp only [Nat.zero_add, List.nil_append] at hown7; have b7 := hal.grown hgrow7 (by simp) (own_base ow))
    go_ret
    exact ⟨_, rfl, hown7, b7⟩

set_option maxRecDepth 20000 in
set_option maxHeartbeats 1000000 in
theorem cloneR_t (A : Option Addr) (n c : Nat) (vs : List Value) (rs : List Bs) (w : World) (hn : n = vs.length) (hr : Rws n₀ w vs rs) (h : ValsAt n₀ w A vs) (hm : n ≤ 1000000000) :
    Calls Try.prog 103 #[.slice A n c] w (OwnIs w 35 1 n vs) := by
  obtain ⟨i0, hi0, hz0, hz1, hz2⟩ := info_parts info35
  cases A with
  | none =>
    have h0 : n = 0 := by
      rcases Nat.eq_zero_or_pos n with h0 | h0
      · exact h0
      · obtain ⟨ad, e, _⟩ := vals_src h (Below.refl _ _) (by omega)
        cases e
    subst h0
    have hxs : vs = [] := List.eq_nil_of_length_eq_zero (by omega)
    rw [hxs]
    clear hn hxs h hm hi0 hz0 hz1 hz2
    have heq := fun (W : World) => Lib.run_eql_slice_nil (P := Try.prog) W 22 35 none 0 c 0 0 Try.underlying22
    go_enter Try.func103, Try.ntmps103
    go_wp2
    go_ret
    exact ⟨_, rfl, World.ownsRow_nil _ _ _ _, Below.refl _ _⟩
  | some ad =>
    have ow := World.ownsRow_lit (base := w.heap.size) (e := 35) (size := 1) w #[] 0 (Nat.le_refl _) (by simp [maxLen]) rfl
    have hal : Below w.heap.size w (w.alloc (.cells #[] 35)) := (Below.refl _ _).alloc (Nat.le_refl _) _
    have hcl : vs.length = n * 1 := (by omega)
    have hsrc : 0 < n → ∃ a, some ad = some a ∧ ∀ j u, vs[j]? = some u → (w.alloc (.cells #[] 35)).cell? (a.add j) = some u := fun hp => vals_src h hal (by omega)
    have HCL := Lib.hid hcl
    have HSRC := Lib.hid hsrc
    clear hn hcl hsrc h
    have heq := fun (W : World) => Lib.run_eql_slice_nil (P := Try.prog) W 22 35 (some ad) n c 0 0 Try.underlying22
    go_enter Try.func103, Try.ntmps103
    go_wp2_with (at_builtin; refine wpList_append_any (by rfl) (.tmp 5) (.tmp 6) 22 rfl w.heap.size 35 i0 (.slice none 0 0) 1 24 Try.underlying22 hi0 hz0 hz1 hz2 rfl (by decide) _ 0 [] rfl ow (some ad) n c vs rfl HCL.out HSRC.out (rws_one hr) (by simp [maxLen]; omega) (by omega) (by simp) ?_; intro v7 w7 hown7 hgrow7; simp only [Nat.zero_add, List.nil_append] at hown7; have b7 := hal.grown hgrow7 (by simp) (own_base ow))
    go_ret
    exact ⟨_, rfl, hown7, b7⟩
theorem wsrc {w w' : World} {n : Nat} {A : Option Addr} {xs : List Value} (h : 0 < n → ∃ ad, A = some ad ∧ ∀ j u, xs[j]? = some u → w.cell? (ad.add j) = some u ∧ ad.block < w.heap.size) (hb : Below w.heap.size w w') : 0 < n → ∃ ad, A = some ad ∧ ∀ j u, xs[j]? = some u → w'.cell? (ad.add j) = some u := fun h0 => by
  obtain ⟨ad, e, hc⟩ := h h0
  refine ⟨ad, e, fun j u hu => ?_⟩
  obtain ⟨h1, h2⟩ := hc j u hu
  refine (hb.cell (p := ad.add j) ?_).trans h1
  unfold Addr.add
  split <;> exact h2

set_option maxRecDepth 20000 in
set_option maxHeartbeats 1000000 in
theorem cloneW_t (A : Option Addr) (n c : Nat) (l : List Wr) (vs : List Value) (w : World) (hn : n = l.length) (hr : Rws n₀ w vs (l.map Wr.data)) (h : 0 < n → ∃ ad, A = some ad ∧ ∀ j u, (flatW l vs)[j]? = some u → w.cell? (ad.add j) = some u ∧ ad.block < w.heap.size) (hm : n ≤ 1000000000) :
    Calls Try.prog 77 #[.slice A n c] w (OwnIs w 90 2 n (flatW l vs)) := by
  obtain ⟨i0, hi0, hz0, hz1, hz2⟩ := info_parts info90
  cases A with
  | none =>
    have h0 : n = 0 := by
      rcases Nat.eq_zero_or_pos n with h0 | h0
      · exact h0
      · obtain ⟨ad, e, _⟩ := wsrc h (Below.refl _ _) (by omega)
        cases e
    subst h0
    have hxs : (flatW l vs) = [] := List.eq_nil_of_length_eq_zero (by rw [flatW_len]; omega)
    rw [hxs]
    clear hn hxs h hm hi0 hz0 hz1 hz2
    have heq := fun (W : World) => Lib.run_eql_slice_nil (P := Try.prog) W 23 90 none 0 c 0 0 Try.underlying23
    go_enter Try.func77, Try.ntmps77
    go_wp2
    go_ret
    exact ⟨_, rfl, World.ownsRow_nil _ _ _ _, Below.refl _ _⟩
  | some ad =>
    have ow := World.ownsRow_lit (base := w.heap.size) (e := 90) (size := 2) w #[] 0 (Nat.le_refl _) (by simp [maxLen]) rfl
    have hal : Below w.heap.size w (w.alloc (.cells #[] 90)) := (Below.refl _ _).alloc (Nat.le_refl _) _
    have hcl : (flatW l vs).length = n * 2 := (by rw [flatW_len]; omega)
    have hsrc : 0 < n → ∃ a, some ad = some a ∧ ∀ j u, (flatW l vs)[j]? = some u → (w.alloc (.cells #[] 90)).cell? (a.add j) = some u := fun hp => wsrc h hal (by omega)
    have HCL := Lib.hid hcl
    have HSRC := Lib.hid hsrc
    clear hn hcl hsrc h
    have heq := fun (W : World) => Lib.run_eql_slice_nil (P := Try.prog) W 23 90 (some ad) n c 0 0 Try.underlying23
    go_enter Try.func77, Try.ntmps77
    go_wp2_with (at_builtin; refine wpList_append_any (by rfl) (.tmp 5) (.tmp 6) 23 rfl w.heap.size 90 i0 (.agg #[.int .i64 0, .slice none 0 0]) 2 32 Try.underlying23 hi0 hz0 hz1 hz2 rfl (by decide) _ 0 [] rfl ow (some ad) n c (flatW l vs) rfl HCL.out HSRC.out (wcells_one hr) (by simp [maxLen]; omega) (by omega) (by simp) ?_; intro v7 w7 hown7 hgrow7; simp only [Nat.zero_add, List.nil_append] at hown7; have b7 := hal.grown hgrow7 (by simp) (own_base ow))
    go_ret
    exact ⟨_, rfl, hown7, b7⟩
end Go.Proofs.Ytckeopidedoohaa
