/-
  What the law of the history holds in memory: acts in a row of the law's own, arrays of four bytes. Conditions: none.
-/
import Derived.Test.YtckeopidedoohaaDac
import Derived.Test.YtckeopidedoohaaDho
namespace Go.Proofs.Ytckeopidedoohaa
open Go.RowKit
variable {n₀ : Nat}

/-- The cells of an act. -/
def acV (a : Ac) : List Value := [.bool a.sync, u8v a.at_, u8v a.byte]
/-- The cells of acts. -/
def acs : List Ac → List Value
  | [] => []
  | a :: l => acV a ++ acs l
theorem acs_len (l : List Ac) : (acs l).length = l.length * 3 := by
  induction l with
  | nil => rfl
  | cons a l ih => simp only [acs, acV, List.length_append, List.length_cons, List.length_nil, ih]; omega
theorem acs_append (l m : List Ac) : acs (l ++ m) = acs l ++ acs m := by
  induction l with
  | nil => rfl
  | cons a l ih => simp only [List.cons_append, acs, ih, List.append_assoc]
theorem acs_get (l : List Ac) (i : Nat) (h : i < l.length) : (acs l)[i * 3 + 1]? = some (u8v (l.getD i ac0).at_) ∧ (acs l)[i * 3 + 2]? = some (u8v (l.getD i ac0).byte) := by
  induction l generalizing i with
  | nil => simp at h
  | cons a l ih =>
    cases i with
    | zero => exact ⟨rfl, rfl⟩
    | succ i =>
      have := ih i (by simpa using h)
      rw [show (i + 1) * 3 + 1 = i * 3 + 1 + 3 by omega, show (i + 1) * 3 + 2 = i * 3 + 2 + 3 by omega]
      exact this
theorem acv_one (a : Ac) : ∀ u ∈ acV a, u.oneCell' = true := fun u hu => by
  simp only [acV, List.mem_cons, List.not_mem_nil, or_false] at hu
  rcases hu with rfl | rfl | rfl <;> rfl
theorem cell_new_ac {W : World} {g : Nat} (a : Ac) (hg : W.heap.size = g) : ∀ j u, (acV a)[j]? = some u → (W.alloc (.cells #[.bool a.sync, .int .u8 a.at_.toNat, .int .u8 a.byte.toNat] 46)).cell? ((⟨g, 0, none⟩ : Addr).add j) = some u := fun j u hu => by
  subst hg
  have h1 := (Blk.new W 46 #[.bool a.sync, .int .u8 a.at_.toNat, .int .u8 a.byte.toNat]).cell j
  have e : (⟨W.heap.size, 0, none⟩ : Addr).add j = ⟨W.heap.size, j, none⟩ := by simp [Addr.add, eq_comm]
  rw [e, h1, ← hu]
  unfold acV u8v
  simp only [List.getElem?_toArray]
theorem ow_below {w w' : World} {base : Nat} {e : TypeId} {size : Nat} {v : Value} {n : Nat} {xs : List Value} (h : w.ownsRow base e size v n xs) (hb : Below w.heap.size w w') : w'.ownsRow base e size v n xs :=
  own_keep h (Keep.of_same hb (fun _ => False)) (fun _ _ h => h)
theorem own_boxes {w : World} {base : Nat} {v : Value} {n : Nat} {xs : List Value} (h : w.ownsRow base 46 3 v n xs) (hn : n₀ ≤ base) : Boxes n₀ w (fun r => v.ownBlock = some r) := fun r _ hb => by
  rcases h.2 with ⟨rfl, _⟩ | ⟨g, cap, cur, rfl, hg, hh, _⟩
  · simp [Value.ownBlock] at hb
  · simp [Value.ownBlock] at hb
    subst hb
    exact ⟨by omega, 46, cur, hh, rfl⟩
theorem own_bound {w : World} {base : Nat} {v : Value} {n : Nat} {xs : List Value} (h : w.ownsRow base 46 3 v n xs) {r : Nat} (hr : r < base) : ¬ (v.ownBlock = some r) := fun hb => by have := (h.lt r hb).1; omega

/-- A sector of the call's own, written to a disk that runs. -/
theorem th_write {S P : Option Addr} {s p g : Nat} {od ox : Dk} {at_ : Int} {bs : Bs} (W0 W : World) (hb : bs.length = 128) (hl1 : od.secs.length ≤ 9000) (hl2 : od.pend.length ≤ 9000) (hs : od.secs.length ≤ s) (hr : RowsAt n₀ W0 S od.secs) (hq : WrsAt n₀ W0 P od.pend) (hW : Below W0.heap.size W0 W) (h : Blk W g 5 (bcells bs).toArray) (hgw : gWrite od at_ bs = (ox, 0)) :
    Calls Try.prog 32 #[.agg #[.slice S od.secs.length s, .slice P od.pend.length p, .int .i64 od.left, .bool od.stop], .int .i64 at_, .slice (some ⟨g, 0, none⟩) 128 128] W (DkIs n₀ W (ox, 0)) := by
  have K := write_t S P (some ⟨g, 0, none⟩) s p 128 od at_ bs W (by omega) (by omega) (by omega) hs (hr.below hW) (hq.below hW) (blk_bs h)
  rw [hgw, hb] at K
  exact K
/-- Four bytes. -/
theorem four {f : Bs} (h : f.length = 4) : ∃ a b c d, f = [a, b, c, d] := by
  match f, h with
  | [a, b, c, d], _ => exact ⟨a, b, c, d, rfl⟩
/-- The disk that the history begins with. -/
theorem his_new (m : Nat) (hm : m ≤ 65536) : gStop (⟨List.replicate 4 zs, [], -1, false⟩ : Dk) (m : Int) = (hisD (List.replicate 4 zs) [] m, 0) := by
  have hr : Runs (⟨List.replicate 4 zs, [], -1, false⟩ : Dk) := ⟨⟨by simp, by simp, by simp, by simp, by simp, by simp, by simp [zs_len]⟩, rfl⟩
  rw [gStop_ok hr (by omega)]
  rfl
theorem hv_zero : Hv (List.replicate 4 zs) [0, 0, 0, 0] [0, 0, 0, 0] := by
  refine ⟨rfl, rfl, rfl, fun i hi => ?_⟩
  have e : ∀ x : Bs, ∀ j, j < 4 → (List.replicate 4 x).getD j [] = x := fun x j hj => by
    rw [List.getD_eq_getElem?_getD, List.getElem?_replicate, if_pos hj]
    rfl
  have e0 : ∀ j, j < 4 → ([0, 0, 0, 0] : Bs).getD j 0 = 0 := fun j hj => by
    match j, hj with
    | 0, _ => rfl
    | 1, _ => rfl
    | 2, _ => rfl
    | 3, _ => rfl
  rw [e _ _ hi, e0 _ hi, zs_hv]

/-- Behind a restart the halves are as they were written. -/
theorem back_holds {S : Option Addr} {s0 : Nat} {secs : List Bs} {f s : Bs} (W0 W : World) (h : Hv secs f s) (hr : RowsAt n₀ W0 S secs) (hb : Below W0.heap.size W0 W) :
    Calls Try.prog 41 #[.agg #[.slice S secs.length s0, .slice none 0 0, .int .i64 (-1), .bool false], .agg (bcells f).toArray, .agg (bcells s).toArray] W fun e w' => e = .returned (.bool true) ∧ Below W.heap.size W w' := by
  have hru : Runs (⟨secs, [], -1, false⟩ : Dk) := ⟨⟨by simp [h.1], by simp [h.1], by simp, by simp, by simp, by simp, h.all⟩, rfl⟩
  exact holds_t S none s0 0 (⟨secs, [], -1, false⟩ : Dk) f s W hru h.1 h.2.1 h.2.2.1 h.2.2.2 (hr.below hb) (WrsAt.nil _ _)
/-- Each sector is read as it was written last. -/
theorem his_holds {S P : Option Addr} {s0 p0 : Nat} {od : Dk} {la : Bs} (W : World) (hr : Runs od) (hl : od.secs.length = 4) (h : Ls od la) (h1 : RowsAt n₀ W S od.secs) (h2 : WrsAt n₀ W P od.pend) :
    Calls Try.prog 41 #[.agg #[.slice S od.secs.length s0, .slice P od.pend.length p0, .int .i64 od.left, .bool od.stop], .agg (bcells la).toArray, .agg (bcells la).toArray] W fun e w' => e = .returned (.bool true) ∧ Below W.heap.size W w' :=
  holds_t S P s0 p0 od la la W hr hl h.1 h.1 h.2 h1 h2
end Go.Proofs.Ytckeopidedoohaa
