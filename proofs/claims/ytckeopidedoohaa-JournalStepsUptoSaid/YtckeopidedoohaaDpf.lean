/-
  Writes performed on a disk's sectors. Conditions: the rows lie as plain data.
-/
import Derived.Test.YtckeopidedoohaaDsm
namespace Go.Proofs.Ytckeopidedoohaa
open Go.RowKit
variable {n₀ : Nat}
attribute [local go_sem] Oper.semAt_some

/-- Sectors behind one write. -/
def putW (rs : List Bs) (x : Wr) : List Bs := rs.set x.at_.toNat x.data
/-- Sectors behind some writes. -/
def perfL (rs : List Bs) (l : List Wr) : List Bs := l.foldl putW rs
theorem perfL_len (rs : List Bs) (l : List Wr) : (perfL rs l).length = rs.length := by
  unfold perfL
  induction l generalizing rs with
  | nil => rfl
  | cons x l ih => rw [List.foldl_cons, ih]; simp [putW]
theorem perfL_snoc (rs : List Bs) (l : List Wr) (x : Wr) : perfL rs (l ++ [x]) = putW (perfL rs l) x := by simp [perfL]
theorem Rws.set {w : World} {vs : List Value} {rs : List Bs} (h : Rws n₀ w vs rs) (k : Nat) {v : Value} {b : Bs} (hv : BsV n₀ w v b) : Rws n₀ w (vs.set k v) (rs.set k b) := by
  refine ⟨by simp [h.1], fun i hi => ?_⟩
  simp at hi
  by_cases hik : k = i
  · subst hik
    have e1 : (vs.set k v).getD k undef = v := by simp [List.getD, h.1, hi]
    have e2 : (rs.set k b).getD k [] = b := by simp [List.getD, hi]
    rw [e1, e2]
    exact hv
  · have e1 : (vs.set k v).getD i undef = vs.getD i undef := by simp [List.getD, hik]
    have e2 : (rs.set k b).getD i [] = rs.getD i [] := by simp [List.getD, hik]
    rw [e1, e2]
    exact h.2 i hi
/-- Rows of the call's own, what they hold lies in the old world. -/
def PfIs (n₀ : Nat) (w0 w : World) (n : Nat) (rs : List Bs) (e : Ending) (w' : World) : Prop := ∃ v vs, e = .returned v ∧ Rws n₀ w0 vs rs ∧ w'.ownsRow w.heap.size 35 1 v n vs ∧ Below w.heap.size w w'
def PfI (n₀ : Nat) (w0 w : World) (V : Value) (n : Nat) (rs : List Bs) (l : List Wr) (iv : Value) (wr : World) : Prop := ∃ (j : Nat) (vs : List Value), j ≤ l.length ∧ iv = .int .i64 j ∧ Rws n₀ w0 vs (perfL rs (l.take j)) ∧ wr.ownsRow w.heap.size 35 1 V n vs ∧ Below w.heap.size w wr

set_option maxRecDepth 20000 in
set_option maxHeartbeats 4000000 in
theorem perform_t (SA PA : Option Addr) (sc pc : Nat) (rs : List Bs) (l : List Wr) (w0 w : World) (hb0 : Below w0.heap.size w0 w) (hl1 : rs.length ≤ 1000000000) (hl2 : l.length ≤ 1000000000) (hat : ∀ x ∈ l, 0 ≤ x.at_ ∧ x.at_ < rs.length) (h1 : RowsAt n₀ w0 SA rs) (h2 : WrsAt n₀ w0 PA l) :
    Calls Try.prog 79 #[.slice SA rs.length sc, .slice PA l.length pc] w (PfIs n₀ w0 w rs.length (perfL rs l)) := by
  obtain ⟨vs0, hr0, hv0⟩ := h1
  have K := cloneR_t SA rs.length sc vs0 rs w hr0.1.symm (hr0.below hb0) (hv0.below hb0) hl1
  obtain ⟨n, hn⟩ : ∃ n, n = rs.length := ⟨_, rfl⟩
  rw [← hn] at K ⊢
  have HN := Lib.hid hn
  have HAT := Lib.hid hat
  have H2 := Lib.hid h2
  have HR0 := Lib.hid hr0
  clear hv0 hat hn hr0 h2
  go_enter Try.func79, Try.ntmps79
  go_wp2_with (fail)
  go_at_call 103
  refine K.mono ?_
  rintro e w2 ⟨V, rfl, hown2, hw2⟩
  clear K
  go_wp2_with (fail)
  go_loopw [12] (fun v wr => PfI n₀ w0 w V n rs l v wr) (fun v _ => l.length - (intOf v).toNat)
  case atStart => exact ⟨0, vs0, by omega, rfl, by rw [List.take_zero]; exact HR0.out, hown2, hw2⟩
  case round =>
    clear hown2 hw2
    obtain ⟨j, vs, hj, rfl, hR, hown, hwr⟩ := hrel
    by_cases hlt : j < l.length
    case neg =>
      obtain rfl : j = l.length := by omega
      clear hlt
      have HR := Lib.hid hR
      have HO := Lib.hid hown
      go_wp2
      go_ret
      exact ⟨V, vs, rfl, by have := HR.out; rw [List.take_length] at this; exact this, HO.out, hwr⟩
    case pos =>
      obtain ⟨b, o, rfl, hb, hc⟩ := H2.out.get (by omega)
      obtain ⟨g0, UA, uc, g1, hcu, hbu⟩ := hc j hlt
      replace g0 := ((hb0.trans (hwr.mono hb0.size)).cell (p := ⟨b, _, none⟩) hb).trans g0
      replace g1 := ((hb0.trans (hwr.mono hb0.size)).cell (p := ⟨b, _, none⟩) hb).trans g1
      have hbr := Nat.lt_of_lt_of_le hb (Nat.le_trans hb0.size hwr.size)
      have hmem : l.getD j wr0 ∈ l := by rw [List.getD_eq_getElem?_getD, List.getElem?_eq_getElem hlt]; exact List.getElem_mem hlt
      obtain ⟨ha0, ha1⟩ := HAT.out _ hmem
      have hst := perfL_snoc rs (l.take j) (l.getD j wr0)
      rw [← take_snocW l j hlt] at hst
      obtain ⟨⟨xa, xd⟩, hx⟩ : ∃ x, x = l.getD j wr0 := ⟨_, rfl⟩
      rw [← hx] at g0 g1 hcu hbu ha0 ha1 hst
      dsimp only at g0 g1 hcu hbu ha0 ha1
      obtain ⟨k, rfl⟩ : ∃ k : Nat, xa = k := ⟨xa.toNat, by omega⟩
      have hkn : k < n := by rw [HN.out]; omega
      obtain ⟨A, c, rfl, hnc⟩ := own_slice hown
      obtain ⟨g, rfl, hg1, hg2⟩ := own_some hown (by omega)
      have f0 : (wr.alloc (.cells #[.int .i64 k, .slice UA xd.length uc] 90)).frozen? ⟨g, k, none⟩ = false := (hown.alloc _).frozenAt k
      obtain ⟨cv, hcv⟩ : ∃ cv, (wr.alloc (.cells #[.int .i64 k, .slice UA xd.length uc] 90)).cell? ⟨g, k, none⟩ = some cv := by
        rw [(hown.alloc _).cellAt k (by omega)]
        exact ⟨vs[k]'(by have := hown.1; omega), List.getElem?_eq_getElem _⟩
      have HR := Lib.hid hR
      have HO := Lib.hid hown
      have HB := Lib.hid hbu
      have HC := Lib.hid hcu
      have HX := Lib.hid hst
      clear hc hR hbu hcu hown hst hx hmem
      go_wp2
      go_roundw
      case rel =>
        refine ⟨j + 1, vs.set k (.slice UA xd.length uc), by omega, by go_num, ?_, ((HO.out.stored k _).1.alloc _), (hwr.setCell hg1 _).alloc (by simpa using hwr.size) _⟩
        rw [HX.out]
        exact HR.out.set k ⟨UA, uc, rfl, HC.out, HB.out⟩
      case measure => simp [intOf]; omega
end Go.Proofs.Ytckeopidedoohaa
