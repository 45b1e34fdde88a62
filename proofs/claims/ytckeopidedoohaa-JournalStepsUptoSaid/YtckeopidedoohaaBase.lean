/-
  Words for memory that no program is named in: slices of integers that read as lists, worlds that only draw, a struct's or slice's row that the call owns.
-/
import Derived.Test.YtckeopidedoohaaRows
import Derived.WalkKit
import Derived.WalkSpells
import Derived.WalkLawsBesides
import Derived.BigQuiet
import Derived.Deep.QuietTactic
import Derived.Lib.Hide
namespace Go.Proofs.Ytckeopidedoohaa
open Go.RowKit

theorem below_drewN {B : Nat} {a w : World} (h : Below B a w) (n : Nat) : Below B a (w.drewN n) := ⟨h.os, h.tape, h.output, h.size, h.block⟩
theorem below_of_drewN {w w' : World} (h : ∃ m, w' = w.drewN m) : Below w.heap.size w w' := by
  obtain ⟨m, rfl⟩ := h
  exact below_drewN (Below.refl _ _) _
/-- Two steps, each of which leaves alone what lay when it began. -/
theorem below_join {a b c : World} (h : Below a.heap.size a b) (k : Below b.heap.size b c) : Below a.heap.size a c := h.trans (k.mono h.size)

/-- What lay below a block reads as it did: as rules to rewrite by. -/
theorem bcell {n₀ : Nat} {w w' : World} (h : Below n₀ w w') : (∀ b o s, b < n₀ → w'.cell? ⟨b, o, s⟩ = w.cell? ⟨b, o, s⟩) ∧ (∀ b o s, b < n₀ → w'.frozen? ⟨b, o, s⟩ = w.frozen? ⟨b, o, s⟩) :=
  ⟨fun b o s hb => h.cell (p := ⟨b, o, s⟩) hb, fun b o s hb => h.frozen (p := ⟨b, o, s⟩) hb⟩

theorem results_tmp4 {fn : Func} {t u v x : Tmp} (h : fn.results = #[.tmp t, .tmp u, .tmp v, .tmp x]) (tmps : Array Value) (P : Program) (w : World) :
    (results fn tmps).run P w = .ok (.tuple #[tmps.getD t undef, tmps.getD u undef, tmps.getD v undef, tmps.getD x undef]) w := by simp [results, h]

/-- An element of a list of integers; 0 behind its end. -/
def gi (xs : List Int) (i : Nat) : Int := xs.getD i 0

/-- A slice's address at which integers lie. -/
def IntsAt (k : IntKind) (w : World) (A : Option Addr) (xs : List Int) : Prop :=
  0 < xs.length → ∃ b o, A = some ⟨b, o, none⟩ ∧ b < w.heap.size ∧ ∀ i, i < xs.length → w.cell? ⟨b, o + i, none⟩ = some (.int k (gi xs i))

theorem IntsAt.below {k : IntKind} {w w' : World} {A : Option Addr} {xs : List Int} (h : IntsAt k w A xs) (hb : Below w.heap.size w w') : IntsAt k w' A xs := fun h0 => by
  obtain ⟨b, o, e, hlt, hc⟩ := h h0
  exact ⟨b, o, e, Nat.lt_of_lt_of_le hlt hb.size, fun i hi => (hb.cell (p := ⟨b, _, none⟩) hlt).trans (hc i hi)⟩
theorem IntsAt.nil (k : IntKind) (w : World) (A : Option Addr) : IntsAt k w A [] := fun h => absurd h (by simp)

theorem gi_ext {xs ys : List Int} (hl : xs.length = ys.length) (h : ∀ i, i < xs.length → gi xs i = gi ys i) : xs = ys := by
  refine List.ext_getElem hl fun i h1 h2 => ?_
  have := h i h1
  simpa [gi, h1, h2] using this

/-- What the call owns reads as a list. -/
theorem IntsAt.of_own {k : IntKind} {w : World} {base : Nat} {e : TypeId} {A : Option Addr} {n c : Nat} {xs : List Int} (h : w.ownsRow base e 1 (.slice A n c) n (xs.map (Value.int k))) : n = xs.length ∧ IntsAt k w A xs := by
  have hl : n = xs.length := by simpa using h.1.symm
  refine ⟨hl, fun h0 => ?_⟩
  rcases h.2 with ⟨_, hn⟩ | ⟨g, cap, cur, hv, _, hh, _⟩
  · omega
  · have hA : A = some ⟨g, 0, none⟩ := by injection hv
    subst hA
    refine ⟨g, 0, rfl, (Array.getElem?_eq_some_iff.1 hh).1, fun i hi => ?_⟩
    have := h.cells (g := g) rfl i (.int k (gi xs i)) (by simp [gi, hi])
    simpa [Addr.add_lit] using this
end Go.Proofs.Ytckeopidedoohaa
