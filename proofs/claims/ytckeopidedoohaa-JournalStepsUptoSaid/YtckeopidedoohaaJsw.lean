/-
  The calls of JournalSurvives on a disk between two steps: stop and sync.
-/
import Derived.Test.YtckeopidedoohaaJsr
namespace Go.Proofs.Ytckeopidedoohaa
open Go.RowKit
variable {n₀ : Nat}

theorem wrs_nil {w : World} {P : Option Addr} : WrsAt n₀ w P [] := ⟨[], ⟨rfl, fun i hi => absurd hi (by simp)⟩, fun h0 => absurd h0 (by simp)⟩
theorem stop_good {d : Dk} {ns g q : Nat} {K : List Bs} {S P : Option Addr} {s p : Nat} {w : World} (h : GoodD d ns K g) (h2 : ns ≤ 4096) (hq : q ≤ 39) (hs : ns ≤ s) (r : RowsAt n₀ w S d.secs) :
    Calls Try.prog 38 #[.agg #[.slice S ns s, .slice P 0 p, .int .i64 (-1), .bool false], .int .i64 (q : Int)] w fun e w' => ∃ S s P p, e = .returned (.tuple #[.agg #[.slice S ns s, .slice P 0 p, .int .i64 (q : Int), .bool false], .int .i64 0]) ∧ ns ≤ s ∧ RowsAt n₀ w' S d.secs ∧ Below w.heap.size w w' := by
  obtain ⟨secs, pend, left, stop⟩ := d
  have hr := h.runs
  obtain rfl : pend = [] := h.pend
  obtain rfl : left = -1 := h.left
  obtain rfl : stop = false := h.runs.2
  obtain rfl : secs.length = ns := h.len
  have k := stop_t (n₀ := n₀) S P s p ⟨secs, [], -1, false⟩ q w (by dsimp only; omega) (Nat.zero_le _) hs (Nat.zero_le _) r wrs_nil
  rw [gStop_ok hr (by omega)] at k
  exact k.mono fun e w9 hx => by
    obtain ⟨v, rfl, ⟨S, s, P, p, rfl, h1, h2, h3, h4⟩, h5⟩ := hx
    exact ⟨S, s, P, p, rfl, h1, h3, h5⟩
theorem sync_good {d : Dk} {ns g : Nat} {lf : Int} {K rs : List Bs} {A S P : Option Addr} {c s p : Nat} {w : World} (h : GoodD d ns K g) (h2 : ns ≤ 4096) (hn : n₀ ≤ w.heap.size) (hsm : Sm rs) (hc : rs.length ≤ c) (hs : ns ≤ s) (ra : RowsAt n₀ w A rs) (r : RowsAt n₀ w S d.secs) {v : (Jn × Dk) × Int} (e : gJs ⟨rs, ns, K.length⟩ { d with left := lf } = v) :
    Calls Try.prog 53 #[.agg #[.slice A rs.length c, .int .i64 ns, .int .i64 K.length], .agg #[.slice S ns s, .slice P 0 p, .int .i64 lf, .bool false]] w (JsIs n₀ w v) := by
  obtain ⟨secs, pend, left, stop⟩ := d
  obtain rfl : pend = [] := h.pend
  obtain rfl : left = -1 := h.left
  obtain rfl : stop = false := h.runs.2
  obtain rfl : secs.length = ns := h.len
  subst e
  exact js_t (n₀ := n₀) A S P c s p ⟨rs, secs.length, K.length⟩ ⟨secs, [], lf, false⟩ w hn hsm hc (by dsimp only; omega) (Nat.zero_le _) hs (Nat.zero_le _) ra r wrs_nil
theorem sync_whole {d y : Dk} {ns g : Nat} {lf : Int} {K rs : List Bs} {A S P : Option Addr} {c s p : Nat} {w : World} (h : GoodD d ns K g) (h2 : ns ≤ 4096) (hn : n₀ ≤ w.heap.size) (hsm : Sm rs) (hc : rs.length ≤ c) (hs : ns ≤ s) (ra : RowsAt n₀ w A rs) (r : RowsAt n₀ w S d.secs) (e : gJs ⟨rs, ns, K.length⟩ { d with left := lf } = ((⟨rs, ns, rs.length⟩, y), 0)) (hy : y.secs.length = ns) :
    Calls Try.prog 53 #[.agg #[.slice A rs.length c, .int .i64 ns, .int .i64 K.length], .agg #[.slice S ns s, .slice P 0 p, .int .i64 lf, .bool false]] w fun e w' => ∃ A c S s P p, e = .returned (.tuple #[.agg #[.slice A rs.length c, .int .i64 ns, .int .i64 rs.length], .agg #[.slice S ns s, .slice P y.pend.length p, .int .i64 y.left, .bool y.stop], .int .i64 0]) ∧ RowsAt n₀ w' A rs ∧ ns ≤ s ∧ RowsAt n₀ w' S y.secs ∧ Below w.heap.size w w' :=
  (sync_good h h2 hn hsm hc hs ra r e).mono fun e w9 hx => by
    obtain ⟨A5, c5, S5, s5, P5, p5, rfl, hc5, r5, hs5, hp5, r5s, q5, hB⟩ := js_out hx
    rw [hy] at hs5 ⊢
    exact ⟨A5, c5, S5, s5, P5, p5, rfl, r5, hs5, r5s, hB⟩
theorem sync_part {d y : Dk} {ns g : Nat} {lf : Int} {K rs : List Bs} {A S P : Option Addr} {c s p : Nat} {w : World} (h : GoodD d ns K g) (h2 : ns ≤ 4096) (hn : n₀ ≤ w.heap.size) (hsm : Sm rs) (hc : rs.length ≤ c) (hs : ns ≤ s) (ra : RowsAt n₀ w A rs) (r : RowsAt n₀ w S d.secs) (e : gJs ⟨rs, ns, K.length⟩ { d with left := lf } = ((jn0, y), 40)) (hy : y.secs.length = ns) :
    Calls Try.prog 53 #[.agg #[.slice A rs.length c, .int .i64 ns, .int .i64 K.length], .agg #[.slice S ns s, .slice P 0 p, .int .i64 lf, .bool false]] w fun e w' => ∃ A c S s P p, e = .returned (.tuple #[.agg #[.slice A 0 c, .int .i64 0, .int .i64 0], .agg #[.slice S ns s, .slice P y.pend.length p, .int .i64 y.left, .bool y.stop], .int .i64 40]) ∧ ns ≤ s ∧ RowsAt n₀ w' S y.secs ∧ Below w.heap.size w w' :=
  (sync_good h h2 hn hsm hc hs ra r e).mono fun e w9 hx => by
    obtain ⟨A5, c5, S5, s5, P5, p5, rfl, hc5, r5, hs5, hp5, r5s, q5, hB⟩ := js_out (rs := []) (m := 0) (s := 0) hx
    rw [hy] at hs5 ⊢
    exact ⟨A5, c5, S5, s5, P5, p5, rfl, hs5, r5s, hB⟩
theorem restart_good {y : Dk} {ns : Nat} {S P : Option Addr} {s p : Nat} (hy : y.secs.length = ns) (w : World) : Calls Try.prog 30 #[.agg #[.slice S ns s, .slice P y.pend.length p, .int .i64 y.left, .bool y.stop]] w fun e w' => e = .returned (.agg #[.slice S ns s, .slice none 0 0, .int .i64 (-1), .bool false]) ∧ Below w.heap.size w w' := by
  have h := restart_t S P s p y w
  rw [hy] at h
  exact h
theorem open_good {d : Dk} {ns g : Nat} {K : List Bs} {S P : Option Addr} {s p : Nat} {w : World} (h : GoodD d ns K g) (h2 : ns ≤ 4096) (hn : n₀ ≤ w.heap.size) (r : RowsAt n₀ w S d.secs) {n : Nat} (hk : K.length = n) :
    Calls Try.prog 44 #[.agg #[.slice S ns s, .slice P 0 p, .int .i64 (-1), .bool false]] w fun e w' => ∃ A c, e = .returned (.tuple #[.agg #[.slice A n c, .int .i64 ns, .int .i64 n], .int .i64 0]) ∧ n ≤ c ∧ RowsAt n₀ w' A K ∧ Below w.heap.size w w' := by
  obtain ⟨secs, pend, left, stop⟩ := d
  have ho := good_open h
  obtain rfl : pend = [] := h.pend
  obtain rfl : left = -1 := h.left
  obtain rfl : stop = false := h.runs.2
  obtain rfl : secs.length = ns := h.len
  subst hk
  have k := open_t (n₀ := n₀) S P s p ⟨secs, [], -1, false⟩ w hn (by dsimp only; omega) (Nat.zero_le _) r wrs_nil
  rw [ho] at k
  exact k.mono fun e w9 hx => jn_out (rs := K) (m := secs.length) (s := K.length) (e := 0) hx
end Go.Proofs.Ytckeopidedoohaa
