/-
  A script of writes and syncs in memory; an argument that is one; two boxes that hold one disk. Conditions: none.
-/
import Derived.Test.YtckeopidedoohaaLw4
import Derived.Test.YtckeopidedoohaaDsh
namespace Go.Proofs.Ytckeopidedoohaa
open Go.ChangeShapes Go.WideShapes Go.ChangeAt Go.RowKit Go.Deep
variable {n₀ : Nat}

/-- An address at which a script lies. -/
def ActsAt (w : World) (A : Option Addr) (l : List Ac) : Prop := 0 < l.length → ∃ b o, A = some ⟨b, o, none⟩ ∧ b < w.heap.size ∧ ∀ i, i < l.length → w.cell? ⟨b, o + i * 3, none⟩ = some (.bool (l.getD i ac0).sync) ∧ w.cell? ⟨b, o + i * 3 + 1, none⟩ = some (u8v (l.getD i ac0).at_) ∧ w.cell? ⟨b, o + i * 3 + 2, none⟩ = some (u8v (l.getD i ac0).byte)
theorem ActsAt.below {w w' : World} {A : Option Addr} {l : List Ac} (h : ActsAt w A l) (hb : Below w.heap.size w w') : ActsAt w' A l := fun h0 => by
  obtain ⟨b, o, e, hlt, hc⟩ := h h0
  refine ⟨b, o, e, Nat.lt_of_lt_of_le hlt hb.size, fun i hi => ?_⟩
  obtain ⟨c0, c1, c2⟩ := hc i hi
  exact ⟨(hb.cell (p := ⟨b, _, none⟩) hlt).trans c0, (hb.cell (p := ⟨b, _, none⟩) hlt).trans c1, (hb.cell (p := ⟨b, _, none⟩) hlt).trans c2⟩

section
variable {H : Type} {enc : TypeId × Value → H} {w : World} {spare : Nat → Bool} {held : Bool} {base : Nat}
set_option maxRecDepth 100000 in
theorem open_acts {r : Go.Reach} {b0 : Nat} {v : Value} {d : DataW H} {p : List MemPlace} (hv : Value.okWide Try.prog w r b0 43 v) (h : DataW.Trod enc Try.prog w base spare held 43 v d p) :
    ∃ A l c, v = .slice A (List.length l) c ∧ l.length ≤ c ∧ ActsAt w A l ∧ (Light (d.weights Try.prog 43) → l.length ≤ reachBytes) := by
  obtain ⟨fuel, h⟩ := h
  obtain ⟨A, n, c, rfl⟩ := okWide_slice Try.underlying43 hv
  have hq := Try.underlying46
  have hC : Try.prog.cellsOf 46 = 3 := by kernel_rfl
  have hB : Try.prog.bytesOf 46 = 3 := by kernel_rfl
  rcases open_slice Try.underlying43 h with ⟨h0, _⟩ | ⟨a, len, cap, m, k, D, Pl, hcs, hb, hl, hm, hmm, hx0, hi⟩
  · simp [Value.cells] at h0
    obtain ⟨rfl, rfl, rfl⟩ := h0
    exact ⟨none, [], 0, rfl, Nat.le_refl _, fun h => absurd h (by simp), fun _ => Nat.zero_le _⟩
  · simp [Value.cells] at hcs
    obtain ⟨rfl, rfl, rfl⟩ := hcs
    obtain ⟨rfl, rfl⟩ := Prod.mk.inj hx0
    have hnm : n ≤ m := by rw [hmm]; split <;> omega
    have k4 : Try.prog.cellsOf 4 = 1 := by kernel_rfl
    have k5 : Try.prog.cellsOf 5 = 1 := by kernel_rfl
    have each : ∀ i, ∃ x : Ac, i < n → w.cell? (a.add (i * 3)) = some (.bool x.sync) ∧ w.cell? ((a.add (i * 3)).add 1) = some (u8v x.at_) ∧ w.cell? ((a.add (i * 3)).add 2) = some (u8v x.byte) := by
      intro i
      by_cases hin : i < n
      · obtain ⟨cs', hc, ht'⟩ := hi i (by omega)
        rw [hC] at hc
        obtain ⟨y0, y1, y2, n', hx, hcl', g0, g1, g2⟩ := trod_struct3 hq ht'
        obtain ⟨_, hcl, hat⟩ := World.cells?_some hc
        dsimp only at g0 g1 g2
        rw [k4] at g0
        rw [k5] at g1 g2
        match cs', hcl with
        | [x0, x1, x2], _ =>
          obtain ⟨z0, e0, _⟩ := DataW.trod_bool Try.underlying4 g0
          obtain ⟨z1, e1, _, w1⟩ := DataW.trod_int Try.underlying5 g1
          obtain ⟨z2, e2, _, w2⟩ := DataW.trod_int Try.underlying5 g2
          simp at e0 e1 e2
          subst e0 e1 e2
          refine ⟨⟨z0, UInt8.ofNat z1.toNat, UInt8.ofNat z2.toNat⟩, fun _ => ⟨by simpa [add_zero'] using hat 0 (by omega), ?_, ?_⟩⟩
          · rw [← u8_of z1 w1]; simpa using hat 1 (by omega)
          · rw [← u8_of z2 w2]; simpa using hat 2 (by omega)
      · exact ⟨ac0, fun h => absurd h hin⟩
    obtain ⟨f, hf⟩ := Classical.axiomOfChoice each
    have hlen : ((List.range n).map f).length = n := by simp
    refine ⟨some a, (List.range n).map f, c, by rw [hlen], by rw [hlen]; exact hl, fun h0 => ?_, fun hw => ?_⟩
    · rw [hlen] at h0
      have h00 := (hf 0 h0).1
      rw [Nat.zero_mul, add_zero'] at h00
      obtain ⟨b, o, rfl, hlt⟩ := at_block h00
      refine ⟨b, o, rfl, hlt, fun i hi => ?_⟩
      rw [hlen] at hi
      rw [getD_map_range f n i ac0 hi]
      obtain ⟨c0, c1, c2⟩ := hf i hi
      rw [addr_at] at c0 c1 c2
      rw [addr_at] at c1 c2
      exact ⟨c0, c1, c2⟩
    · rw [hlen]
      have := (light_slice Try.underlying43 hw).1
      simp [hB] at this
      omega
end

/-- One disk put into two boxes. -/
theorem two_put {w : World} {B C : Nat} {c0 c1 c2 c3 e0 e1 e2 e3 : Value} {d : Dk} {S P : Option Addr} {s p : Nat} (hx : Blk w B 25 #[c0, c1, c2, c3]) (hy : Blk w C 25 #[e0, e1, e2, e3]) (hne : B ≠ C) (hn : n₀ ≤ B) (hm : n₀ ≤ C) (hs : d.secs.length ≤ s) (hp : d.pend.length ≤ p) (hr : RowsAt n₀ w S d.secs) (hq : WrsAt n₀ w P d.pend) {W : World}
    (hW : W = ((((((((w.setCell ⟨B, 0, none⟩ (.slice S d.secs.length s)).setCell ⟨B, 1, none⟩ (.slice P d.pend.length p)).setCell ⟨B, 2, none⟩ (.int .i64 d.left)).setCell ⟨B, 3, none⟩ (.bool d.stop)).setCell ⟨C, 0, none⟩ (.slice S d.secs.length s)).setCell ⟨C, 1, none⟩ (.slice P d.pend.length p)).setCell ⟨C, 2, none⟩ (.int .i64 d.left)).setCell ⟨C, 3, none⟩ (.bool d.stop))) :
    DkB n₀ W B d ∧ DkB n₀ W C d := by
  subst hW
  have h1 := box_put hx hn hs hp hr hq
  have k1 := keep4 w B (.slice S d.secs.length s) (.slice P d.pend.length p) (.int .i64 d.left) (.bool d.stop)
  have hy1 := hy.keep k1 (fun h => hne h.symm)
  have hr1 := hr.keep k1 (.one hx rfl hn)
  have hq1 := hq.keep k1 (.one hx rfl hn)
  exact ⟨h1.keep (keep4 _ C _ _ _ _) (.one hy1 rfl hm) hne, box_put hy1 hm hs hp hr1 hq1⟩
end Go.Proofs.Ytckeopidedoohaa
