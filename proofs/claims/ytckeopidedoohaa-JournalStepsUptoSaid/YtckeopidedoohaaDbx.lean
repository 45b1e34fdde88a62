/-
  Boxes that hold a disk: made, written, carried on. Conditions: a box is made behind the beginning.
-/
import Derived.Test.YtckeopidedoohaaDfw
import Derived.Test.YtckeopidedoohaaDpl
namespace Go.Proofs.Ytckeopidedoohaa
open Go.RowKit
variable {n₀ : Nat}

/-- The cells of a disk. -/
def dkC (S P : Option Addr) (s p : Nat) (d : Dk) : Array Value := #[.slice S d.secs.length s, .slice P d.pend.length p, .int .i64 d.left, .bool d.stop]
/-- A box that holds a disk. -/
def DkB (n₀ : Nat) (w : World) (B : Nat) (d : Dk) : Prop := ∃ S s P p, Blk w B 25 #[.slice S d.secs.length s, .slice P d.pend.length p, .int .i64 d.left, .bool d.stop] ∧ d.secs.length ≤ s ∧ d.pend.length ≤ p ∧ RowsAt n₀ w S d.secs ∧ WrsAt n₀ w P d.pend
theorem DkB.below {w w' : World} {B : Nat} {d : Dk} (h : DkB n₀ w B d) (hb : Below w.heap.size w w') : DkB n₀ w' B d := by
  obtain ⟨S, s, P, p, h1, h2, h3, h4, h5⟩ := h
  exact ⟨S, s, P, p, h1.below hb h1.lt, h2, h3, h4.below hb, h5.below hb⟩
theorem DkB.keep {w w' : World} {B : Nat} {d : Dk} {may : Nat → Prop} (h : DkB n₀ w B d) (hk : Keep may w w') (hm : Boxes n₀ w may) (hB : ¬ may B) : DkB n₀ w' B d := by
  obtain ⟨S, s, P, p, h1, h2, h3, h4, h5⟩ := h
  exact ⟨S, s, P, p, h1.keep hk hB, h2, h3, h4.keep hk hm, h5.keep hk hm⟩
theorem keep4 (w : World) (B : Nat) (a b c d : Value) : Keep (fun r => r = B) w ((((w.setCell ⟨B, 0, none⟩ a).setCell ⟨B, 1, none⟩ b).setCell ⟨B, 2, none⟩ c).setCell ⟨B, 3, none⟩ d) := by
  repeat (first | with_reducible exact Keep.refl _ _ | refine Keep.setCell ?_ (fun _ => by simp) _)
/-- A disk put into a box. -/
theorem box_put {w : World} {B : Nat} {c0 c1 c2 c3 : Value} {d : Dk} {S P : Option Addr} {s p : Nat} (hx : Blk w B 25 #[c0, c1, c2, c3]) (hn : n₀ ≤ B) (hs : d.secs.length ≤ s) (hp : d.pend.length ≤ p) (hr : RowsAt n₀ w S d.secs) (hq : WrsAt n₀ w P d.pend) :
    DkB n₀ ((((w.setCell ⟨B, 0, none⟩ (.slice S d.secs.length s)).setCell ⟨B, 1, none⟩ (.slice P d.pend.length p)).setCell ⟨B, 2, none⟩ (.int .i64 d.left)).setCell ⟨B, 3, none⟩ (.bool d.stop)) B d :=
  ⟨S, s, P, p, (((hx.set 0 _).set 1 _).set 2 _).set 3 _, hs, hp, hr.keep (keep4 _ _ _ _ _ _) (.one hx rfl hn), hq.keep (keep4 _ _ _ _ _ _) (.one hx rfl hn)⟩
/-- A box made for a disk. -/
theorem box_new {w : World} {d : Dk} {S P : Option Addr} {s p : Nat} (hs : d.secs.length ≤ s) (hp : d.pend.length ≤ p) (hr : RowsAt n₀ w S d.secs) (hq : WrsAt n₀ w P d.pend) :
    DkB n₀ (w.alloc (.cells #[.slice S d.secs.length s, .slice P d.pend.length p, .int .i64 d.left, .bool d.stop] 25)) w.heap.size d :=
  have hb : Below w.heap.size w (w.alloc (.cells #[.slice S d.secs.length s, .slice P d.pend.length p, .int .i64 d.left, .bool d.stop] 25)) := (Below.refl _ w).alloc (Nat.le_refl _) _
  ⟨S, s, P, p, Blk.new w 25 _, hs, hp, hr.below hb, hq.below hb⟩
/-- The bytes of a sector that are looked at. -/
theorem bs_looks {w : World} {A : Option Addr} {bs : Bs} (h : BsAt n₀ w A bs) (hl : bs.length = 128) : ∃ b o, A = some ⟨b, o, none⟩ ∧ b < w.heap.size ∧ w.cell? ⟨b, o, none⟩ = some (u8v (bs.getD 0 0)) ∧ w.cell? ⟨b, o + 1, none⟩ = some (u8v (bs.getD 1 0)) ∧ w.cell? ⟨b, o + 64, none⟩ = some (u8v (bs.getD 64 0)) ∧ w.cell? ⟨b, o + 127, none⟩ = some (u8v (bs.getD 127 0)) := by
  obtain ⟨b, o, e, hb, hc⟩ := h (by omega)
  exact ⟨b, o, e, hb.lt, hc 0 (by omega), hc 1 (by omega), hc 64 (by omega), hc 127 (by omega)⟩
/-- What a read that went well gives. -/
theorem rd128 {w w' : World} {b : Bs} {e : Ending} (h : RdIs n₀ w (b, 0) e w') (hl : b.length = 128) : ∃ A c, e = .returned (.tuple #[.slice A 128 c, .int .i64 0]) ∧ 128 ≤ c ∧ BsAt n₀ w' A b ∧ Below w.heap.size w w' := by
  obtain ⟨A, c, rfl, hc, hB, hb⟩ := h
  exact ⟨A, c, by rw [hl], by rw [← hl]; exact hc, hB, hb⟩
end Go.Proofs.Ytckeopidedoohaa
