/-
  The closure of the program's Bars that adds one bar's tick answers whether there was room and adds the tick. Conditions: at most 4097 ticks collected.
-/
import Derived.Test.YtdphnlcppaaccaaBrs
import Derived.Test.YtdphnlcppaaccaaTick
import Derived.Maps.AppendAt
namespace Go.Proofs.Ytdphnlcppaaccaa
open Go.RowKit

/-- What an append through a captured variable leaves: the variable at block Bt, the row, and that nothing else that was there has changed. -/
def Added (w : World) (base Bt : Nat) (v : Value) (acc : List Int) (w' : World) : Prop :=
  ∃ v', Blk w' Bt 31 #[v'] ∧ w'.ownsRow base 3 1 v' acc.length (acc.map (Value.int .i64)) ∧ (v'.ownBlock = v.ownBlock ∨ ∃ g, v'.ownBlock = some g ∧ w.heap.size ≤ g) ∧ Keep (fun r => r = Bt ∨ v.ownBlock = some r) w w'

theorem row_ne {w : World} {base : Nat} {e t : TypeId} {v : Value} {n B : Nat} {xs : List Value} {cs : Array Value} (h : w.ownsRow base e 1 v n xs) (hb : Blk w B t cs) (hne : e ≠ t) : v.ownBlock ≠ some B := by
  rcases h.2 with ⟨rfl, _⟩ | ⟨g, cap, cur, rfl, _, hh, _⟩
  · simp [Value.ownBlock]
  · intro he
    have : g = B := by simpa [Value.ownBlock] using he
    subst this
    exact Blk.ne (t := e) hh hb hne rfl

set_option maxHeartbeats 1000000 in
theorem add_yes (tick hi : Int) (Bh Bt base : Nat) (v : Value) (acc : List Int) (w : World) (h1 : tick < hi) (h2 : acc.length ≤ 4096) (hh : Blk w Bh 3 #[.int .i64 hi]) (ht : Blk w Bt 31 #[v]) (hown : w.ownsRow base 3 1 v acc.length (acc.map (Value.int .i64))) (hbase : base ≤ w.heap.size) :
    Calls Try.prog 28 #[.int .i64 tick, .pointer (some ⟨Bh, 0, none⟩), .pointer (some ⟨Bt, 0, none⟩)] w fun e w' => e = .returned (.bool true) ∧ Added w base Bt v (acc ++ [tick]) w' := by
  obtain ⟨A, cp, rfl⟩ := own_slice hown
  obtain ⟨i0, hi0, hz0, hz1, hz2⟩ := info_parts info3
  have hne := row_ne hown ht (by decide)
  have c0 := hh.cell0
  have c1 := ht.cell0
  have f1 := ht.frozen 0
  have hl := ht.lt
  have d1 : decide (hi ≤ tick) = false := decide_eq_false (by omega)
  have d2 : decide (4096 < (acc.length : Int)) = false := decide_eq_false (by omega)
  go_enter Try.func28, Try.ntmps28
  go_wp2_with (at_builtin; refine wpList_append_own_at _ rfl _ _ 31 rfl base 3 i0 (.int .i64 0) 1 8 Try.underlying31 hi0 hz0 hz1 hz2 rfl (by decide) _ _ _ rfl (hown.alloc _) ⟨w.heap.size, 0, none⟩ 1 1 [.int .i64 tick] rfl rfl (cell_one_new _ _ _) (by simp [Value.oneCell']) (by simp [maxLen]; omega) (by omega) (by simp; omega) ?_; intro v' w1 hown' hgrow _ hat; obtain ⟨A', cp', rfl⟩ := own_slice hown'; have ht1 : Blk w1 Bt 31 #[_] := (hgrow.block Bt (by simp; omega) (by exact fun h => hne h.symm)).trans (ht.alloc _); have k1 := ht1.cell0; have kf1 := ht1.frozen 0)
  go_ret
  refine ⟨rfl, .slice A' (acc.length + 1) cp', ht1.set0 _, ?_, ?_, ?_⟩
  · have hne' := row_ne hown' ht1 (by decide)
    have := hown'.kept (grownBy_setCell' w1 Bt (.slice A' (acc.length + 1) cp')) (.inr hne')
    simpa using this
  · rcases hat with h | h
    · exact .inl h
    · exact .inr ⟨_, h, by simp⟩
  · exact ((Keep.of_same ((Below.refl _ w).alloc (Nat.le_refl _) _) _).grown hgrow (fun k hk _ => .inr hk)).setCell (fun _ => .inl rfl) _

set_option maxHeartbeats 1000000 in
theorem add_no (tick hi : Int) (Bh Bt base : Nat) (v : Value) (acc : List Int) (w : World) (hn : ¬ (tick < hi ∧ acc.length ≤ 4096)) (hl4 : acc.length ≤ 4097) (hh : Blk w Bh 3 #[.int .i64 hi]) (ht : Blk w Bt 31 #[v]) (hown : w.ownsRow base 3 1 v acc.length (acc.map (Value.int .i64))) :
    Calls Try.prog 28 #[.int .i64 tick, .pointer (some ⟨Bh, 0, none⟩), .pointer (some ⟨Bt, 0, none⟩)] w fun e w' => e = .returned (.bool false) ∧ w' = w := by
  obtain ⟨A, cp, rfl⟩ := own_slice hown
  have c0 := hh.cell0
  have c1 := ht.cell0
  by_cases h1 : tick < hi
  · have d1 : decide (hi ≤ tick) = false := decide_eq_false (by omega)
    have d2 : decide (4096 < (acc.length : Int)) = true := decide_eq_true (by omega)
    go_enter Try.func28, Try.ntmps28
    go_wp2
    go_ret
    exact ⟨rfl, rfl⟩
  · have d1 : decide (hi ≤ tick) = true := decide_eq_true (by omega)
    go_enter Try.func28, Try.ntmps28
    go_wp2
    go_ret
    exact ⟨rfl, rfl⟩
end Go.Proofs.Ytdphnlcppaaccaa
