/-
  The length of a part's bar and the beginning of a bar in a part. Conditions: numbers in their bounds.
-/
import Derived.Test.YtdphnlcppaaccaaRefs
import Derived.Deep.RegionHeld3
namespace Go.Proofs.Ytdphnlcppaaccaa
open Go.RowKit

theorem long_t (a b c d e : Int) (w : World) (h0 : 0 ≤ b * c) (h1 : b * c ≤ 9223372036854775807) :
    Calls Try.prog 26 #[.agg #[.int .i64 a, .int .i64 b, .int .i64 c, .int .i64 d, .int .i64 e]] w fun x w' => x = .returned (.int .i64 (b * c)) ∧ Below w.heap.size w w' := by
  go_enter Try.func26, Try.ntmps26
  go_wp2
  go_ret
  exact ⟨rfl, (Below.refl _ _).alloc (Nat.le_refl _) _⟩

set_option maxHeartbeats 1000000 in
theorem pbegin_t (a b c d e bar : Int) (w : World) (h0 : 0 ≤ b * c) (h1 : b * c ≤ 2097152) (h2 : 0 ≤ bar - a) (h3 : bar - a ≤ 1048577) (h4 : 0 ≤ (bar - a) * (b * c)) (h5 : (bar - a) * (b * c) ≤ 2199025352704) (h6 : 0 ≤ e) (h7 : e ≤ 1000000000000000) :
    Calls Try.prog 22 #[.agg #[.int .i64 a, .int .i64 b, .int .i64 c, .int .i64 d, .int .i64 e], .int .i64 bar] w fun x w' => x = .returned (.int .i64 (e + (bar - a) * (b * c))) ∧ Below w.heap.size w w' := by
  have i1 : IntKind.i64.wrap (bar - a) = bar - a := IntWalk.i64_in _ (by omega)
  have i2 : IntKind.i64.wrap ((bar - a) * (b * c)) = (bar - a) * (b * c) := IntWalk.i64_in _ (by omega)
  have i3 : IntKind.i64.wrap (e + (bar - a) * (b * c)) = e + (bar - a) * (b * c) := IntWalk.i64_in _ (by omega)
  go_enter Try.func22, Try.ntmps22
  go_wp2_with fail
  go_region_held3 (fun W => W.cell? ⟨w.heap.size, 0, none⟩ = some (.int .i64 a) ∧ W.cell? ⟨w.heap.size, 1, none⟩ = some (.int .i64 b) ∧ W.cell? ⟨w.heap.size, 2, none⟩ = some (.int .i64 c) ∧ W.cell? ⟨w.heap.size, 3, none⟩ = some (.int .i64 d) ∧ W.cell? ⟨w.heap.size, 4, none⟩ = some (.int .i64 e))
    (first
      | go_keep
      | exact ⟨(hb.cell (p := ⟨w.heap.size, 0, none⟩) (by simp)).trans (by go_keep), (hb.cell (p := ⟨w.heap.size, 1, none⟩) (by simp)).trans (by go_keep), (hb.cell (p := ⟨w.heap.size, 2, none⟩) (by simp)).trans (by go_keep), (hb.cell (p := ⟨w.heap.size, 3, none⟩) (by simp)).trans (by go_keep), (hb.cell (p := ⟨w.heap.size, 4, none⟩) (by simp)).trans (by go_keep)⟩)
    ((go_at_call 26; refine (long_t _ _ _ _ _ _ (by omega) (by omega)).mono ?_; rintro x w' ⟨rfl, hb⟩))
  go_wp2
  go_ret
  exact ⟨rfl, ((Below.refl _ _).alloc (Nat.le_refl _) _).drew.trans (hb.mono (by simp))⟩
end Go.Proofs.Ytdphnlcppaaccaa
