/-
  DiskReads: for every input the law answers true.
-/
import Derived.Test.YtckeopidedoohaaRows
import Derived.Test.YtckeopidedoohaaLw7
import Derived.Test.YtckeopidedoohaaDsh
import Derived.Test.YtckeopidedoohaaJfb
namespace Go.Proofs.Ytckeopidedoohaa
open Go.ChangeShapes Go.WideShapes Go.ChangeAt Go.RowKit

theorem readsLaw_place : Try.pinned.checked.prog.inPlace 7 = [] := by kernel_rfl
theorem readsLaw_unf : Try.pinned.checked.prog.unfollowed 7 = true := by kernel_rfl
theorem readsLaw_rec : Try.pinned.checked.prog.recurses 7 = true := by kernel_rfl
theorem readsLaw_named : Try.pinned.checked.prog.varsNamed 7 = [] := by kernel_rfl
theorem readsLaw_joined : joinedFacts Try.pinned.checked.prog 7 Try.f7 Rows.diskReadsSpec Rows.diskReadsRow = true := by
  unfold joinedFacts
  rw [jf_laid, jf_maps, jf_stops, jf_knobs, jf_keys, jf_heard, jf_enter, jf_lifts, jf_make, readsLaw_place, readsLaw_unf, readsLaw_rec, readsLaw_named]
  change _ = _
  kernel_rfl
set_option maxRecDepth 100000 in
theorem readsLaw_lifted (os : Os) (started : os.Started) (H : Type) (enc : TypeId × Value → H) :
    ReturnsInHanded {} Try.checked os 7 .any (Rows.diskReadsSpec.pre6 enc Try.prog Try.f7 Rows.diskReadsRow.domain false) (Rows.diskReadsSpec.post enc Try.prog Try.f7 false true false false) := by
  refine returnsInHanded_of_change_sized (C := Try.checked) (by kernel_rfl) started (by kernel_rfl) Try.func7
    (ChangeSpec.witness6 (enc := enc) (C := Try.checked) false ⟨#[], #[.agg #[.slice none 0 0, .slice none 0 0, .int .i64 0, .bool false], .int .i64 0, .int .i64 0, .slice none 0 0, .slice none 0 0], []⟩ 8 (by kernel_rfl) (by kernel_rfl) (by kernel_rfl) (by kernel_rfl)) ?_
  intro W base args ds gs before hval0 hW hcnd hsz0 _
  have hval : ∀ (j : Nat) t v, Try.f7.params[j]? = some t → args[j]? = some v → Value.okWide Try.prog W .any base t v := hval0
  have hsz : Light (DataW.weightsEach Try.prog (Try.f7.params.toList ++ Rows.diskReadsSpec.plain.varTypes Try.prog) (ds ++ gs)) := hsz0
  have hW' := hW
  obtain ⟨p, q, hA0, hV, rfl, hfz, hnd⟩ := hW
  have hA : DataW.TrodAll enc Try.prog W 0 (fun _ => true) true Try.f7.params.toList args.toList ds p := hA0
  rw [Try.params7] at hA hval hsz
  obtain ⟨v0, vs, d0, ds0, p0, q0, e0, rfl, rfl, h0, hA⟩ := trodAll_cons hA
  obtain ⟨v1, vs, d1, ds1, p1, q1, rfl, rfl, rfl, h1, hA⟩ := trodAll_cons hA
  obtain ⟨v2, vs, d2, ds2, p2, q2, rfl, rfl, rfl, h2, hA⟩ := trodAll_cons hA
  obtain ⟨v3, vs, d3, ds3, p3, q3, rfl, rfl, rfl, h3, hA⟩ := trodAll_cons hA
  obtain ⟨v4, vs, d4, ds4, p4, q4, rfl, rfl, rfl, h4, hA⟩ := trodAll_cons hA
  obtain ⟨rfl, rfl, rfl⟩ := trodAll_nil hA
  obtain rfl : args = #[v0, v1, v2, v3, v4] := by cases args; simpa using e0
  obtain ⟨rfl, rfl⟩ := trodVars_none hV
  obtain ⟨hl0, hsz⟩ := light_each hsz
  obtain ⟨hl1, hsz⟩ := light_each hsz
  obtain ⟨hl2, hsz⟩ := light_each hsz
  obtain ⟨hl3, hsz⟩ := light_each hsz
  obtain ⟨hl4, hsz⟩ := light_each hsz
  obtain ⟨SA0, sc0, PA0, pc0, k0, rfl, hcs0, hcp0, hr0, hq0, hre0⟩ := open_disk (hval 0 25 v0 rfl rfl) h0
  obtain ⟨x1, rfl, rfl, rfl, w1⟩ := open_int Try.underlying3 (hval 1 3 v1 rfl rfl) h1
  obtain ⟨x2, rfl, rfl, rfl, w2⟩ := open_int Try.underlying3 (hval 2 3 v2 rfl rfl) h2
  obtain ⟨A3, b3, c3, rfl, hc3, hb3, hn3⟩ := open_bytes (hval 3 35 v3 rfl rfl) h3
  obtain ⟨A4, b4, c4, rfl, hc4, hb4, hn4⟩ := open_bytes (hval 4 35 v4 rfl rfl) h4
  clear hA0 hval0 hsz0
  refine (reads_t SA0 PA0 A3 A4 sc0 pc0 c3 c4 k0 x1 x2 b3 b4 W (Nat.le_refl _) (hre0 hl0) hcs0 hcp0 hr0 hq0 hb3 hb4 hc3 (hn3 hl3) (hn4 hl4)).mono fun e W' ⟨he, hw⟩ => ?_
  subst he
  exact ⟨_, rfl, post_yes (t := 4) (by kernel_rfl) hW' (by kernel_rfl) rfl rfl rfl (by kernel_rfl) hw⟩

theorem readsLaw_holds : Rows.DiskReadsSaid :=
  OpenClaim.holds_of_wide 7 Try.f7 rfl rfl rfl rfl rfl rfl rfl ⟨rfl, rfl, rfl, rfl, rfl⟩ rfl rfl rfl rfl rfl (by kernel_rfl) Try.func7 readsLaw_joined
    (of_decide_eq_true (by kernel_rfl)) (by unfold Func.isWrapper; first | (rw [if_pos (by decide +kernel)]; kernel_rfl) | (rw [if_neg (by decide +kernel)]; exact ⟨rfl, rfl⟩))
    (fun os started H enc _ => readsLaw_lifted os started H enc)
end Go.Proofs.Ytckeopidedoohaa
