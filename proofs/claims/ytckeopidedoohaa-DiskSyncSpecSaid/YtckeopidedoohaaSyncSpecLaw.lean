/-
  DiskSyncSpec: for every input the law answers true.
-/
import Derived.Test.YtckeopidedoohaaRows
import Derived.Test.YtckeopidedoohaaLw5
import Derived.Test.YtckeopidedoohaaDsh
import Derived.Test.YtckeopidedoohaaJfb
namespace Go.Proofs.Ytckeopidedoohaa
open Go.ChangeShapes Go.WideShapes Go.ChangeAt Go.RowKit

theorem syncSpecLaw_place : Try.pinned.checked.prog.inPlace 5 = [] := by kernel_rfl
theorem syncSpecLaw_unf : Try.pinned.checked.prog.unfollowed 5 = true := by kernel_rfl
theorem syncSpecLaw_rec : Try.pinned.checked.prog.recurses 5 = true := by kernel_rfl
theorem syncSpecLaw_named : Try.pinned.checked.prog.varsNamed 5 = [] := by kernel_rfl
theorem syncSpecLaw_joined : joinedFacts Try.pinned.checked.prog 5 Try.f5 Rows.diskSyncSpecSpec Rows.diskSyncSpecRow = true := by
  unfold joinedFacts
  rw [jf_laid, jf_maps, jf_stops, jf_knobs, jf_keys, jf_heard, jf_enter, jf_lifts, jf_make, syncSpecLaw_place, syncSpecLaw_unf, syncSpecLaw_rec, syncSpecLaw_named]
  change _ = _
  kernel_rfl
set_option maxRecDepth 100000 in
theorem syncSpecLaw_lifted (os : Os) (started : os.Started) (H : Type) (enc : TypeId × Value → H) :
    ReturnsInHanded {} Try.checked os 5 .any (Rows.diskSyncSpecSpec.pre6 enc Try.prog Try.f5 Rows.diskSyncSpecRow.domain false) (Rows.diskSyncSpecSpec.post enc Try.prog Try.f5 false true false false) := by
  refine returnsInHanded_of_change_sized (C := Try.checked) (by kernel_rfl) started (by kernel_rfl) Try.func5
    (ChangeSpec.witness6 (enc := enc) (C := Try.checked) false ⟨#[], #[.agg #[.slice none 0 0, .slice none 0 0, .int .i64 0, .bool false], .int .i64 0], []⟩ 8 (by kernel_rfl) (by kernel_rfl) (by kernel_rfl) (by kernel_rfl)) ?_
  intro W base args ds gs before hval0 hW hcnd hsz0 _
  have hval : ∀ (j : Nat) t v, Try.f5.params[j]? = some t → args[j]? = some v → Value.okWide Try.prog W .any base t v := hval0
  have hsz : Light (DataW.weightsEach Try.prog (Try.f5.params.toList ++ Rows.diskSyncSpecSpec.plain.varTypes Try.prog) (ds ++ gs)) := hsz0
  have hW' := hW
  obtain ⟨p, q, hA0, hV, rfl, hfz, hnd⟩ := hW
  have hA : DataW.TrodAll enc Try.prog W 0 (fun _ => true) true Try.f5.params.toList args.toList ds p := hA0
  rw [Try.params5] at hA hval hsz
  obtain ⟨v0, vs, d0, ds0, p0, q0, e0, rfl, rfl, h0, hA⟩ := trodAll_cons hA
  obtain ⟨v1, vs, d1, ds1, p1, q1, rfl, rfl, rfl, h1, hA⟩ := trodAll_cons hA
  obtain ⟨rfl, rfl, rfl⟩ := trodAll_nil hA
  obtain rfl : args = #[v0, v1] := by cases args; simpa using e0
  obtain ⟨rfl, rfl⟩ := trodVars_none hV
  obtain ⟨hl0, hsz⟩ := light_each hsz
  obtain ⟨hl1, hsz⟩ := light_each hsz
  obtain ⟨SA0, sc0, PA0, pc0, k0, rfl, hcs0, hcp0, hr0, hq0, hre0⟩ := open_disk (hval 0 25 v0 rfl rfl) h0
  obtain ⟨x1, rfl, rfl, rfl, w1⟩ := open_int Try.underlying3 (hval 1 3 v1 rfl rfl) h1
  clear hA0 hval0 hsz0
  refine (syncSpec_t SA0 PA0 sc0 pc0 k0 x1 W (Nat.le_refl _) (hre0 hl0) hcs0 hcp0 hr0 hq0).mono fun e W' ⟨he, hw⟩ => ?_
  subst he
  exact ⟨_, rfl, post_yes (t := 4) (by kernel_rfl) hW' (by kernel_rfl) rfl rfl rfl (by kernel_rfl) hw⟩

theorem syncSpecLaw_holds : Rows.DiskSyncSpecSaid :=
  OpenClaim.holds_of_wide 5 Try.f5 rfl rfl rfl rfl rfl rfl rfl ⟨rfl, rfl, rfl, rfl, rfl⟩ rfl rfl rfl rfl rfl (by kernel_rfl) Try.func5 syncSpecLaw_joined
    (of_decide_eq_true (by kernel_rfl)) (by unfold Func.isWrapper; first | (rw [if_pos (by decide +kernel)]; kernel_rfl) | (rw [if_neg (by decide +kernel)]; exact ⟨rfl, rfl⟩))
    (fun os started H enc _ => syncSpecLaw_lifted os started H enc)
end Go.Proofs.Ytckeopidedoohaa
