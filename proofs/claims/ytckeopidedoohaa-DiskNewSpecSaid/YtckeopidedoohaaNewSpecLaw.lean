/-
  DiskNewSpec: for every input the law answers true.
-/
import Derived.Test.YtckeopidedoohaaRows
import Derived.Test.YtckeopidedoohaaLw3
import Derived.Test.YtckeopidedoohaaDsh
import Derived.Test.YtckeopidedoohaaJfb
namespace Go.Proofs.Ytckeopidedoohaa
open Go.ChangeShapes Go.WideShapes Go.ChangeAt Go.RowKit

theorem newSpecLaw_place : Try.pinned.checked.prog.inPlace 3 = [] := by kernel_rfl
theorem newSpecLaw_unf : Try.pinned.checked.prog.unfollowed 3 = true := by kernel_rfl
theorem newSpecLaw_rec : Try.pinned.checked.prog.recurses 3 = true := by kernel_rfl
theorem newSpecLaw_named : Try.pinned.checked.prog.varsNamed 3 = [] := by kernel_rfl
theorem newSpecLaw_joined : joinedFacts Try.pinned.checked.prog 3 Try.f3 Rows.diskNewSpecSpec Rows.diskNewSpecRow = true := by
  unfold joinedFacts
  rw [jf_laid, jf_maps, jf_stops, jf_knobs, jf_keys, jf_heard, jf_enter, jf_lifts, jf_make, newSpecLaw_place, newSpecLaw_unf, newSpecLaw_rec, newSpecLaw_named]
  change _ = _
  kernel_rfl
set_option maxRecDepth 100000 in
theorem newSpecLaw_lifted (os : Os) (started : os.Started) (H : Type) (enc : TypeId × Value → H) :
    ReturnsInHanded {} Try.checked os 3 .any (Rows.diskNewSpecSpec.pre6 enc Try.prog Try.f3 Rows.diskNewSpecRow.domain false) (Rows.diskNewSpecSpec.post enc Try.prog Try.f3 false true false false) := by
  refine returnsInHanded_of_change_sized (C := Try.checked) (by kernel_rfl) started (by kernel_rfl) Try.func3
    (ChangeSpec.witness6 (enc := enc) (C := Try.checked) false ⟨#[], #[.int .i64 0, .agg #[.slice none 0 0, .slice none 0 0, .int .i64 0, .bool false]], []⟩ 8 (by kernel_rfl) (by kernel_rfl) (by kernel_rfl) (by kernel_rfl)) ?_
  intro W base args ds gs before hval0 hW hcnd hsz0 _
  have hval : ∀ (j : Nat) t v, Try.f3.params[j]? = some t → args[j]? = some v → Value.okWide Try.prog W .any base t v := hval0
  have hsz : Light (DataW.weightsEach Try.prog (Try.f3.params.toList ++ Rows.diskNewSpecSpec.plain.varTypes Try.prog) (ds ++ gs)) := hsz0
  have hW' := hW
  obtain ⟨p, q, hA0, hV, rfl, hfz, hnd⟩ := hW
  have hA : DataW.TrodAll enc Try.prog W 0 (fun _ => true) true Try.f3.params.toList args.toList ds p := hA0
  rw [Try.params3] at hA hval hsz
  obtain ⟨v0, vs, d0, ds0, p0, q0, e0, rfl, rfl, h0, hA⟩ := trodAll_cons hA
  obtain ⟨v1, vs, d1, ds1, p1, q1, rfl, rfl, rfl, h1, hA⟩ := trodAll_cons hA
  obtain ⟨rfl, rfl, rfl⟩ := trodAll_nil hA
  obtain rfl : args = #[v0, v1] := by cases args; simpa using e0
  obtain ⟨rfl, rfl⟩ := trodVars_none hV
  obtain ⟨hl0, hsz⟩ := light_each hsz
  obtain ⟨hl1, hsz⟩ := light_each hsz
  obtain ⟨x0, rfl, rfl, rfl, w0⟩ := open_int Try.underlying3 (hval 0 3 v0 rfl rfl) h0
  obtain ⟨SA1, sc1, PA1, pc1, k1, rfl, hcs1, hcp1, hr1, hq1, hre1⟩ := open_disk (hval 1 25 v1 rfl rfl) h1
  clear hA0 hval0 hsz0
  refine (newSpec_t SA1 PA1 sc1 pc1 k1 x0 W (Nat.le_refl _) (hre1 hl1) hcs1 hcp1 hr1 hq1).mono fun e W' ⟨he, hw⟩ => ?_
  subst he
  exact ⟨_, rfl, post_yes (t := 4) (by kernel_rfl) hW' (by kernel_rfl) rfl rfl rfl (by kernel_rfl) hw⟩

theorem newSpecLaw_holds : Rows.DiskNewSpecSaid :=
  OpenClaim.holds_of_wide 3 Try.f3 rfl rfl rfl rfl rfl rfl rfl ⟨rfl, rfl, rfl, rfl, rfl⟩ rfl rfl rfl rfl rfl (by kernel_rfl) Try.func3 newSpecLaw_joined
    (of_decide_eq_true (by kernel_rfl)) (by unfold Func.isWrapper; first | (rw [if_pos (by decide +kernel)]; kernel_rfl) | (rw [if_neg (by decide +kernel)]; exact ⟨rfl, rfl⟩))
    (fun os started H enc _ => newSpecLaw_lifted os started H enc)
end Go.Proofs.Ytckeopidedoohaa
