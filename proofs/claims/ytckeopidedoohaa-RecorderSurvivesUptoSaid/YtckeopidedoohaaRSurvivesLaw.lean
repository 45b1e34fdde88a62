/-
  RecorderSurvives: for every input of bulk at most 1048576 the law answers true.
-/
import Derived.Test.YtckeopidedoohaaRows
import Derived.Test.YtckeopidedoohaaL18
import Derived.Test.YtckeopidedoohaaRus
import Derived.Test.YtckeopidedoohaaJfb
namespace Go.Proofs.Ytckeopidedoohaa
open Go.ChangeShapes Go.WideShapes Go.ChangeAt Go.RowKit

theorem rSurvivesLaw_place : Try.pinned.checked.prog.inPlace 18 = [] := by kernel_rfl
theorem rSurvivesLaw_unf : Try.pinned.checked.prog.unfollowed 18 = true := by kernel_rfl
theorem rSurvivesLaw_rec : Try.pinned.checked.prog.recurses 18 = true := by kernel_rfl
theorem rSurvivesLaw_named : Try.pinned.checked.prog.varsNamed 18 = [] := by kernel_rfl
theorem rSurvivesLaw_joined : joinedFacts Try.pinned.checked.prog 18 Try.f18 (Rows.OpenSpec.upto Rows.recorderSurvivesSpec).bare Rows.recorderSurvivesUptoRow = true := by
  unfold joinedFacts
  rw [jf_laid, jf_maps, jf_stops, jf_knobs, jf_keys, jf_heard, jf_enter, jf_lifts, jf_make, rSurvivesLaw_place, rSurvivesLaw_unf, rSurvivesLaw_rec, rSurvivesLaw_named]
  change _ = _
  kernel_rfl
set_option maxRecDepth 100000 in
theorem rSurvivesLaw_lifted (os : Os) (started : os.Started) (H : Type) (enc : TypeId × Value → H) (F : Stop.Interp) :
    ReturnsInHanded {} Try.checked os 18 .any ((Rows.OpenSpec.upto Rows.recorderSurvivesSpec).pre6 enc Try.prog Try.f18 Rows.recorderSurvivesUptoRow.domain false) (((Rows.OpenSpec.upto Rows.recorderSurvivesSpec).at F).post enc Try.prog Try.f18 false true false false) := by
  refine returnsInHanded_of_cond (C := Try.checked) (s := Rows.OpenSpec.upto Rows.recorderSurvivesSpec) (k := Rows.uptoSmall) rfl (by kernel_rfl) started (by kernel_rfl) Try.func18
    (OpenSpec.witness (enc := enc) (C := Try.checked) (s := Rows.OpenSpec.upto Rows.recorderSurvivesSpec) (k := Rows.uptoSmall) rfl false ⟨#[], #[.int .u8 0, .slice none 0 0], []⟩ 8 (by kernel_rfl) (by kernel_rfl) (by kernel_rfl)
      (x := ([.lit (.int .u8 0), .nil], [], [])) (by kernel_rfl) rfl (by kernel_rfl)) ?_
  intro W base args ds gs before hval0 hW _ hk _
  have hval : ∀ (j : Nat) t v, Try.f18.params[j]? = some t → args[j]? = some v → Value.okWide Try.prog W .any base t v := hval0
  have hW' := hW
  obtain ⟨p, q, hA0, hV, rfl, hfz, hnd⟩ := hW
  have hA : DataW.TrodAll enc Try.prog W 0 (fun _ => true) true Try.f18.params.toList args.toList ds p := hA0
  rw [Try.params18] at hA hval
  obtain ⟨v0, vs, d0, ds0, p0, q0, e0, rfl, rfl, h0, hA⟩ := trodAll_cons hA
  obtain ⟨v1, vs, d1, ds1, p1, q1, rfl, rfl, rfl, h1, hA⟩ := trodAll_cons hA
  obtain ⟨rfl, rfl, rfl⟩ := trodAll_nil hA
  obtain rfl : args = #[v0, v1] := by cases args; simpa using e0
  obtain ⟨rfl, rfl⟩ := trodVars_none hV
  obtain ⟨x0, rfl, rfl, rfl, w0⟩ := open_int Try.underlying5 (hval 0 5 v0 rfl rfl) h0
  obtain ⟨y0, rfl⟩ := open_u8 w0
  obtain ⟨A1, l1, c1, rfl, ht1, hn1⟩ := open_stepsQ (hval 1 81 v1 rfl rfl) h1
  clear hA0 hval0
  refine (recorderSurvives_t A1 c1 l1 y0 W (Nat.le_refl _) (hn1 _ (bk_each hk _ (by simp))).1 (hn1 _ (bk_each hk _ (by simp))).2 ht1).mono fun e W' ⟨he, hw⟩ => ?_
  subst he
  exact ⟨_, rfl, post_yes (t := 4) (by kernel_rfl) hW' (by kernel_rfl) rfl rfl rfl (by kernel_rfl) hw⟩

theorem rSurvivesLaw_holds : Rows.RecorderSurvivesUptoSaid :=
  OpenClaim.holds_of_cond 18 Try.f18 rfl rfl rfl rfl rfl rfl rfl ⟨rfl, rfl, rfl, rfl, rfl⟩ rfl rfl rfl rfl rfl (by kernel_rfl) Try.func18 rSurvivesLaw_joined
    (of_decide_eq_true (by kernel_rfl)) (by unfold Func.isWrapper; first | (rw [if_pos (by decide +kernel)]; kernel_rfl) | (rw [if_neg (by decide +kernel)]; exact ⟨rfl, rfl⟩))
    (fun os started H enc _ F => rSurvivesLaw_lifted os started H enc F)
end Go.Proofs.Ytckeopidedoohaa
