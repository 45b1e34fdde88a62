/-
  RecorderOpenSpec: for every input of bulk at most 1048576 the law answers true.
-/
import Derived.Test.YtckeopidedoohaaRows
import Derived.Test.YtckeopidedoohaaL19
import Derived.Test.YtckeopidedoohaaJud
import Derived.Test.YtckeopidedoohaaJfb
namespace Go.Proofs.Ytckeopidedoohaa
open Go.ChangeShapes Go.WideShapes Go.ChangeAt Go.RowKit

theorem rOpenSpecLaw_place : Try.pinned.checked.prog.inPlace 19 = [] := by kernel_rfl
theorem rOpenSpecLaw_unf : Try.pinned.checked.prog.unfollowed 19 = true := by kernel_rfl
theorem rOpenSpecLaw_rec : Try.pinned.checked.prog.recurses 19 = true := by kernel_rfl
theorem rOpenSpecLaw_named : Try.pinned.checked.prog.varsNamed 19 = [] := by kernel_rfl
theorem rOpenSpecLaw_joined : joinedFacts Try.pinned.checked.prog 19 Try.f19 (Rows.OpenSpec.upto Rows.recorderOpenSpecSpec).bare Rows.recorderOpenSpecUptoRow = true := by
  unfold joinedFacts
  rw [jf_laid, jf_maps, jf_stops, jf_knobs, jf_keys, jf_heard, jf_enter, jf_lifts, jf_make, rOpenSpecLaw_place, rOpenSpecLaw_unf, rOpenSpecLaw_rec, rOpenSpecLaw_named]
  change _ = _
  kernel_rfl
set_option maxRecDepth 100000 in
theorem rOpenSpecLaw_lifted (os : Os) (started : os.Started) (H : Type) (enc : TypeId × Value → H) (F : Stop.Interp) :
    ReturnsInHanded {} Try.checked os 19 .any ((Rows.OpenSpec.upto Rows.recorderOpenSpecSpec).pre6 enc Try.prog Try.f19 Rows.recorderOpenSpecUptoRow.domain false) (((Rows.OpenSpec.upto Rows.recorderOpenSpecSpec).at F).post enc Try.prog Try.f19 false true false false) := by
  refine returnsInHanded_of_cond (C := Try.checked) (s := Rows.OpenSpec.upto Rows.recorderOpenSpecSpec) (k := Rows.uptoSmall) rfl (by kernel_rfl) started (by kernel_rfl) Try.func19
    (OpenSpec.witness (enc := enc) (C := Try.checked) (s := Rows.OpenSpec.upto Rows.recorderOpenSpecSpec) (k := Rows.uptoSmall) rfl false ⟨#[], #[.agg #[.slice none 0 0, .slice none 0 0, .int .i64 0, .bool false]], []⟩ 8 (by kernel_rfl) (by kernel_rfl) (by kernel_rfl)
      (x := ([.agg [.nil, .nil, .lit (.int .i64 0), .lit (.bool false)]], [], [])) (by kernel_rfl) rfl (by kernel_rfl)) ?_
  intro W base args ds gs before hval0 hW _ hk _
  have hval : ∀ (j : Nat) t v, Try.f19.params[j]? = some t → args[j]? = some v → Value.okWide Try.prog W .any base t v := hval0
  have hW' := hW
  obtain ⟨p, q, hA0, hV, rfl, hfz, hnd⟩ := hW
  have hA : DataW.TrodAll enc Try.prog W 0 (fun _ => true) true Try.f19.params.toList args.toList ds p := hA0
  rw [Try.params19] at hA hval
  obtain ⟨v0, vs, d0, ds0, p0, q0, e0, rfl, rfl, h0, hA⟩ := trodAll_cons hA
  obtain ⟨rfl, rfl, rfl⟩ := trodAll_nil hA
  obtain rfl : args = #[v0] := by cases args; simpa using e0
  obtain ⟨rfl, rfl⟩ := trodVars_none hV
  obtain ⟨SA0, sc0, PA0, pc0, k0, rfl, hcs0, hcp0, hr0, hq0, hre0⟩ := open_diskU (hval 0 25 v0 rfl rfl) h0
  clear hA0 hval0
  refine (recorderOpen_t SA0 PA0 sc0 pc0 k0 W (Nat.le_refl _) (hre0 _ (bk_each hk _ (by simp))).1 (hre0 _ (bk_each hk _ (by simp))).2 hr0 hq0).mono fun e W' ⟨he, hw⟩ => ?_
  subst he
  exact ⟨_, rfl, post_yes (t := 4) (by kernel_rfl) hW' (by kernel_rfl) rfl rfl rfl (by kernel_rfl) hw⟩

theorem rOpenSpecLaw_holds : Rows.RecorderOpenSpecUptoSaid :=
  OpenClaim.holds_of_cond 19 Try.f19 rfl rfl rfl rfl rfl rfl rfl ⟨rfl, rfl, rfl, rfl, rfl⟩ rfl rfl rfl rfl rfl (by kernel_rfl) Try.func19 rOpenSpecLaw_joined
    (of_decide_eq_true (by kernel_rfl)) (by unfold Func.isWrapper; first | (rw [if_pos (by decide +kernel)]; kernel_rfl) | (rw [if_neg (by decide +kernel)]; exact ⟨rfl, rfl⟩))
    (fun os started H enc _ F => rOpenSpecLaw_lifted os started H enc F)
end Go.Proofs.Ytckeopidedoohaa
