/-
  RecorderDivided: for every input of bulk at most 1048576 the law answers true.
-/
import Derived.Test.YtckeopidedoohaaRows
import Derived.Test.YtckeopidedoohaaL17
import Derived.Test.YtckeopidedoohaaRvp
import Derived.Test.YtckeopidedoohaaJfb
namespace Go.Proofs.Ytckeopidedoohaa
open Go.ChangeShapes Go.WideShapes Go.ChangeAt Go.RowKit

theorem rDividedLaw_place : Try.pinned.checked.prog.inPlace 17 = [] := by kernel_rfl
theorem rDividedLaw_unf : Try.pinned.checked.prog.unfollowed 17 = true := by kernel_rfl
theorem rDividedLaw_rec : Try.pinned.checked.prog.recurses 17 = true := by kernel_rfl
theorem rDividedLaw_named : Try.pinned.checked.prog.varsNamed 17 = [] := by kernel_rfl
theorem rDividedLaw_joined : joinedFacts Try.pinned.checked.prog 17 Try.f17 (Rows.OpenSpec.upto Rows.recorderDividedSpec).bare Rows.recorderDividedUptoRow = true := by
  unfold joinedFacts
  rw [jf_laid, jf_maps, jf_stops, jf_knobs, jf_keys, jf_heard, jf_enter, jf_lifts, jf_make, rDividedLaw_place, rDividedLaw_unf, rDividedLaw_rec, rDividedLaw_named]
  change _ = _
  kernel_rfl
set_option maxRecDepth 100000 in
theorem rDividedLaw_lifted (os : Os) (started : os.Started) (H : Type) (enc : TypeId × Value → H) (F : Stop.Interp) :
    ReturnsInHanded {} Try.checked os 17 .any ((Rows.OpenSpec.upto Rows.recorderDividedSpec).pre6 enc Try.prog Try.f17 Rows.recorderDividedUptoRow.domain false) (((Rows.OpenSpec.upto Rows.recorderDividedSpec).at F).post enc Try.prog Try.f17 false true false false) := by
  refine returnsInHanded_of_cond (C := Try.checked) (s := Rows.OpenSpec.upto Rows.recorderDividedSpec) (k := Rows.uptoSmall) rfl (by kernel_rfl) started (by kernel_rfl) Try.func17
    (OpenSpec.witness (enc := enc) (C := Try.checked) (s := Rows.OpenSpec.upto Rows.recorderDividedSpec) (k := Rows.uptoSmall) rfl false ⟨#[], #[.slice none 0 0, .slice none 0 0], []⟩ 8 (by kernel_rfl) (by kernel_rfl) (by kernel_rfl)
      (x := ([.nil, .nil], [], [])) (by kernel_rfl) rfl (by kernel_rfl)) ?_
  intro W base args ds gs before hval0 hW _ hk _
  have hval : ∀ (j : Nat) t v, Try.f17.params[j]? = some t → args[j]? = some v → Value.okWide Try.prog W .any base t v := hval0
  have hW' := hW
  obtain ⟨p, q, hA0, hV, rfl, hfz, hnd⟩ := hW
  have hA : DataW.TrodAll enc Try.prog W 0 (fun _ => true) true Try.f17.params.toList args.toList ds p := hA0
  rw [Try.params17] at hA hval
  obtain ⟨v0, vs, d0, ds0, p0, q0, e0, rfl, rfl, h0, hA⟩ := trodAll_cons hA
  obtain ⟨v1, vs, d1, ds1, p1, q1, rfl, rfl, rfl, h1, hA⟩ := trodAll_cons hA
  obtain ⟨rfl, rfl, rfl⟩ := trodAll_nil hA
  obtain rfl : args = #[v0, v1] := by cases args; simpa using e0
  obtain ⟨rfl, rfl⟩ := trodVars_none hV
  obtain ⟨A0, b0, c0, rfl, hb0, ho0, hn0⟩ := open_w32 (hval 0 75 v0 rfl rfl) h0
  obtain ⟨A1, b1, c1, rfl, hc1, hb1, hn1⟩ := open_bytesU (hval 1 35 v1 rfl rfl) h1
  clear hA0 hval0
  refine (recorderDivided_t A0 A1 c0 c1 b0 b1 W (Nat.le_refl _) ho0 (hn0 _ (bk_each hk _ (by simp))) (hn1 _ (bk_each hk _ (by simp))) hb0 hb1).mono fun e W' ⟨he, hw⟩ => ?_
  subst he
  exact ⟨_, rfl, post_yes (t := 4) (by kernel_rfl) hW' (by kernel_rfl) rfl rfl rfl (by kernel_rfl) hw⟩

theorem rDividedLaw_holds : Rows.RecorderDividedUptoSaid :=
  OpenClaim.holds_of_cond 17 Try.f17 rfl rfl rfl rfl rfl rfl rfl ⟨rfl, rfl, rfl, rfl, rfl⟩ rfl rfl rfl rfl rfl (by kernel_rfl) Try.func17 rDividedLaw_joined
    (of_decide_eq_true (by kernel_rfl)) (by unfold Func.isWrapper; first | (rw [if_pos (by decide +kernel)]; kernel_rfl) | (rw [if_neg (by decide +kernel)]; exact ⟨rfl, rfl⟩))
    (fun os started H enc _ F => rDividedLaw_lifted os started H enc F)
end Go.Proofs.Ytckeopidedoohaa
