/-
  RecorderWriteSpec: for every input of bulk at most 1048576 the law answers true.
-/
import Derived.Test.YtckeopidedoohaaRows
import Derived.Test.YtckeopidedoohaaL20
import Derived.Test.YtckeopidedoohaaRup
import Derived.Test.YtckeopidedoohaaJfb
namespace Go.Proofs.Ytckeopidedoohaa
open Go.ChangeShapes Go.WideShapes Go.ChangeAt Go.RowKit

theorem rWriteSpecLaw_place : Try.pinned.checked.prog.inPlace 20 = [] := by kernel_rfl
theorem rWriteSpecLaw_unf : Try.pinned.checked.prog.unfollowed 20 = true := by kernel_rfl
theorem rWriteSpecLaw_rec : Try.pinned.checked.prog.recurses 20 = true := by kernel_rfl
theorem rWriteSpecLaw_named : Try.pinned.checked.prog.varsNamed 20 = [] := by kernel_rfl
theorem rWriteSpecLaw_joined : joinedFacts Try.pinned.checked.prog 20 Try.f20 (Rows.OpenSpec.upto Rows.recorderWriteSpecSpec).bare Rows.recorderWriteSpecUptoRow = true := by
  unfold joinedFacts
  rw [jf_laid, jf_maps, jf_stops, jf_knobs, jf_keys, jf_heard, jf_enter, jf_lifts, jf_make, rWriteSpecLaw_place, rWriteSpecLaw_unf, rWriteSpecLaw_rec, rWriteSpecLaw_named]
  change _ = _
  kernel_rfl
set_option maxRecDepth 100000 in
theorem rWriteSpecLaw_lifted (os : Os) (started : os.Started) (H : Type) (enc : TypeId × Value → H) (F : Stop.Interp) :
    ReturnsInHanded {} Try.checked os 20 .any ((Rows.OpenSpec.upto Rows.recorderWriteSpecSpec).pre6 enc Try.prog Try.f20 Rows.recorderWriteSpecUptoRow.domain false) (((Rows.OpenSpec.upto Rows.recorderWriteSpecSpec).at F).post enc Try.prog Try.f20 false true false false) := by
  refine returnsInHanded_of_cond (C := Try.checked) (s := Rows.OpenSpec.upto Rows.recorderWriteSpecSpec) (k := Rows.uptoSmall) rfl (by kernel_rfl) started (by kernel_rfl) Try.func20
    (OpenSpec.witness (enc := enc) (C := Try.checked) (s := Rows.OpenSpec.upto Rows.recorderWriteSpecSpec) (k := Rows.uptoSmall) rfl false ⟨#[], #[.agg #[.slice none 0 0, .int .i64 0, .int .i64 0], .slice none 0 0], []⟩ 8 (by kernel_rfl) (by kernel_rfl) (by kernel_rfl)
      (x := ([.agg [.nil, .lit (.int .i64 0), .lit (.int .i64 0)], .nil], [], [])) (by kernel_rfl) rfl (by kernel_rfl)) ?_
  intro W base args ds gs before hval0 hW _ hk _
  have hval : ∀ (j : Nat) t v, Try.f20.params[j]? = some t → args[j]? = some v → Value.okWide Try.prog W .any base t v := hval0
  have hW' := hW
  obtain ⟨p, q, hA0, hV, rfl, hfz, hnd⟩ := hW
  have hA : DataW.TrodAll enc Try.prog W 0 (fun _ => true) true Try.f20.params.toList args.toList ds p := hA0
  rw [Try.params20] at hA hval
  obtain ⟨v0, vs, d0, ds0, p0, q0, e0, rfl, rfl, h0, hA⟩ := trodAll_cons hA
  obtain ⟨v1, vs, d1, ds1, p1, q1, rfl, rfl, rfl, h1, hA⟩ := trodAll_cons hA
  obtain ⟨rfl, rfl, rfl⟩ := trodAll_nil hA
  obtain rfl : args = #[v0, v1] := by cases args; simpa using e0
  obtain ⟨rfl, rfl⟩ := trodVars_none hV
  obtain ⟨RA0, rc0, j0, rfl, hc0, hr0, hn0⟩ := open_jn (hval 0 55 v0 rfl rfl) h0
  obtain ⟨A1, b1, c1, rfl, hc1, hb1, hn1⟩ := open_nums (hval 1 67 v1 rfl rfl) h1
  clear hA0 hval0
  refine (recorderWrite_t RA0 A1 rc0 c1 j0 b1 W (Nat.le_refl _) (hn0 _ (bk_each hk _ (by simp))).1 (hn0 _ (bk_each hk _ (by simp))).2 (hn1 _ (bk_each hk _ (by simp))) hc0 hr0 hb1).mono fun e W' ⟨he, hw⟩ => ?_
  subst he
  exact ⟨_, rfl, post_yes (t := 4) (by kernel_rfl) hW' (by kernel_rfl) rfl rfl rfl (by kernel_rfl) hw⟩

theorem rWriteSpecLaw_holds : Rows.RecorderWriteSpecUptoSaid :=
  OpenClaim.holds_of_cond 20 Try.f20 rfl rfl rfl rfl rfl rfl rfl ⟨rfl, rfl, rfl, rfl, rfl⟩ rfl rfl rfl rfl rfl (by kernel_rfl) Try.func20 rWriteSpecLaw_joined
    (of_decide_eq_true (by kernel_rfl)) (by unfold Func.isWrapper; first | (rw [if_pos (by decide +kernel)]; kernel_rfl) | (rw [if_neg (by decide +kernel)]; exact ⟨rfl, rfl⟩))
    (fun os started H enc _ F => rWriteSpecLaw_lifted os started H enc F)
end Go.Proofs.Ytckeopidedoohaa
