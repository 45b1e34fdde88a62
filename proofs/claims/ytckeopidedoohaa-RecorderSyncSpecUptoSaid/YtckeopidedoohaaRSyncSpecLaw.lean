/-
  RecorderSyncSpec: for every input of bulk at most 1048576 the law answers true.
-/
import Derived.Test.YtckeopidedoohaaRows
import Derived.Test.YtckeopidedoohaaL21
import Derived.Test.YtckeopidedoohaaJud
import Derived.Test.YtckeopidedoohaaJfb
namespace Go.Proofs.Ytckeopidedoohaa
open Go.ChangeShapes Go.WideShapes Go.ChangeAt Go.RowKit

theorem rSyncSpecLaw_place : Try.pinned.checked.prog.inPlace 21 = [] := by kernel_rfl
theorem rSyncSpecLaw_unf : Try.pinned.checked.prog.unfollowed 21 = true := by kernel_rfl
theorem rSyncSpecLaw_rec : Try.pinned.checked.prog.recurses 21 = true := by kernel_rfl
theorem rSyncSpecLaw_named : Try.pinned.checked.prog.varsNamed 21 = [] := by kernel_rfl
theorem rSyncSpecLaw_joined : joinedFacts Try.pinned.checked.prog 21 Try.f21 (Rows.OpenSpec.upto Rows.recorderSyncSpecSpec).bare Rows.recorderSyncSpecUptoRow = true := by
  unfold joinedFacts
  rw [jf_laid, jf_maps, jf_stops, jf_knobs, jf_keys, jf_heard, jf_enter, jf_lifts, jf_make, rSyncSpecLaw_place, rSyncSpecLaw_unf, rSyncSpecLaw_rec, rSyncSpecLaw_named]
  change _ = _
  kernel_rfl
set_option maxRecDepth 100000 in
theorem rSyncSpecLaw_lifted (os : Os) (started : os.Started) (H : Type) (enc : TypeId × Value → H) (F : Stop.Interp) :
    ReturnsInHanded {} Try.checked os 21 .any ((Rows.OpenSpec.upto Rows.recorderSyncSpecSpec).pre6 enc Try.prog Try.f21 Rows.recorderSyncSpecUptoRow.domain false) (((Rows.OpenSpec.upto Rows.recorderSyncSpecSpec).at F).post enc Try.prog Try.f21 false true false false) := by
  refine returnsInHanded_of_cond (C := Try.checked) (s := Rows.OpenSpec.upto Rows.recorderSyncSpecSpec) (k := Rows.uptoSmall) rfl (by kernel_rfl) started (by kernel_rfl) Try.func21
    (OpenSpec.witness (enc := enc) (C := Try.checked) (s := Rows.OpenSpec.upto Rows.recorderSyncSpecSpec) (k := Rows.uptoSmall) rfl false ⟨#[], #[.agg #[.slice none 0 0, .int .i64 0, .int .i64 0], .agg #[.slice none 0 0, .slice none 0 0, .int .i64 0, .bool false]], []⟩ 8 (by kernel_rfl) (by kernel_rfl) (by kernel_rfl)
      (x := ([.agg [.nil, .lit (.int .i64 0), .lit (.int .i64 0)], .agg [.nil, .nil, .lit (.int .i64 0), .lit (.bool false)]], [], [])) (by kernel_rfl) rfl (by kernel_rfl)) ?_
  intro W base args ds gs before hval0 hW _ hk _
  have hval : ∀ (j : Nat) t v, Try.f21.params[j]? = some t → args[j]? = some v → Value.okWide Try.prog W .any base t v := hval0
  have hW' := hW
  obtain ⟨p, q, hA0, hV, rfl, hfz, hnd⟩ := hW
  have hA : DataW.TrodAll enc Try.prog W 0 (fun _ => true) true Try.f21.params.toList args.toList ds p := hA0
  rw [Try.params21] at hA hval
  obtain ⟨v0, vs, d0, ds0, p0, q0, e0, rfl, rfl, h0, hA⟩ := trodAll_cons hA
  obtain ⟨v1, vs, d1, ds1, p1, q1, rfl, rfl, rfl, h1, hA⟩ := trodAll_cons hA
  obtain ⟨rfl, rfl, rfl⟩ := trodAll_nil hA
  obtain rfl : args = #[v0, v1] := by cases args; simpa using e0
  obtain ⟨rfl, rfl⟩ := trodVars_none hV
  obtain ⟨RA0, rc0, j0, rfl, hc0, hr0, hn0⟩ := open_jn (hval 0 55 v0 rfl rfl) h0
  obtain ⟨SA1, sc1, PA1, pc1, k1, rfl, hcs1, hcp1, hr1, hq1, hre1⟩ := open_diskU (hval 1 25 v1 rfl rfl) h1
  clear hA0 hval0
  refine (recorderSync_t RA0 SA1 PA1 rc0 sc1 pc1 j0 k1 W (Nat.le_refl _) (hn0 _ (bk_each hk _ (by simp))).1 (hn0 _ (bk_each hk _ (by simp))).2 hc0 (hre1 _ (bk_each hk _ (by simp))).1 (hre1 _ (bk_each hk _ (by simp))).2 hcs1 hcp1 hr0 hr1 hq1).mono fun e W' ⟨he, hw⟩ => ?_
  subst he
  exact ⟨_, rfl, post_yes (t := 4) (by kernel_rfl) hW' (by kernel_rfl) rfl rfl rfl (by kernel_rfl) hw⟩

theorem rSyncSpecLaw_holds : Rows.RecorderSyncSpecUptoSaid :=
  OpenClaim.holds_of_cond 21 Try.f21 rfl rfl rfl rfl rfl rfl rfl ⟨rfl, rfl, rfl, rfl, rfl⟩ rfl rfl rfl rfl rfl (by kernel_rfl) Try.func21 rSyncSpecLaw_joined
    (of_decide_eq_true (by kernel_rfl)) (by unfold Func.isWrapper; first | (rw [if_pos (by decide +kernel)]; kernel_rfl) | (rw [if_neg (by decide +kernel)]; exact ⟨rfl, rfl⟩))
    (fun os started H enc _ F => rSyncSpecLaw_lifted os started H enc F)
end Go.Proofs.Ytckeopidedoohaa
