/-
  JournalSteps: for every input of bulk at most 1048576 the law answers true.
-/
import Derived.Test.YtckeopidedoohaaRows
import Derived.Test.YtckeopidedoohaaL15
import Derived.Test.YtckeopidedoohaaJur
import Derived.Test.YtckeopidedoohaaJfb
namespace Go.Proofs.Ytckeopidedoohaa
open Go.ChangeShapes Go.WideShapes Go.ChangeAt Go.RowKit

theorem jStepsLaw_place : Try.pinned.checked.prog.inPlace 15 = [] := by kernel_rfl
theorem jStepsLaw_unf : Try.pinned.checked.prog.unfollowed 15 = true := by kernel_rfl
theorem jStepsLaw_rec : Try.pinned.checked.prog.recurses 15 = true := by kernel_rfl
theorem jStepsLaw_named : Try.pinned.checked.prog.varsNamed 15 = [] := by kernel_rfl
theorem jStepsLaw_joined : joinedFacts Try.pinned.checked.prog 15 Try.f15 (Rows.OpenSpec.upto Rows.journalStepsSpec).bare Rows.journalStepsUptoRow = true := by
  unfold joinedFacts
  rw [jf_laid, jf_maps, jf_stops, jf_knobs, jf_keys, jf_heard, jf_enter, jf_lifts, jf_make, jStepsLaw_place, jStepsLaw_unf, jStepsLaw_rec, jStepsLaw_named]
  change _ = _
  kernel_rfl
set_option maxRecDepth 100000 in
theorem jStepsLaw_lifted (os : Os) (started : os.Started) (H : Type) (enc : TypeId × Value → H) (F : Stop.Interp) :
    ReturnsInHanded {} Try.checked os 15 .any ((Rows.OpenSpec.upto Rows.journalStepsSpec).pre6 enc Try.prog Try.f15 Rows.journalStepsUptoRow.domain false) (((Rows.OpenSpec.upto Rows.journalStepsSpec).at F).post enc Try.prog Try.f15 false true false false) := by
  refine returnsInHanded_of_cond (C := Try.checked) (s := Rows.OpenSpec.upto Rows.journalStepsSpec) (k := Rows.uptoSmall) rfl (by kernel_rfl) started (by kernel_rfl) Try.func15
    (OpenSpec.witness (enc := enc) (C := Try.checked) (s := Rows.OpenSpec.upto Rows.journalStepsSpec) (k := Rows.uptoSmall) rfl false ⟨#[], #[.slice none 0 0, .slice none 0 0], []⟩ 8 (by kernel_rfl) (by kernel_rfl) (by kernel_rfl)
      (x := ([.nil, .nil], [], [])) (by kernel_rfl) rfl (by kernel_rfl)) ?_
  intro W base args ds gs before hval0 hW _ hk _
  have hval : ∀ (j : Nat) t v, Try.f15.params[j]? = some t → args[j]? = some v → Value.okWide Try.prog W .any base t v := hval0
  have hW' := hW
  obtain ⟨p, q, hA0, hV, rfl, hfz, hnd⟩ := hW
  have hA : DataW.TrodAll enc Try.prog W 0 (fun _ => true) true Try.f15.params.toList args.toList ds p := hA0
  rw [Try.params15] at hA hval
  obtain ⟨v0, vs, d0, ds0, p0, q0, e0, rfl, rfl, h0, hA⟩ := trodAll_cons hA
  obtain ⟨v1, vs, d1, ds1, p1, q1, rfl, rfl, rfl, h1, hA⟩ := trodAll_cons hA
  obtain ⟨rfl, rfl, rfl⟩ := trodAll_nil hA
  obtain rfl : args = #[v0, v1] := by cases args; simpa using e0
  obtain ⟨rfl, rfl⟩ := trodVars_none hV
  obtain ⟨RA0, rs0, rc0, rfl, hc0, hr0, hn0⟩ := open_list (hval 0 22 v0 rfl rfl) h0
  obtain ⟨RA1, rs1, rc1, rfl, hc1, hr1, hn1⟩ := open_list (hval 1 22 v1 rfl rfl) h1
  have hab : rs0.length + rs1.length ≤ 1048576 := by
    have h1 : Rows.uptoBulkAll _ ≤ 1048576 := of_decide_eq_true hk
    have h2 := (hn0 (Rows.uptoBulk d0) (Nat.le_refl _)).1
    have h3 := (hn1 (Rows.uptoBulk d1) (Nat.le_refl _)).1
    simp only [List.cons_append, List.append_nil, Rows.uptoBulkAll] at h1
    omega
  clear hA0 hval0
  refine (journalSteps_t RA0 RA1 rc0 rc1 rs0 rs1 W (Nat.le_refl _) hab (hn0 _ (bk_each hk _ (by simp))).2 (hn1 _ (bk_each hk _ (by simp))).2 hr0 hr1).mono fun e W' ⟨he, hw⟩ => ?_
  subst he
  exact ⟨_, rfl, post_yes (t := 4) (by kernel_rfl) hW' (by kernel_rfl) rfl rfl rfl (by kernel_rfl) hw⟩

theorem jStepsLaw_holds : Rows.JournalStepsUptoSaid :=
  OpenClaim.holds_of_cond 15 Try.f15 rfl rfl rfl rfl rfl rfl rfl ⟨rfl, rfl, rfl, rfl, rfl⟩ rfl rfl rfl rfl rfl (by kernel_rfl) Try.func15 jStepsLaw_joined
    (of_decide_eq_true (by kernel_rfl)) (by unfold Func.isWrapper; first | (rw [if_pos (by decide +kernel)]; kernel_rfl) | (rw [if_neg (by decide +kernel)]; exact ⟨rfl, rfl⟩))
    (fun os started H enc _ F => jStepsLaw_lifted os started H enc F)
end Go.Proofs.Ytckeopidedoohaa
