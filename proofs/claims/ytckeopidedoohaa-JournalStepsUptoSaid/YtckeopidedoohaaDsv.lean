/-
  What the law's own trial of the disk (sane) meets, as plain data. Conditions: none.
-/
import Derived.Test.YtckeopidedoohaaDdb
namespace Go.Proofs.Ytckeopidedoohaa

def dA : Dk := ⟨[zs, zs], [], -1, false⟩
def dB : Dk := ⟨[zs, zs], [⟨1, pad [7]⟩], -1, false⟩
def dC : Dk := ⟨[zs, zs], [⟨1, pad [7]⟩], 1, false⟩
def dD : Dk := ⟨[zs, zs], [⟨1, pad [7]⟩, ⟨0, dblB 8⟩], 1, false⟩
def torn8 : Bs := (dblB 8).take 64 ++ zs.drop 64
def dE : Dk := ⟨[torn8, pad [7]], [], 0, true⟩
def dF : Dk := ⟨[torn8, pad [7]], [], -1, false⟩
theorem pad7_len : (pad [7]).length = 128 := pad_len (by simp)
theorem torn8_len : torn8.length = 128 := by simp [torn8, dblB_len, zs_len]
theorem pad_dbl : pad (dblB 8) = dblB 8 := by simp [pad, dblB_len]
theorem dA_runs : Runs dA := ⟨by simp [Val, dA, zs_len], rfl⟩
theorem dB_runs : Runs dB := ⟨by simp [Val, dB, zs_len, pad7_len], rfl⟩
theorem dC_runs : Runs dC := ⟨by simp [Val, dC, zs_len, pad7_len], rfl⟩
theorem dD_runs : Runs dD := ⟨by simp [Val, dD, zs_len, pad7_len, dblB_len], rfl⟩
theorem dF_runs : Runs dF := ⟨by simp [Val, dF, torn8_len, pad7_len], rfl⟩
theorem sane_new0 : gNew 0 = (dk0, 1) := by simp [gNew]
theorem sane_new2 : gNew 2 = (dA, 0) := by simp [gNew, dA, List.replicate]
theorem sane_write1 : gWrite dA 1 [7] = (dB, 0) := by
  rw [gWrite_ok ⟨dA_runs, by decide, by decide⟩ (by decide) (by decide)]
  rfl
theorem sane_read1 : gRead dB 1 = (pad [7], 0) := by
  rw [gRead_ok ⟨dB_runs, by decide, by decide⟩]
  rfl
theorem sane_read2 : gRead dA 2 = ([], 40) := gRead_no (fun h => by have := h.2.2; revert this; decide)
theorem sane_long (b : Bs) (h : b.length = 129) : gWrite dA 0 b = (dk0, 1) := gWrite_arg ⟨dA_runs, by decide, by decide⟩ (by omega)
theorem sane_stop : gStop dB 1 = (dC, 0) := by
  rw [gStop_ok dB_runs (by decide)]
  rfl
theorem sane_write0 : gWrite dC 0 (dblB 8) = (dD, 0) := by
  rw [gWrite_ok ⟨dC_runs, by decide, by decide⟩ (by rw [dblB_len]; decide) (by decide), pad_dbl]
  rfl
theorem sane_sync : gSync dD = (dE, 40) := by
  rw [gSync_torn dD_runs (by decide)]
  rfl
theorem sane_again : gRestart dE = dF := rfl
theorem sane_read3 : gRead dF 1 = (pad [7], 0) := by
  rw [gRead_ok ⟨dF_runs, by decide, by decide⟩]
  rfl
theorem sane_read4 : gRead dF 0 = (torn8, 0) := by
  rw [gRead_ok ⟨dF_runs, by decide, by decide⟩]
  rfl
theorem sane_read5 : gRead (gRestart dB) 1 = (zs, 0) := by
  rw [show gRestart dB = dA from rfl, gRead_ok ⟨dA_runs, by decide, by decide⟩]
  rfl
end Go.Proofs.Ytckeopidedoohaa
