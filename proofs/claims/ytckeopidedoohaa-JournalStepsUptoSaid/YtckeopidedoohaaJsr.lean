/-
  A new disk's sectors hold no record. Conditions: none. | The plain laws of JournalSurvives: one sync, whole or stopped, of a journal that was opened from the disk and grown. | A sync of a journal that fits a disk that runs. Conditions: as the statement says.
-/
import Derived.Test.YtckeopidedoohaaJsn
namespace Go.Proofs.Ytckeopidedoohaa
open Go.RowKit

theorem genN_zs : ∀ n, genN (List.replicate n zs) = 1
  | 0 => rfl
  | n + 1 => by
    rw [List.replicate_succ', genN_snoc, genN_zs n]
    decide
theorem gRecs_zs (n : Nat) : gRecs (List.replicate n zs) = [] := by
  cases n with
  | zero => rfl
  | succ n =>
    unfold gRecs
    rw [recs_none]
    · rfl
    · unfold recAt
      rw [List.drop_zero, List.replicate_succ, scan_no (fun h => by rw [zs_bad] at h; cases h.1)]
end Go.Proofs.Ytckeopidedoohaa

namespace Go.Proofs.Ytckeopidedoohaa
open Go.RowKit

theorem gen_fold_le {g : Nat} (l : List Bs) (h : ∀ s ∈ l, sGen s ≤ g ∧ sEnd s ≤ g) : ∀ a, l.foldl (fun g s => max g (max (sGen s + 1) (sEnd s + 1))) a ≤ max a (g + 1) := by
  induction l with
  | nil => intro a; simp only [List.foldl_nil]; omega
  | cons s l ih =>
    intro a
    rw [List.foldl_cons]
    have h1 := h s (List.mem_cons_self ..)
    have h2 := ih (fun x hx => h x (List.mem_cons_of_mem _ hx)) (max a (max (sGen s + 1) (sEnd s + 1)))
    omega
theorem genN_bound {g : Nat} {l : List Bs} (h : ∀ s ∈ l, sGen s ≤ g ∧ sEnd s ≤ g) : genN l ≤ g + 1 := by
  have h1 := gen_fold_le l h 1
  unfold genN
  omega
/-- The disk between two steps. -/
structure GoodD (d : Dk) (ns : Nat) (K : List Bs) (g : Nat) : Prop where
  runs : Runs d
  pend : d.pend = []
  left : d.left = -1
  len : d.secs.length = ns
  recs : gRecs d.secs = K
  gen : genN d.secs ≤ g
  used : usedN K ≤ ns
theorem good_restart {y : Dk} {ns g : Nat} {K : List Bs} (h1 : 1 ≤ ns) (h2 : ns ≤ 4096) (hl : y.secs.length = ns) (hs : ∀ b ∈ y.secs, b.length = 128) (hr : gRecs y.secs = K) (hg : genN y.secs ≤ g) (hu : usedN K ≤ ns) : GoodD (gRestart y) ns K g :=
  ⟨⟨⟨by rw [← hl] at h1; exact h1, by rw [← hl] at h2; exact h2, by simp [gRestart], by simp [gRestart], by simp [gRestart], fun x hx => by simp [gRestart] at hx, hs⟩, rfl⟩, rfl, rfl, hl, hr, hg, hu⟩
theorem usedN_pre (rs : List Bs) (n : Nat) : usedN (rs.take n) ≤ usedN rs := by
  have h := usedN_append (rs.take n) (rs.drop n)
  rw [List.take_append_drop] at h
  omega
/-- What the new sectors' generations are. -/
theorem perf_gen {l : List Bs} {u : Nat} {rs : List Bs} (hg : genN l < 4294967296) (hf : u + usedN rs ≤ l.length) : genN (perfL l (mkW u (layA (genN l) u rs))) ≤ genN l + 1 := by
  refine genN_bound fun s hs => ?_
  rw [perf_mkW _ _ _ (by rw [layA_len]; exact hf)] at hs
  rcases List.mem_append.1 hs with h | h
  · have := genN_gt l s (List.mem_of_mem_take h); omega
  · rcases List.mem_append.1 h with h | h
    · have := layA_all hg _ _ s h; omega
    · have := genN_gt l s (List.mem_of_mem_drop h); omega
theorem torn_gens {l : List Bs} {u m : Nat} {rs : List Bs} (hl : ∀ s ∈ l, s.length = 128) (hg : genN l < 4294967296) (hf : u + usedN rs ≤ l.length) (hm : m < usedN rs) : genN (tornL l (mkW u (layA (genN l) u rs)) m) ≤ genN l + 1 := by
  refine genN_bound fun s hs => ?_
  rw [torn_mkW (by rw [layA_len]; exact hf) (by rw [layA_len]; exact hm)] at hs
  rcases List.mem_append.1 hs with h | h
  · have := genN_gt l s (List.mem_of_mem_take h); omega
  · rcases List.mem_append.1 h with h | h
    · have := layA_all hg _ _ s (List.mem_of_mem_take h); omega
    · rcases List.mem_cons.1 h with h | h
      · have m1 : l.getD (u + m) [] ∈ l := by rw [List.getD_eq_getElem?_getD, List.getElem?_eq_getElem (by omega)]; exact List.getElem_mem _
        have m2 : (layA (genN l) u rs).getD m [] ∈ layA (genN l) u rs := by rw [List.getD_eq_getElem?_getD, List.getElem?_eq_getElem (by rw [layA_len]; exact hm)]; exact List.getElem_mem _
        have a1 := layA_all hg _ _ _ m2
        obtain ⟨-, t2, t3⟩ := torn_gen (hl _ m1) a1.1
        have a2 := genN_gt l _ m1
        rw [h, t2, t3]
        omega
      · have := genN_gt l s (List.mem_of_mem_drop h); omega
theorem torn_secs {j : Jn} {d y : Dk} (h : Fits j d) (hl : 0 ≤ d.left ∧ d.left < usedN (j.recs.drop j.sync.toNat)) (hy : gJs j d = ((jn0, y), 40)) : y.secs = tornL d.secs (mkW (usedN (j.recs.take j.sync.toNat)) (layA (genN d.secs) (usedN (j.recs.take j.sync.toNat)) (j.recs.drop j.sync.toNat))) d.left.toNat := by
  have hr := ws_runs h
  have hlen : (wsD d (usedN (j.recs.take j.sync.toNat)) (j.recs.drop j.sync.toNat)).pend.length = usedN (j.recs.drop j.sync.toNat) := by simp only [wsD, mkW_len, layA_len]
  have hl2 : 0 ≤ (wsD d (usedN (j.recs.take j.sync.toNat)) (j.recs.drop j.sync.toNat)).left ∧ (wsD d (usedN (j.recs.take j.sync.toNat)) (j.recs.drop j.sync.toNat)).left < (wsD d (usedN (j.recs.take j.sync.toNat)) (j.recs.drop j.sync.toNat)).pend.length := by
    rw [hlen]
    exact hl
  have e := gSync_torn hr hl2
  have hs : j.sync ≠ j.recs.length := fun hx => by
    rw [hx, Int.toNat_natCast, List.drop_length, usedN_nil] at hl
    omega
  unfold gJs at hy
  rw [if_neg (not_not_intro h.val), if_neg (not_not_intro h.vald), if_neg (fun hx => hx.1 h.many), if_neg (by rw [h.stop]; simp), if_neg (by rw [h.pend]; simp), if_neg (not_not_intro ⟨h.recs, h.gen⟩), if_neg hs, e, if_pos (by simp)] at hy
  have h2 := congrArg (fun x => x.1.2.secs) hy
  exact h2.symm
/-- The steps of JournalSurvives. -/
theorem sv_step {d : Dk} {ns g : Nat} {K rs : List Bs} {lf : Int} (h : GoodD d ns K g) (hg : g < 4294967296) (h0 : 1 ≤ ns) (h1 : ns ≤ 4096) (ht : rs.take K.length = K) (_hl : K.length ≤ rs.length) (hv : JVal ⟨rs, ns, K.length⟩) (hlf : -1 ≤ lf) (hlf2 : lf ≤ 65536) :
    (∃ y, gJs ⟨rs, ns, K.length⟩ { d with left := lf } = ((⟨rs, ns, rs.length⟩, y), 0) ∧ GoodD (gRestart y) ns rs (g + 1)) ∨ (0 ≤ lf ∧ ∃ y n, gJs ⟨rs, ns, K.length⟩ { d with left := lf } = ((jn0, y), 40) ∧ K.length ≤ n ∧ n ≤ rs.length ∧ GoodD (gRestart y) ns (rs.take n) (g + 1)) := by
  obtain ⟨v1, v2, v3, v4, v5, v6, v7⟩ := h.runs.1
  have hf : Fits ⟨rs, ns, K.length⟩ { d with left := lf } := ⟨hv, ⟨v1, v2, v3, hlf, hlf2, v6, v7⟩, by rw [← h.len], h.runs.2, h.pend, by dsimp only; rw [h.recs, Int.toNat_natCast, ht], by have := h.gen; dsimp only; omega⟩
  have hu : (usedN rs : Int) ≤ ns := hv.2.2.2.2
  have hu2 : usedN rs ≤ ns := by omega
  have hgl : genN d.secs < 4294967296 := by have := h.gen; omega
  have hsum : usedN K + usedN (rs.drop K.length) = usedN rs := by
    have h9 := usedN_append (rs.take K.length) (rs.drop K.length)
    rw [List.take_append_drop, ht] at h9
    omega
  by_cases hs : K.length = rs.length
  · refine .inl ⟨{ d with left := lf }, ?_, ?_⟩
    · rw [gJs_same hf (by dsimp only; omega)]
      rw [hs]
    · have hK : K = rs := by rw [← ht, hs, List.take_length]
      exact good_restart h0 h1 h.len v7 (by rw [← hK]; exact h.recs) (by have := h.gen; dsimp only; omega) hu2
  · by_cases hx : 0 ≤ lf ∧ lf < usedN (rs.drop K.length)
    · refine .inr ⟨hx.1, ?_⟩
      have hx2 : 0 ≤ ({ d with left := lf } : Dk).left ∧ ({ d with left := lf } : Dk).left < usedN ((⟨rs, ns, K.length⟩ : Jn).recs.drop (⟨rs, ns, K.length⟩ : Jn).sync.toNat) := by
        dsimp only
        rw [Int.toNat_natCast]
        exact hx
      obtain ⟨y, n, e1, e2, e3, e4, e5, e6, e7, e8, e9⟩ := gJs_torn hf hx2
      have es := torn_secs hf hx2 e1
      dsimp only at e4 e7 e8 e9 es
      rw [Int.toNat_natCast] at e7 es
      rw [ht] at es
      refine ⟨y, n, e1, e7, e8, good_restart h0 h1 (by rw [e4]; exact h.len) e5 e9 ?_ (Nat.le_trans (usedN_pre rs n) hu2)⟩
      rw [es]
      have := torn_gens (u := usedN K) (m := lf.toNat) (rs := rs.drop K.length) v7 hgl (by rw [h.len]; omega) (by omega)
      have := h.gen
      omega
    · have hx2 : ¬ (0 ≤ ({ d with left := lf } : Dk).left ∧ ({ d with left := lf } : Dk).left < usedN ((⟨rs, ns, K.length⟩ : Jn).recs.drop (⟨rs, ns, K.length⟩ : Jn).sync.toNat)) := by
        dsimp only
        rw [Int.toNat_natCast]
        exact hx
      obtain ⟨y, e1, e2, e3, e4, e5, -, e7⟩ := gJs_ok hf (by dsimp only; omega) hx2
      dsimp only [wsD] at e4 e5 e7
      rw [Int.toNat_natCast, ht] at e7
      refine .inl ⟨y, e1, good_restart h0 h1 (by rw [e4]; exact h.len) e2.1.2.2.2.2.2.2 e5 ?_ hu2⟩
      rw [e7]
      have := perf_gen (u := usedN K) (rs := rs.drop K.length) hgl (by rw [h.len]; omega)
      have := h.gen
      omega
theorem good_new {ns : Nat} (h0 : 1 ≤ ns) (h1 : ns ≤ 4096) : GoodD ⟨List.replicate ns zs, [], -1, false⟩ ns [] 1 :=
  ⟨⟨⟨by simpa using h0, by simpa using h1, by simp, by simp, by simp, fun x hx => by simp at hx, fun b hb => by rw [List.eq_of_mem_replicate hb, zs_len]⟩, rfl⟩, rfl, rfl, by simp, gRecs_zs ns, by rw [genN_zs]; decide, by simp [usedN_nil]⟩
theorem usedN_each {rs : List Bs} {b : Bs} (h : b ∈ rs) : secN b ≤ usedN rs := by
  obtain ⟨s, t, rfl⟩ := List.append_of_mem h
  rw [usedN_append, usedN_cons]
  omega
theorem usedN_len (rs : List Bs) : rs.length ≤ usedN rs := by
  induction rs with
  | nil => exact Nat.le_refl _
  | cons b rs ih => rw [usedN_cons, List.length_cons]; have := secN_pos b; omega
theorem jval_sm {rs : List Bs} {ns : Nat} {s : Int} (h : JVal ⟨rs, ns, s⟩) (h1 : ns ≤ 4096) : Sm rs ∧ rs.length ≤ ns := by
  have hu : (usedN rs : Int) ≤ ns := h.2.2.2.2
  have hl := usedN_len rs
  refine ⟨⟨by omega, fun b hb => ?_⟩, by omega⟩
  have h2 := usedN_each hb
  unfold secN at h2
  omega
theorem jv_grow {rs : List Bs} {b : Bs} {ns : Nat} {K : List Bs} (h : JVal ⟨rs, ns, K.length⟩) (h1 : ¬ (ns : Int) - usedN rs < secN b) : JVal ⟨rs ++ [b], ns, K.length⟩ := by
  obtain ⟨v1, v2, v3, v4, v5⟩ := h
  refine ⟨v1, v2, v3, by simp only [List.length_append, List.length_singleton]; dsimp only at v4; omega, ?_⟩
  rw [usedN_snoc]
  dsimp only at v5 ⊢
  omega
theorem take_grow {rs : List Bs} {b : Bs} {K : List Bs} (h : rs.take K.length = K) (hl : K.length ≤ rs.length) : (rs ++ [b]).take K.length = K := by
  rw [List.take_append_of_le_length hl, h]
theorem good_open {d : Dk} {ns g : Nat} {K : List Bs} (h : GoodD d ns K g) : gOpen d = (⟨K, ns, K.length⟩, 0) := by
  rw [gOpen_ok h.runs.1 h.runs.2 (by rw [h.pend]; simp), h.recs, h.len]
theorem good_val {d : Dk} {ns g : Nat} {K : List Bs} (h : GoodD d ns K g) : JVal ⟨K, ns, K.length⟩ := by
  have h1 := h.runs.1.1
  have h2 := h.runs.1.2.1
  rw [h.len] at h1 h2
  have h3 := h.used
  exact ⟨by dsimp only; omega, by dsimp only; omega, by dsimp only; omega, by dsimp only; omega, by dsimp only; omega⟩
end Go.Proofs.Ytckeopidedoohaa

namespace Go.Proofs.Ytckeopidedoohaa
open Go.RowKit

theorem sv_run {d : Dk} {ns g : Nat} {K rs : List Bs} (h : GoodD d ns K g) (hg : g < 4294967296) (ht : rs.take K.length = K) (_hl : K.length ≤ rs.length) (hv : JVal ⟨rs, ns, K.length⟩) : ∃ y, gJs ⟨rs, ns, K.length⟩ d = ((⟨rs, ns, rs.length⟩, y), 0) ∧ GoodD y ns rs (g + 1) := by
  have hf : Fits ⟨rs, ns, K.length⟩ d := ⟨hv, h.runs.1, by rw [← h.len], h.runs.2, h.pend, by dsimp only; rw [h.recs, Int.toNat_natCast, ht], by have := h.gen; omega⟩
  have hu : (usedN rs : Int) ≤ ns := hv.2.2.2.2
  have hu2 : usedN rs ≤ ns := by omega
  have hgl : genN d.secs < 4294967296 := by have := h.gen; omega
  have hsum : usedN K + usedN (rs.drop K.length) = usedN rs := by
    have h9 := usedN_append (rs.take K.length) (rs.drop K.length)
    rw [List.take_append_drop, ht] at h9
    omega
  by_cases hs : K.length = rs.length
  · have hK : K = rs := by rw [← ht, hs, List.take_length]
    refine ⟨d, ?_, ⟨h.runs, h.pend, h.left, h.len, by rw [← hK]; exact h.recs, by have := h.gen; omega, hu2⟩⟩
    rw [gJs_same hf (by dsimp only; omega), hs]
  · obtain ⟨y, e1, e2, e3, e4, e5, e6, e7⟩ := gJs_ok hf (by dsimp only; omega) (fun hx => by have h9 := hx.1; rw [h.left] at h9; revert h9; decide)
    dsimp only [wsD] at e4 e5 e6 e7
    rw [Int.toNat_natCast, ht] at e7
    refine ⟨y, e1, e2, e3, by rw [e6, h.left]; rfl, by rw [e4]; exact h.len, e5, ?_, hu2⟩
    rw [e7]
    have := perf_gen (u := usedN K) (rs := rs.drop K.length) hgl (by rw [h.len]; omega)
    have := h.gen
    omega
end Go.Proofs.Ytckeopidedoohaa
