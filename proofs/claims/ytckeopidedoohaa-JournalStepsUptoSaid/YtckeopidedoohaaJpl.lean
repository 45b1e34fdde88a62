/-
  The journal's laws as plain mathematics: the checksum, sectors of records, records that are read. Conditions: none.
-/
import Derived.Test.YtckeopidedoohaaDpl
namespace Go.Proofs.Ytckeopidedoohaa


/-- One step of the checksum. -/
def crc1 (n : Nat) : Nat := (n / 2) ^^^ (3988292384 * (n % 2))
def crcN : Nat → Nat → Nat
  | 0, n => n
  | k + 1, n => crc1 (crcN k n)
def crcB (n : Nat) (c : UInt8) : Nat := crcN 8 (n ^^^ c.toNat)
def crcL (n : Nat) (b : Bs) : Nat := b.foldl crcB n
def gSum (b : Bs) : Nat := 4294967295 ^^^ crcL 4294967295 b
theorem crc1_lt {n : Nat} (h : n < 4294967296) : crc1 n < 4294967296 := by
  unfold crc1
  rcases Nat.mod_two_eq_zero_or_one n with e | e <;> rw [e]
  · exact Nat.xor_lt_two_pow (n := 32) (by omega) (by decide)
  · exact Nat.xor_lt_two_pow (n := 32) (by omega) (by decide)
theorem crcN_lt (k : Nat) {n : Nat} (h : n < 4294967296) : crcN k n < 4294967296 := by
  induction k with
  | zero => exact h
  | succ k ih => exact crc1_lt ih
theorem xor_u8_lt {n : Nat} (h : n < 4294967296) (c : UInt8) : n ^^^ c.toNat < 4294967296 := by
  have := c.toNat_lt
  exact Nat.xor_lt_two_pow (n := 32) h (by omega)
theorem crcB_lt {n : Nat} (h : n < 4294967296) (c : UInt8) : crcB n c < 4294967296 := crcN_lt 8 (xor_u8_lt h c)
theorem crcL_lt {n : Nat} (h : n < 4294967296) (b : Bs) : crcL n b < 4294967296 := by
  unfold crcL
  induction b generalizing n with
  | nil => exact h
  | cons c b ih => exact ih (crcB_lt h c)
theorem gSum_lt (b : Bs) : gSum b < 4294967296 := Nat.xor_lt_two_pow (n := 32) (by decide) (crcL_lt (by decide) b)
theorem xor_cancel {a b c : Nat} (h : a ^^^ c = b ^^^ c) : a = b := by
  have := congrArg (· ^^^ c) h
  simpa [Nat.xor_assoc] using this
theorem crc1_inj {n m : Nat} (h1 : n < 4294967296) (h2 : m < 4294967296) (h : crc1 n = crc1 m) : n = m := by
  unfold crc1 at h
  have top : ∀ x : Nat, x < 4294967296 → (x / 2).testBit 31 = false := fun x hx => Nat.testBit_lt_two_pow (by omega)
  have t := congrArg (fun x => x.testBit 31) h
  simp only [Nat.testBit_xor, top n h1, top m h2, Bool.false_xor] at t
  have e : n % 2 = m % 2 := by
    rcases Nat.mod_two_eq_zero_or_one n with a | a <;> rcases Nat.mod_two_eq_zero_or_one m with b | b <;> rw [a, b] at t <;> first | (rw [a, b]; done) | (exfalso; revert t; decide)
  rw [e] at h
  have := xor_cancel h
  omega
theorem crcN_inj (k : Nat) {n m : Nat} (h1 : n < 4294967296) (h2 : m < 4294967296) (h : crcN k n = crcN k m) : n = m := by
  induction k with
  | zero => exact h
  | succ k ih => exact ih (crc1_inj (crcN_lt k h1) (crcN_lt k h2) h)
theorem crcL_inj (b : Bs) {n m : Nat} (h1 : n < 4294967296) (h2 : m < 4294967296) (h : crcL n b = crcL m b) : n = m := by
  induction b generalizing n m with
  | nil => exact h
  | cons c b ih =>
    have := ih (crcB_lt h1 c) (crcB_lt h2 c) h
    exact xor_cancel (crcN_inj 8 (xor_u8_lt h1 c) (xor_u8_lt h2 c) this)
theorem crcL_append (n : Nat) (a b : Bs) : crcL n (a ++ b) = crcL (crcL n a) b := by simp [crcL]
/-- One byte that is changed changes the sum. -/
theorem gSum_one {a b : Bs} {x y : UInt8} (h : gSum (a ++ x :: b) = gSum (a ++ y :: b)) : x = y := by
  unfold gSum at h
  rw [Nat.xor_comm, Nat.xor_comm 4294967295] at h
  have h1 := xor_cancel h
  rw [crcL_append, crcL_append] at h1
  have l0 : crcL 4294967295 a < 4294967296 := crcL_lt (by decide) a
  have h2 : crcB (crcL 4294967295 a) x = crcB (crcL 4294967295 a) y := crcL_inj b (crcB_lt l0 x) (crcB_lt l0 y) h1
  have h3 := crcN_inj 8 (xor_u8_lt l0 x) (xor_u8_lt l0 y) h2
  rw [Nat.xor_comm, Nat.xor_comm _ y.toNat] at h3
  exact UInt8.toNat_inj.1 (xor_cancel h3)

/-- The bytes of a number, the most significant first. -/
def beL : Nat → Nat → Bs
  | 0, _ => []
  | k + 1, n => UInt8.ofNat (n / 256 ^ k) :: beL k n
theorem beL_len (k n : Nat) : (beL k n).length = k := by
  induction k with
  | zero => rfl
  | succ k ih => simp [beL, ih]
/-- A number of bytes. -/
def getL (b : Bs) : Nat := b.foldl (fun n c => n * 256 + c.toNat) 0
theorem get_be4 {n : Nat} (h : n < 4294967296) : getL (beL 4 n) = n := by
  simp [getL, beL]
  omega
theorem getL_lt4 {b : Bs} (h : b.length = 4) : getL b < 4294967296 := by
  match b, h with
  | [a, b, c, d], _ =>
    have := a.toNat_lt
    have := b.toNat_lt
    have := c.toNat_lt
    have := d.toNat_lt
    simp [getL]
    omega

/-- What a sector holds between its sum and its end. -/
def mid (num : Nat) (kind : UInt8) (b : Bs) : Bs := beL 2 num ++ kind :: UInt8.ofNat b.length :: (b ++ List.replicate (112 - b.length) 0)
theorem mid_len (num : Nat) (kind : UInt8) {b : Bs} (h : b.length ≤ 112) : (mid num kind b).length = 116 := by
  simp [mid, beL_len]
  omega
/-- A sector of a record. -/
def enc (g num : Nat) (kind : UInt8) (b : Bs) : Bs := beL 4 g ++ (beL 4 (gSum (mid num kind b)) ++ (mid num kind b ++ beL 4 g))
theorem enc_len (g num : Nat) (kind : UInt8) {b : Bs} (h : b.length ≤ 112) : (enc g num kind b).length = 128 := by
  simp [enc, beL_len, mid_len num kind h]
def sGen (s : Bs) : Nat := getL (s.take 4)
def sEnd (s : Bs) : Nat := getL (s.drop 124)
def sKind (s : Bs) : UInt8 := s.getD 10 0
def sLen (s : Bs) : Nat := (s.getD 11 0).toNat
def sData (s : Bs) : Bs := (s.drop 12).take (sLen s)
def sBeg (s : Bs) : Bool := decide ((sKind s).toNat % 2 = 1)
def sFin (s : Bs) : Bool := decide ((sKind s).toNat / 2 % 2 = 1)
theorem take_app {a b : Bs} {n : Nat} (h : a.length = n) : (a ++ b).take n = a := by subst h; simp
theorem drop_app {a b : Bs} {n : Nat} (h : a.length = n) : (a ++ b).drop n = b := by subst h; simp
theorem enc_gen {g : Nat} (hg : g < 4294967296) (num : Nat) (kind : UInt8) (b : Bs) : sGen (enc g num kind b) = g := by
  unfold sGen enc
  rw [take_app (beL_len 4 g), get_be4 hg]
theorem enc_assoc (g num : Nat) (kind : UInt8) (b : Bs) : enc g num kind b = (beL 4 g ++ beL 4 (gSum (mid num kind b)) ++ mid num kind b) ++ beL 4 g := by simp [enc]
theorem enc_end {g : Nat} (hg : g < 4294967296) (num : Nat) (kind : UInt8) {b : Bs} (h : b.length ≤ 112) : sEnd (enc g num kind b) = g := by
  unfold sEnd
  rw [enc_assoc, drop_app (by simp [beL_len, mid_len num kind h]), get_be4 hg]
theorem enc_at (g num : Nat) (kind : UInt8) (b : Bs) : enc g num kind b = (beL 4 g ++ beL 4 (gSum (mid num kind b)) ++ beL 2 num) ++ kind :: UInt8.ofNat b.length :: (b ++ (List.replicate (112 - b.length) 0 ++ beL 4 g)) := by simp [enc, mid]
theorem enc_pre (g num : Nat) (kind : UInt8) (b : Bs) : (beL 4 g ++ beL 4 (gSum (mid num kind b)) ++ beL 2 num).length = 10 := by simp [beL_len]
theorem enc_kind (g num : Nat) (kind : UInt8) (b : Bs) : sKind (enc g num kind b) = kind := by
  unfold sKind
  rw [enc_at, List.getD_eq_getElem?_getD, List.getElem?_append_right (by rw [enc_pre]; omega), enc_pre]
  rfl
theorem enc_slen (g num : Nat) (kind : UInt8) {b : Bs} (h : b.length ≤ 112) : sLen (enc g num kind b) = b.length := by
  unfold sLen
  rw [enc_at, List.getD_eq_getElem?_getD, List.getElem?_append_right (by rw [enc_pre]; omega), enc_pre]
  simp
  omega
theorem enc_data (g num : Nat) (kind : UInt8) {b : Bs} (h : b.length ≤ 112) : sData (enc g num kind b) = b := by
  unfold sData
  rw [enc_slen g num kind h]
  have : enc g num kind b = ((beL 4 g ++ beL 4 (gSum (mid num kind b)) ++ beL 2 num) ++ [kind, UInt8.ofNat b.length]) ++ (b ++ (List.replicate (112 - b.length) 0 ++ beL 4 g)) := by rw [enc_at]; simp
  rw [this, drop_app (by rw [List.length_append, enc_pre]; rfl), take_app rfl]
/-- Whether a sector has the form of one with the given number. -/
def gGood (s : Bs) (num : Nat) : Bool :=
  decide (sLen s ≤ 112) && (decide ((sKind s).toNat ≤ 3) && ((sFin s || decide (112 ≤ sLen s)) && ((sBeg s || decide (0 < sLen s)) && (decide (0 < sGen s) && decide (s = enc (sGen s) num (sKind s) (sData s))))))
theorem sData_len {s : Bs} (h : s.length = 128) (hn : sLen s ≤ 112) : (sData s).length = sLen s := by
  unfold sData
  rw [List.length_take, List.length_drop]
  omega
theorem good_parts {s : Bs} {num : Nat} (h : gGood s num = true) : sLen s ≤ 112 ∧ (sKind s).toNat ≤ 3 ∧ (sFin s = true ∨ 112 ≤ sLen s) ∧ (sBeg s = true ∨ 0 < sLen s) ∧ 0 < sGen s ∧ s = enc (sGen s) num (sKind s) (sData s) := by
  unfold gGood at h
  simp only [Bool.and_eq_true, Bool.or_eq_true, decide_eq_true_eq] at h
  exact h
theorem good_ends {s : Bs} {num : Nat} (hl : s.length = 128) (h : gGood s num = true) : sEnd s = sGen s := by
  obtain ⟨h1, -, -, -, -, h2⟩ := good_parts h
  have hg : sGen s < 4294967296 := getL_lt4 (by simp [hl])
  have := enc_end (b := sData s) hg num (sKind s) (by rw [sData_len hl h1]; exact h1)
  rw [← h2] at this
  exact this
theorem good_enc {g num : Nat} {kind : UInt8} {b : Bs} (h0 : 0 < g) (hg : g < 4294967296) (hb : b.length ≤ 112) (hk : kind.toNat ≤ 3) (h1 : kind.toNat / 2 % 2 = 1 ∨ b.length = 112) (h2 : kind.toNat % 2 = 1 ∨ 0 < b.length) : gGood (enc g num kind b) num = true := by
  unfold gGood sFin sBeg
  rw [enc_gen hg, enc_kind, enc_slen g num kind hb, enc_data g num kind hb]
  simp only [Bool.and_eq_true, Bool.or_eq_true, decide_eq_true_eq]
  exact ⟨hb, hk, by omega, h2, h0, trivial⟩

/-- One record, read from some sectors on. -/
def scan (g0 last at_ : Nat) : List Bs → Nat → Bs → Option (Nat × Bs)
  | [], _, _ => none
  | s :: r, n, b => if gGood s n = true ∧ sBeg s = decide (n = at_) ∧ sGen s = g0 ∧ last ≤ sGen s then (if sFin s = true then some (n + 1, b ++ sData s) else scan g0 last at_ r (n + 1) (b ++ sData s)) else none
/-- The record that begins at a place. -/
def recAt (l : List Bs) (at_ last : Nat) : Option (Nat × Bs) := scan (sGen (l.getD at_ [])) last at_ (l.drop at_) at_ []
def recs : Nat → List Bs → Nat → Nat → List (Nat × Bs)
  | 0, _, _, _ => []
  | f + 1, l, at_, last => match recAt l at_ last with
    | none => []
    | some (n, b) => (n, b) :: recs f l n (sGen (l.getD at_ []))
theorem scan_lt {g0 last at_ : Nat} : ∀ {l : List Bs} {n : Nat} {b : Bs} {m : Nat} {c : Bs}, scan g0 last at_ l n b = some (m, c) → n < m ∧ m ≤ n + l.length
  | [], _, _, _, _, h => by simp [scan] at h
  | s :: r, n, b, m, c, h => by
    unfold scan at h
    split at h
    · split at h
      · simp only [Option.some.injEq, Prod.mk.injEq] at h
        simp
        omega
      · have := scan_lt h
        simp
        omega
    · cases h
theorem recAt_lt {l : List Bs} {at_ last m : Nat} {c : Bs} (h : recAt l at_ last = some (m, c)) : at_ < m ∧ m ≤ l.length := by
  have h1 := scan_lt h
  rw [List.length_drop] at h1
  omega
theorem recAt_none {l : List Bs} {at_ last : Nat} (h : l.length ≤ at_) : recAt l at_ last = none := by
  unfold recAt
  rw [List.drop_eq_nil_of_le h]
  rfl
theorem recs_none {f : Nat} {l : List Bs} {at_ last : Nat} (h : recAt l at_ last = none) : recs f l at_ last = [] := by
  cases f with
  | zero => rfl
  | succ f => simp [recs, h]
theorem recs_some {f : Nat} {l : List Bs} {at_ last n : Nat} {b : Bs} (h : recAt l at_ last = some (n, b)) : recs (f + 1) l at_ last = (n, b) :: recs f l n (sGen (l.getD at_ [])) := by
  simp [recs, h]
theorem recs_fuel : ∀ (f f' : Nat) (l : List Bs) (at_ last : Nat), l.length ≤ at_ + f → l.length ≤ at_ + f' → recs f l at_ last = recs f' l at_ last
  | 0, f', l, at_, last, h, _ => by rw [recs_none (recAt_none (by omega)), recs_none (recAt_none (by omega))]
  | f + 1, 0, l, at_, last, _, h => by rw [recs_none (recAt_none (by omega)), recs_none (recAt_none (by omega))]
  | f + 1, f' + 1, l, at_, last, h, h' => by
    cases e : recAt l at_ last with
    | none => rw [recs_none e, recs_none e]
    | some x =>
      obtain ⟨n, b⟩ := x
      have := recAt_lt e
      rw [recs_some e, recs_some e, recs_fuel f f' l n _ (by omega) (by omega)]
/-- The records on some sectors. -/
def gRecs (l : List Bs) : List Bs := (recs l.length l 0 0).map (·.2)
/-- How many sectors a record occupies. -/
def secN (b : Bs) : Nat := max 1 ((b.length + 111) / 112)
def usedN (l : List Bs) : Nat := (l.map secN).foldl (· + ·) 0
theorem foldl_add (l : List Nat) (a : Nat) : l.foldl (· + ·) a = a + l.foldl (· + ·) 0 := by
  induction l generalizing a with
  | nil => rfl
  | cons x l ih => rw [List.foldl_cons, List.foldl_cons, ih (a + x), ih (0 + x)]; omega
theorem usedN_cons (b : Bs) (l : List Bs) : usedN (b :: l) = secN b + usedN l := by
  unfold usedN
  rw [List.map_cons, List.foldl_cons, foldl_add]
  omega
theorem usedN_nil : usedN [] = 0 := rfl
theorem usedN_append (a b : List Bs) : usedN (a ++ b) = usedN a + usedN b := by
  induction a with
  | nil => simp [usedN_nil]
  | cons x a ih => rw [List.cons_append, usedN_cons, usedN_cons, ih]; omega
/-- Records one behind the other, from one place to another. -/
inductive Chain (l : List Bs) : Nat → Nat → List Bs → Nat → Nat → Prop
  | nil (at_ last : Nat) : Chain l at_ last [] at_ last
  | cons {at_ last n at' last' : Nat} {b : Bs} {rs : List Bs} : recAt l at_ last = some (n, b) → Chain l n (sGen (l.getD at_ [])) rs at' last' → Chain l at_ last (b :: rs) at' last'
theorem Chain.snoc {l : List Bs} {at_ last at' last' n : Nat} {rs : List Bs} {b : Bs} (h : Chain l at_ last rs at' last') (h' : recAt l at' last' = some (n, b)) : Chain l at_ last (rs ++ [b]) n (sGen (l.getD at' [])) := by
  induction h with
  | nil => exact .cons h' (.nil _ _)
  | cons h1 _ ih => exact .cons h1 (ih h')
theorem Chain.append {l : List Bs} {at_ last at' last' at2 last2 : Nat} {rs ss : List Bs} (h : Chain l at_ last rs at' last') (h' : Chain l at' last' ss at2 last2) : Chain l at_ last (rs ++ ss) at2 last2 := by
  induction h with
  | nil => exact h'
  | cons h1 _ ih => exact .cons h1 (ih h')
theorem Chain.recs {l : List Bs} {at_ last at' last' : Nat} {rs : List Bs} (h : Chain l at_ last rs at' last') (hn : recAt l at' last' = none) : ∀ f, l.length ≤ at_ + f → (recs f l at_ last).map (·.2) = rs := by
  induction h with
  | nil => intro f _; rw [recs_none hn]; rfl
  | cons h1 _ ih =>
    intro f hf
    have := recAt_lt h1
    cases f with
    | zero => omega
    | succ f => rw [recs_some h1, List.map_cons, ih hn f (by omega)]
theorem recs_chain : ∀ (f : Nat) (l : List Bs) (at_ last : Nat), l.length ≤ at_ + f → ∃ at' last', Chain l at_ last ((recs f l at_ last).map (·.2)) at' last' ∧ recAt l at' last' = none
  | 0, l, at_, last, h => ⟨at_, last, .nil _ _, recAt_none (by omega)⟩
  | f + 1, l, at_, last, h => by
    cases e : recAt l at_ last with
    | none => exact ⟨at_, last, by rw [recs_none e]; exact .nil _ _, e⟩
    | some x =>
      obtain ⟨n, b⟩ := x
      have := recAt_lt e
      obtain ⟨a', l', h1, h2⟩ := recs_chain f l n (sGen (l.getD at_ [])) (by omega)
      exact ⟨a', l', by rw [recs_some e]; exact .cons e h1, h2⟩
theorem scan_ext {g0 last at_ : Nat} : ∀ {l l' : List Bs} {n : Nat} {b : Bs} {m : Nat} {c : Bs}, scan g0 last at_ l n b = some (m, c) → (∀ i, i < m - n → l'[i]? = l[i]?) → scan g0 last at_ l' n b = some (m, c)
  | [], _, _, _, _, _, h, _ => by simp [scan] at h
  | s :: r, l', n, b, m, c, h, he => by
    have hlt := scan_lt h
    have h0 := he 0 (by omega)
    match l', h0 with
    | s' :: r', h0 =>
      simp only [List.getElem?_cons_zero, Option.some.injEq] at h0
      subst h0
      unfold scan at h ⊢
      split at h
      · rename_i hc
        rw [if_pos hc]
        split at h
        · rename_i hf
          rw [if_pos hf]
          exact h
        · rename_i hf
          rw [if_neg hf]
          refine scan_ext h fun i hi => ?_
          have := he (i + 1) (by have := scan_lt h; omega)
          simpa using this
      · cases h
theorem getD_ext {l l' : List Bs} {i : Nat} (h : l'[i]? = l[i]?) : l'.getD i [] = l.getD i [] := by simp [List.getD, h]
theorem recAt_ext {l l' : List Bs} {at_ last n : Nat} {b : Bs} (h : recAt l at_ last = some (n, b)) (he : ∀ i, i < n → l'[i]? = l[i]?) : recAt l' at_ last = some (n, b) := by
  have hlt := recAt_lt h
  unfold recAt at *
  rw [getD_ext (he at_ hlt.1)]
  refine scan_ext h fun i hi => ?_
  rw [List.getElem?_drop, List.getElem?_drop]
  exact he _ (by omega)
theorem Chain.le {l : List Bs} {at_ last at' last' : Nat} {rs : List Bs} (h : Chain l at_ last rs at' last') : at_ ≤ at' := by
  induction h with
  | nil => exact Nat.le_refl _
  | cons h1 _ ih => have := recAt_lt h1; omega
theorem Chain.ext {l l' : List Bs} {at_ last at' last' : Nat} {rs : List Bs} (h : Chain l at_ last rs at' last') (he : ∀ i, i < at' → l'[i]? = l[i]?) : Chain l' at_ last rs at' last' := by
  induction h with
  | nil => exact .nil _ _
  | cons h1 h2 ih =>
    have := recAt_lt h1
    have hle := h2.le
    refine .cons (recAt_ext h1 fun i hi => he i (by omega)) ?_
    rw [getD_ext (he _ (by omega))]
    exact ih he
/-- The length of what a record's sectors hold. -/
theorem scan_sec {g0 last at_ : Nat} : ∀ {l : List Bs} {n : Nat} {b : Bs} {m : Nat} {c : Bs}, (∀ s ∈ l, s.length = 128) → scan g0 last at_ l n b = some (m, c) → ∃ e : Bs, c = b ++ e ∧ e.length ≤ 112 * (m - n) ∧ (at_ < n → 112 * (m - n - 1) < e.length) ∧ (at_ = n → secN e = m - n)
  | [], _, _, _, _, _, h => by simp [scan] at h
  | s :: r, n, b, m, c, hl, h => by
    have hs := hl s List.mem_cons_self
    have hlt := scan_lt h
    unfold scan at h
    split at h
    · rename_i hc
      obtain ⟨hg, hb, -, -⟩ := hc
      obtain ⟨p1, -, p3, p4, -, -⟩ := good_parts hg
      have hd := sData_len hs p1
      have p4' : at_ < n → 0 < sLen s := fun hh => by
        rcases p4 with p4 | p4
        · rw [p4] at hb
          have := of_decide_eq_true hb.symm
          omega
        · exact p4
      split at h
      · simp only [Option.some.injEq, Prod.mk.injEq] at h
        obtain ⟨rfl, rfl⟩ := h
        refine ⟨sData s, rfl, by omega, fun hh => by have := p4' hh; omega, fun _ => ?_⟩
        unfold secN
        omega
      · rename_i hf
        have p3' : 112 ≤ sLen s := p3.resolve_left hf
        obtain ⟨e, he, h1, h2, -⟩ := scan_sec (fun x hx => hl x (List.mem_cons_of_mem _ hx)) h
        have hlt2 := scan_lt h
        refine ⟨sData s ++ e, by rw [he, List.append_assoc], by rw [List.length_append]; omega, fun hh => ?_, fun hh => ?_⟩
        · have := h2 (by omega)
          rw [List.length_append]
          omega
        · have := h2 (by omega)
          unfold secN
          rw [List.length_append]
          omega
    · cases h
theorem recAt_sec {l : List Bs} {at_ last n : Nat} {b : Bs} (hl : ∀ s ∈ l, s.length = 128) (h : recAt l at_ last = some (n, b)) : n = at_ + secN b := by
  have hlt := recAt_lt h
  obtain ⟨e, he, -, -, h1⟩ := scan_sec (fun s hs => hl s (List.mem_of_mem_drop hs)) h
  have := h1 rfl
  rw [List.nil_append] at he
  subst he
  omega
theorem Chain.used {l : List Bs} {at_ last at' last' : Nat} {rs : List Bs} (hl : ∀ s ∈ l, s.length = 128) (h : Chain l at_ last rs at' last') : at' = at_ + usedN rs := by
  induction h with
  | nil => rfl
  | cons h1 _ ih =>
    have := recAt_sec hl h1
    rw [usedN_cons]
    omega
/-- The sectors of a record, the kind of the first one given. -/
def lay (g : Nat) : Nat → Nat → UInt8 → Bs → List Bs
  | 0, _, _, _ => []
  | k + 1, n, kind, b => enc g n (if k = 0 then kind ||| 2 else kind) (b.take 112) :: lay g k (n + 1) 0 (b.drop 112)
theorem lay_len (g : Nat) : ∀ (k n : Nat) (kind : UInt8) (b : Bs), (lay g k n kind b).length = k
  | 0, _, _, _ => rfl
  | k + 1, n, kind, b => by simp [lay, lay_len g k]
theorem scan_lay {g last at_ : Nat} (h0 : 0 < g) (hg : g < 4294967296) (hl : last ≤ g) : ∀ (k n : Nat) (kind : UInt8) (b acc : Bs) (rest : List Bs), (kind = 1 ∧ n = at_ ∨ kind = 0 ∧ at_ < n) → b.length ≤ 112 * (k + 1) → (0 < k ∨ kind = 0 → 112 * k < b.length) →
    scan g last at_ (lay g (k + 1) n kind b ++ rest) n acc = some (n + (k + 1), acc ++ b)
  | 0, n, kind, b, acc, rest, hk, h1, h2 => by
    have hb : b.take 112 = b := List.take_of_length_le (by omega)
    unfold lay scan
    rw [if_pos rfl, hb, List.cons_append]
    have hk3 : (kind ||| 2).toNat ≤ 3 := by rcases hk with ⟨rfl, _⟩ | ⟨rfl, _⟩ <;> decide
    have hk2 : (kind ||| 2).toNat / 2 % 2 = 1 := by rcases hk with ⟨rfl, _⟩ | ⟨rfl, _⟩ <;> decide
    have hk1 : (kind ||| 2).toNat % 2 = 1 ∨ 0 < b.length := by
      rcases hk with ⟨rfl, _⟩ | ⟨rfl, _⟩
      · exact .inl (by decide)
      · exact .inr (by have := h2 (.inr rfl); omega)
    have hbeg : sBeg (enc g n (kind ||| 2) b) = decide (n = at_) := by
      unfold sBeg
      rw [enc_kind]
      rcases hk with ⟨rfl, rfl⟩ | ⟨rfl, h⟩
      · simp
      · rw [decide_eq_false (show ¬ n = at_ by omega)]
        decide
    simp only []
    rw [if_pos ⟨good_enc h0 hg (by omega) hk3 (.inl hk2) hk1, hbeg, enc_gen hg n _ b, by rw [enc_gen hg n _ b]; exact hl⟩, if_pos (by unfold sFin; rw [enc_kind]; exact decide_eq_true hk2), enc_data g n _ (by omega)]
  | k + 1, n, kind, b, acc, rest, hk, h1, h2 => by
    have hbl := h2 (.inl (by omega))
    have hb : (b.take 112).length = 112 := by rw [List.length_take]; omega
    unfold lay scan
    rw [if_neg (by omega), List.cons_append]
    have hk3 : kind.toNat ≤ 3 := by rcases hk with ⟨rfl, _⟩ | ⟨rfl, _⟩ <;> decide
    have hk2 : ¬ (kind.toNat / 2 % 2 = 1) := by rcases hk with ⟨rfl, _⟩ | ⟨rfl, _⟩ <;> decide
    have hbeg : sBeg (enc g n kind (b.take 112)) = decide (n = at_) := by
      unfold sBeg
      rw [enc_kind]
      rcases hk with ⟨rfl, rfl⟩ | ⟨rfl, h⟩
      · simp
      · rw [decide_eq_false (show ¬ n = at_ by omega)]
        decide
    simp only []
    rw [if_pos ⟨good_enc h0 hg (by omega) hk3 (.inr hb) (.inr (by omega)), hbeg, enc_gen hg n _ _, by rw [enc_gen hg n _ _]; exact hl⟩, if_neg (by unfold sFin; rw [enc_kind]; simpa using hk2), enc_data g n _ (by omega),
      scan_lay h0 hg hl k (n + 1) 0 (b.drop 112) _ rest (.inr ⟨rfl, by rcases hk with ⟨_, h⟩ | ⟨_, h⟩ <;> omega⟩) (by rw [List.length_drop]; omega) (fun _ => by rw [List.length_drop]; omega)]
    rw [List.append_assoc, List.take_append_drop]
    congr 2
    omega
end Go.Proofs.Ytckeopidedoohaa
