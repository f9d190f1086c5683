/- The law of the reading of a room answers true. -/
import Derived.Test.YtdbgjjckafeenaaDoorExtQ
import Derived.Test.YtdbgjjckafeenaaDoorXRr12
namespace Go.Proofs.YtdbgjjckafeenaaDoor.PuRr
open Go.RowKit Go.Proofs.YtdbgjjckafeenaaDoorW.PrintWords Go.Proofs.YtdbgjjckafeenaaDoorW.PrintLast Go.Proofs.YtdbgjjckafeenaaDoorW.PrintMore Go.Proofs.YtdbgjjckafeenaaDoor.Base Go.Proofs.YtdbgjjckafeenaaDoor.Dec Go.Proofs.YtdbgjjckafeenaaDoor.Rtx Go.Proofs.YtdbgjjckafeenaaDoor.ExtD Go.Proofs.YtdbgjjckafeenaaDoor.ExtQ Go.Proofs.YtdbgjjckafeenaaDoor.XRq Go.Proofs.YtdbgjjckafeenaaDoor.XRr
set_option linter.unusedVariables false
set_option linter.unusedSimpArgs false

/-! Digits -/
def isD (c : UInt8) : Bool := decide (48 ≤ c.toNat) && decide (c.toNat ≤ 57)
def scan : List UInt8 → Nat → Option Nat
  | [], v => some v
  | c :: t, v => if isD c = true then scan t (10 * v + (c.toNat - 48)) else none
theorem isD_true {c : UInt8} : isD c = true ↔ 48 ≤ c.toNat ∧ c.toNat ≤ 57 := by unfold isD; simp
theorem ofNat_back (c : UInt8) : UInt8.ofNat c.toNat = c := by simp
theorem dec_next {u x : Nat} (hu : 1 ≤ u) (hx : x < 10) : Lib.decDigits (10 * u + x) = Lib.decDigits u ++ [UInt8.ofNat (48 + x)] := by
  rw [Lib.decDigits, dif_neg (by omega), show (10 * u + x) / 10 = u by omega, show (10 * u + x) % 10 = x by omega]
theorem dec_scan : ∀ (d : List UInt8) (u v : Nat), 1 ≤ u → scan d u = some v → Lib.decDigits v = Lib.decDigits u ++ d ∧ 1 ≤ v
  | [], u, v, hu, h => by
    simp only [scan] at h
    obtain rfl := Option.some.inj h
    exact ⟨by simp, hu⟩
  | c :: t, u, v, hu, h => by
    simp only [scan] at h
    split at h
    · rename_i hc
      have hc := isD_true.1 hc
      obtain ⟨h1, h2⟩ := dec_scan t _ v (by omega) h
      refine ⟨?_, h2⟩
      rw [h1, dec_next hu (by omega), show 48 + (c.toNat - 48) = c.toNat by omega, ofNat_back]
      simp
    · cases h
theorem dec_ne (u : Nat) : Lib.decDigits u ≠ [] := by
  rw [Lib.decDigits]
  split <;> simp
theorem dec_head (u : Nat) : 1 ≤ u → (Lib.decDigits u).head? ≠ some 48 := by
  induction u using Nat.strongRecOn with
  | ind u ih =>
    intro hu
    rw [Lib.decDigits]
    split
    · rename_i h
      intro e
      have e2 : (UInt8.ofNat (48 + u)).toNat = 48 := by rw [Option.some.inj e]; rfl
      rw [UInt8.toNat_ofNat'] at e2
      omega
    · have h1 := ih (u / 10) (by omega) (by omega)
      have h2 := dec_ne (u / 10)
      cases h3 : Lib.decDigits (u / 10) with
      | nil => exact absurd h3 h2
      | cons a b => rw [h3] at h1; simpa using h1
/-- A run of digits is the text of its value: unless it begins with a needless 0. -/
theorem scan_text (d : List UInt8) (v : Nat) (hd : d ≠ []) (h : scan d 0 = some v) : (Lib.decDigits v = d ↔ ¬ (d.head? = some 48 ∧ 1 < d.length)) ∧ (d.head? ≠ some 48 → 1 ≤ v) ∧ (d.head? = some 48 → Lib.decDigits v = d → v = 0) := by
  cases d with
  | nil => exact absurd rfl hd
  | cons c t =>
    have h0 := h
    simp only [scan] at h
    split at h
    · rename_i hc
      have hc := isD_true.1 hc
      by_cases h48 : c = 48
      · subst h48
        refine ⟨⟨fun e ⟨_, hl⟩ => ?_, fun hn => ?_⟩, fun hh => absurd rfl hh, fun _ e => ?_⟩
        · rcases Nat.eq_zero_or_pos v with hv | hv
          · subst hv
            rw [Lib.decDigits_one (by omega)] at e
            have := congrArg List.length e
            simp only [List.length_cons, List.length_nil] at this hl
            omega
          · exact dec_head v hv (by rw [e]; rfl)
        · have ht : t = [] := by
            cases t with
            | nil => rfl
            | cons a b => exact absurd ⟨rfl, by simp⟩ hn
          subst ht
          simp only [scan] at h
          obtain rfl := Option.some.inj h
          rw [Lib.decDigits_one (by decide)]
          rfl
        · rcases Nat.eq_zero_or_pos v with hv | hv
          · exact hv
          · exact absurd (by rw [e]; rfl) (dec_head v hv)
      · have hne : c.toNat ≠ 48 := fun e => h48 (by rw [← ofNat_back c, e]; rfl)
        obtain ⟨h1, h2⟩ := dec_scan t _ v (by omega) h
        rw [Lib.decDigits_one (i := 10 * 0 + (c.toNat - 48)) (by omega), show 48 + (10 * 0 + (c.toNat - 48)) = c.toNat by omega, ofNat_back] at h1
        refine ⟨⟨fun _ ⟨hh, _⟩ => h48 (Option.some.inj hh), fun _ => by rw [h1]; rfl⟩, fun _ => h2, fun hh _ => absurd (Option.some.inj hh) h48⟩
    · cases h
theorem scan_le : ∀ (d : List UInt8) (u v : Nat), (u + 1) * 10 ^ d.length ≤ 10 ^ 18 → scan d u = some v → v + 1 ≤ 10 ^ 18
  | [], u, v, hu, h => by
    simp only [scan] at h
    obtain rfl := Option.some.inj h
    simpa using hu
  | c :: t, u, v, hu, h => by
    simp only [scan] at h
    split at h
    · rename_i hc
      have hc := isD_true.1 hc
      refine scan_le t _ v (Nat.le_trans (Nat.mul_le_mul_right _ (?_ : _ ≤ (u + 1) * 10)) (by rw [Nat.mul_assoc, Nat.mul_comm 10]; simpa [Nat.pow_succ] using hu)) h
      omega
    · cases h
theorem scan_120 : ∀ (d : List UInt8) (u : Nat), (120 : UInt8) ∈ d → scan d u = none
  | [], u, h => by cases h
  | c :: t, u, h => by
    simp only [scan]
    split
    · rename_i hc
      rcases List.mem_cons.1 h with e | e
      · subst e; exact absurd hc (by decide)
      · exact scan_120 t _ e
    · rfl

/-! A number -/
def digs (l : List UInt8) : List UInt8 := if l.head? = some 45 then l.tail else l
def numM (l : List UInt8) : Int × Bool :=
  if digs l = [] ∨ 18 < (digs l).length ∨ ((digs l).head? = some 48 ∧ 1 < l.length) then (0, false)
  else match scan (digs l) 0 with
    | none => (0, false)
    | some v => (if l.head? = some 45 then -(v : Int) else (v : Int), true)
theorem numM_120 (l : List UInt8) (h : (120 : UInt8) ∈ l) : (numM l).2 = false := by
  unfold numM
  split
  · rfl
  · rw [scan_120 (digs l) 0 ?_]
    unfold digs
    split
    · rename_i hh
      cases l with
      | nil => cases h
      | cons a t =>
        rcases List.mem_cons.1 h with e | e
        · subst e; cases hh
        · exact e
    · exact h

theorem bt_drop {s : ByteArray} {i : Nat} {c : UInt8} {t : List UInt8} (h : s.data.toList.drop i = c :: t) : i < s.size ∧ bt s (i : Int) = (c.toNat : Int) ∧ s.data.toList.drop (i + 1) = t := by
  have hi : i < s.data.toList.length := by
    rcases Nat.lt_or_ge i s.data.toList.length with h1 | h1
    · exact h1
    · rw [List.drop_eq_nil_of_le h1] at h; cases h
  rw [List.drop_eq_getElem_cons hi] at h
  obtain ⟨h1, h2⟩ := List.cons.inj h
  have hs : i < s.size := by simpa using hi
  refine ⟨hs, ?_, h2⟩
  unfold bt
  rw [dif_pos (by simpa using hs)]
  subst h1
  rfl
theorem drop_nil {s : ByteArray} {i : Nat} (h : s.data.toList.drop i = []) : s.size ≤ i := by
  have := List.drop_eq_nil_iff.1 h
  simpa using this
theorem size_drop {s : ByteArray} {i : Nat} {l : List UInt8} (h : s.data.toList.drop i = l) (hi : i ≤ s.size) : s.size = i + l.length := by
  have := congrArg List.length h
  simp at this
  omega
theorem wrap_next {i n : Nat} (h : i < n) (hn : n ≤ 9223372036854775807) : wrap64 ((i : Int) + 1) = ((i + 1 : Nat) : Int) := by
  rw [wrap_id (by omega) (by omega)]; omega
theorem dig_wrap (u x : Nat) (hu : u + 1 ≤ 10 ^ 17) (h0 : 48 ≤ x) (h1 : x ≤ 57) : wrap64 (wrap64 (10 * (u : Int)) + (((x : Int) - 48) % 256)) = ((10 * u + (x - 48) : Nat) : Int) := by
  have : (10 : Nat) ^ 17 = 100000000000000000 := by decide
  rw [this] at hu
  rw [wrap_id (x := 10 * (u : Int)) (by omega) (by omega), Int.emod_eq_of_lt (by omega) (by omega), wrap_id (by omega) (by omega)]
  omega
theorem pow_le {u n : Nat} (h : (u + 1) * 10 ^ n ≤ 10 ^ 18) : u + 1 ≤ 10 ^ 18 := Nat.le_trans (Nat.le_mul_of_pos_right _ (Nat.pow_pos (by decide))) h
theorem pow_le1 {u n : Nat} (h : (u + 1) * 10 ^ (n + 1) ≤ 10 ^ 18) : u + 1 ≤ 10 ^ 17 := by
  rw [Nat.pow_succ, ← Nat.mul_assoc, show (10 : Nat) ^ 18 = 10 ^ 17 * 10 by decide] at h
  exact Nat.le_trans (Nat.le_mul_of_pos_right _ (Nat.pow_pos (by decide))) (Nat.le_of_mul_le_mul_right h (by decide))
theorem pow_next {u n x : Nat} (h : (u + 1) * 10 ^ (n + 1) ≤ 10 ^ 18) (hx : 48 ≤ x) (h1 : x ≤ 57) : (10 * u + (x - 48) + 1) * 10 ^ n ≤ 10 ^ 18 := by
  refine Nat.le_trans (Nat.mul_le_mul_right _ (by omega : _ ≤ (u + 1) * 10)) ?_
  rw [Nat.mul_assoc, Nat.mul_comm 10, ← Nat.pow_succ]
  exact h

theorem number_l (s : ByteArray) (hs : s.size ≤ 2097152) (x4 : Int) : ∀ (t : List UInt8) (i u k : Nat), s.data.toList.drop i = t → i ≤ s.size → (u + 1) * 10 ^ t.length ≤ 10 ^ 18 → t.length < k →
    spec_l01Number.l0 k s x4 (u : Int) (i : Int) = match scan t u with
      | none => some (0, false)
      | some v => some (if x4 = 1 then -(v : Int) else (v : Int), true) := by
  intro t
  induction t with
  | nil =>
    intro i u k ht hi hu hk
    obtain ⟨k, rfl⟩ : ∃ m, k = m + 1 := ⟨k - 1, by omega⟩
    have h1 := drop_nil ht
    have h2 := pow_le hu
    have : (10 : Nat) ^ 18 = 1000000000000000000 := by decide
    rw [this] at h2
    simp only [spec_l01Number.l0, scan]
    rw [if_neg (by omega)]
    split
    · rw [wrap_id (by omega) (by omega)]
    · rfl
  | cons c t ih =>
    intro i u k ht hi hu hk
    obtain ⟨k, rfl⟩ : ∃ m, k = m + 1 := ⟨k - 1, by omega⟩
    obtain ⟨h1, h2, h3⟩ := bt_drop ht
    simp only [spec_l01Number.l0, scan]
    rw [if_pos (by omega), if_pos (by omega), h2]
    by_cases hc : isD c = true
    · have hd := isD_true.1 hc
      rw [if_pos hc]
      unfold spec_l01Digit.f
      rw [if_pos (by omega), show decide ((c.toNat : Int) ≤ 57) = true from decide_eq_true (by omega)]
      simp only [Option.bind_some]
      rw [if_pos trivial, dig_wrap u c.toNat (pow_le1 (by simpa using hu)) hd.1 hd.2, wrap_next (n := s.size) (by omega) (by omega)]
      exact ih (i + 1) _ k h3 (by omega) (pow_next (by simpa using hu) hd.1 hd.2) (by simp at hk; omega)
    · rw [if_neg hc]
      have hn : ¬ (48 ≤ c.toNat ∧ c.toNat ≤ 57) := fun h => hc (isD_true.2 h)
      unfold spec_l01Digit.f
      by_cases h48 : (c.toNat : Int) ≥ 48
      · rw [if_pos h48, show decide ((c.toNat : Int) ≤ 57) = false from decide_eq_false (by omega)]
        rfl
      · rw [if_neg h48]
        rfl

theorem list_nil {s : ByteArray} (h : s.data.toList = []) : s.size = 0 := drop_nil (i := 0) h |> Nat.le_zero.1
/-- The reference's reading of a number. -/
theorem number_f (s : ByteArray) (hs : s.size ≤ 2097152) (k : Nat) (hk : s.size + 10 ≤ k) : spec_l01Number.f k s = some (numM s.data.toList) := by
  obtain ⟨k, rfl⟩ : ∃ m, k = m + 3 := ⟨k - 3, by omega⟩
  have fin : ∀ (neg : Bool) (x4 : Nat), (x4 = if neg = true then 1 else 0) → (neg = true ↔ s.data.toList.head? = some 45) → spec_l01Number.j1 (k + 2) s (x4 : Int) = some (numM s.data.toList) := by
    intro neg x4 hx hneg
    have hd : s.data.toList.drop x4 = digs s.data.toList := by
      unfold digs
      cases neg
      · rw [if_neg (fun h => by cases hneg.2 h)]
        subst hx; rfl
      · rw [if_pos (hneg.1 rfl)]
        subst hx; simp
    have hx1 : x4 ≤ s.size := by
      cases neg
      · subst hx; simp
      · have h := hneg.1 rfl
        subst hx
        cases hl : s.data.toList with
        | nil => rw [hl] at h; cases h
        | cons c t => have := size_drop (i := 0) hl (by omega); simp at this; simp; omega
    have hsz := size_drop hd hx1
    unfold numM
    simp only [spec_l01Number.j1]
    rw [show s.data.toList.length = s.size by simp]
    by_cases c1 : digs s.data.toList = []
    · rw [if_pos (Or.inl c1), if_pos (by rw [c1] at hsz; simp at hsz; omega)]
      simp only [spec_l01Number.j2]
      rw [if_pos trivial]
    · have hp : 0 < (digs s.data.toList).length := List.length_pos_iff.2 c1
      rw [if_neg (by omega), wrap_id (by omega) (by omega)]
      by_cases c2 : 18 < (digs s.data.toList).length
      · rw [if_pos (Or.inr (Or.inl c2)), if_pos (by omega)]
        simp only [spec_l01Number.j2]
        rw [if_pos trivial]
      · rw [if_neg (by omega), if_pos (by omega), if_pos (by omega)]
        have hgo : spec_l01Number.j2 (k + 1) s (x4 : Int) false = some (match scan (digs s.data.toList) 0 with
            | none => (0, false)
            | some v => (if s.data.toList.head? = some 45 then -(v : Int) else (v : Int), true)) := by
          simp only [spec_l01Number.j2]
          have hN := number_l s hs (x4 : Int) _ x4 0 k hd hx1 (by
            have : 10 ^ (digs s.data.toList).length ≤ 10 ^ 18 := Nat.pow_le_pow_right (by decide) (by omega)
            omega) (by omega)
          rw [show ((0 : Nat) : Int) = 0 from rfl] at hN
          rw [if_neg (by decide), hN]
          cases scan (digs s.data.toList) 0 with
          | none => rfl
          | some v =>
            simp only
            cases neg
            · have q1 : ¬ ((x4 : Int) = 1) := by subst hx; decide
              have q2 : ¬ (s.data.toList.head? = some 45) := fun h => by cases hneg.2 h
              rw [if_neg q1, if_neg q2]
            · have q1 : (x4 : Int) = 1 := by subst hx; decide
              rw [if_pos q1, if_pos (hneg.1 rfl)]
        cases hc : digs s.data.toList with
        | nil => exact absurd hc c1
        | cons c t =>
          rw [hc] at hd hgo c2
          obtain ⟨h1, h2, h3⟩ := bt_drop hd
          rw [h2]
          by_cases h48 : c = 48
          · subst h48
            rw [if_pos (by rfl)]
            by_cases hl : (s.size : Int) > 1
            · rw [decide_eq_true hl, if_pos (Or.inr (Or.inr ⟨rfl, by omega⟩))]
              simp only [spec_l01Number.j2]
              rw [if_pos trivial]
            · rw [decide_eq_false hl, if_neg (by
                rintro (h | h | ⟨_, h⟩)
                · cases h
                · omega
                · omega), hgo]
          · have hne : ¬ (c.toNat : Int) = 48 := fun e => h48 (by rw [← ofNat_back c, show c.toNat = 48 by omega]; rfl)
            rw [if_neg hne, if_neg (by
                rintro (h | h | ⟨h, _⟩)
                · cases h
                · omega
                · exact h48 (Option.some.inj h)), hgo]
  unfold spec_l01Number.f
  cases hl : s.data.toList with
  | nil =>
    have h0 := list_nil hl
    rw [if_neg (by omega)]
    simp only [spec_l01Number.j0]
    rw [if_neg (by decide)]
    have := fin false 0 rfl (by rw [hl]; simp)
    rw [hl] at this
    exact this
  | cons c t =>
    obtain ⟨h1, h2, _⟩ := bt_drop (i := 0) hl
    rw [if_pos (by omega), if_pos (by omega), show bt s 0 = (c.toNat : Int) from h2]
    simp only [spec_l01Number.j0]
    by_cases h45 : c = 45
    · subst h45
      rw [if_pos (by rfl)]
      have := fin true 1 rfl (by rw [hl]; simp)
      rw [hl] at this
      exact this
    · have hne : ((c.toNat : Int) == 45) = false := by
        rw [beq_eq_false_iff_ne]
        exact fun e => h45 (by rw [← ofNat_back c, show c.toNat = 45 by omega]; rfl)
      rw [hne, if_neg (by decide)]
      have := fin false 0 rfl (by rw [hl]; simp [h45])
      rw [hl] at this
      exact this

/-! The program's. -/
theorem decimal_l (a s : ByteArray) (hs : s.size ≤ 2097152) (ha : a.size ≤ 2097152) : ∀ (t : List UInt8) (i u k : Nat), s.data.toList.drop i = t → i ≤ s.size → (u + 1) * 10 ^ t.length ≤ 10 ^ 18 → t.length < k →
    impl_ReadDecimal.l0 k a s (u : Int) (i : Int) = match scan t u with
      | none => some (0, false)
      | some v => if (decS (if s.size < a.size then -(v : Int) else (v : Int))).toList = a.toList then some (if s.size < a.size then -(v : Int) else (v : Int), true) else some (0, false) := by
  intro t
  induction t with
  | nil =>
    intro i u k ht hi hu hk
    obtain ⟨k, rfl⟩ : ∃ m, k = m + 1 := ⟨k - 1, by omega⟩
    have h1 := drop_nil ht
    have h2 := pow_le hu
    have : (10 : Nat) ^ 18 = 1000000000000000000 := by decide
    rw [this] at h2
    simp only [impl_ReadDecimal.l0, scan]
    rw [if_neg (by omega)]
    unfold impl_Decimal.f strconv_FormatInt.f
    by_cases hn : s.size < a.size
    · rw [if_pos (by omega), wrap_id (x := -(u : Int)) (by omega) (by omega), if_pos ⟨rfl, by omega, by omega⟩]
      simp only [Option.bind_some]
      rw [if_pos hn]
    · rw [if_neg (by omega), if_pos ⟨rfl, by omega, by omega⟩]
      simp only [Option.bind_some]
      rw [if_neg hn]
  | cons c t ih =>
    intro i u k ht hi hu hk
    obtain ⟨k, rfl⟩ : ∃ m, k = m + 1 := ⟨k - 1, by omega⟩
    obtain ⟨h1, h2, h3⟩ := bt_drop ht
    simp only [impl_ReadDecimal.l0, scan]
    rw [if_pos (by omega), if_pos (by omega), h2]
    by_cases hc : isD c = true
    · have hd := isD_true.1 hc
      rw [if_pos hc, if_neg (by omega), if_neg (by omega), Int.mul_comm (u : Int) 10, dig_wrap u c.toNat (pow_le1 (by simpa using hu)) hd.1 hd.2, wrap_next (n := s.size) (by omega) (by omega)]
      exact ih (i + 1) _ k h3 (by omega) (pow_next (by simpa using hu) hd.1 hd.2) (by simp at hk; omega)
    · rw [if_neg hc]
      have hn : ¬ (48 ≤ c.toNat ∧ c.toNat ≤ 57) := fun h => hc (isD_true.2 h)
      by_cases h48 : (c.toNat : Int) < 48
      · rw [if_pos h48]
      · rw [if_neg h48, if_pos (by omega)]
theorem toL (s : ByteArray) : s.toList = s.data.toList := ByteArray.toList_eq s
theorem decimal_f (a : ByteArray) (ha : a.size ≤ 2097152) (k : Nat) (hk : a.size + 10 ≤ k) : impl_ReadDecimal.f k a = some (numM a.data.toList) := by
  obtain ⟨k, rfl⟩ : ∃ m, k = m + 3 := ⟨k - 3, by omega⟩
  have fin : ∀ (s : ByteArray), s.data.toList = digs a.data.toList → s.size ≤ a.size → (s.size < a.size ↔ a.data.toList.head? = some 45) → (a.data.toList.head? = some 45 → a.data.toList = 45 :: s.data.toList) → (¬ a.data.toList.head? = some 45 → a.data.toList = s.data.toList) → impl_ReadDecimal.j0 (k + 3) a s = some (numM a.data.toList) := by
    intro s hd hle hneg hcons hsame
    have hl : (digs a.data.toList).length = s.size := by rw [← hd]; simp
    have hla : a.data.toList.length = a.size := by simp
    unfold numM
    simp only [impl_ReadDecimal.j0]
    rw [hl, hla]
    by_cases c1 : digs a.data.toList = []
    · rw [if_pos (Or.inl c1), if_pos (by rw [c1] at hl; simp at hl; omega)]
      simp only [impl_ReadDecimal.j1]
      rw [if_pos trivial]
    · have hp : 0 < (digs a.data.toList).length := List.length_pos_iff.2 c1
      rw [if_neg (by omega)]
      by_cases c2 : 18 < s.size
      · rw [if_pos (Or.inr (Or.inl c2)), decide_eq_true (by omega)]
        simp only [impl_ReadDecimal.j1]
        rw [if_pos trivial]
      · rw [decide_eq_false (by omega)]
        simp only [impl_ReadDecimal.j1]
        have hN := decimal_l a s (by omega) ha (digs a.data.toList) 0 0 (k + 1) (by rw [← hd]; rfl) (by omega) (by
            have : 10 ^ (digs a.data.toList).length ≤ 10 ^ 18 := Nat.pow_le_pow_right (by decide) (by omega)
            omega) (by omega)
        rw [show ((0 : Nat) : Int) = 0 from rfl] at hN
        rw [if_neg (by decide), hN]
        cases hv : scan (digs a.data.toList) 0 with
        | none =>
          simp only
          split <;> rfl
        | some v =>
          simp only
          obtain ⟨t1, t2, t3⟩ := scan_text _ v c1 hv
          have key : (decS (if s.size < a.size then -(v : Int) else (v : Int))).toList = a.toList ↔ ¬ ((digs a.data.toList).head? = some 48 ∧ 1 < a.size) := by
            rw [toL, toL]
            unfold decS
            rw [List.toList_toArray]
            by_cases hn : a.data.toList.head? = some 45
            · have hlt := hneg.2 hn
              rw [if_pos hlt, hcons hn, hd]
              rw [hcons hn] at hla
              have hla : s.size + 1 = a.size := by simpa using hla
              by_cases hz : (digs a.data.toList).head? = some 48
              · refine ⟨fun e _ => ?_, fun h => absurd ⟨hz, by omega⟩ h⟩
                rcases Nat.eq_zero_or_pos v with h0 | h0
                · subst h0
                  rw [show -((0 : Nat) : Int) = ((0 : Nat) : Int) from rfl, Lib.itoa_nonneg, Lib.decDigits_one (by decide)] at e
                  cases e
                · rw [Lib.itoa_neg v h0] at e
                  have e := (List.cons.inj e).2
                  have := t3 hz e
                  omega
              · refine ⟨fun _ h => hz h.1, fun _ => ?_⟩
                rw [Lib.itoa_neg v (t2 hz), t1.2 (fun h => hz h.1)]
            · have hlt : ¬ s.size < a.size := fun h => hn (hneg.1 h)
              have e1 : a.data.toList = digs a.data.toList := (hsame hn).trans hd
              rw [if_neg hlt, Lib.itoa_nonneg]
              refine Iff.trans ⟨fun e => e.trans e1, fun e => e.trans e1.symm⟩ ?_
              rw [t1, hl, show s.size = a.size by omega]
          by_cases hb : (digs a.data.toList).head? = some 48 ∧ 1 < a.size
          · rw [if_neg (fun h => key.1 h hb), if_pos (Or.inr (Or.inr hb))]
          · have hno : ¬ (digs a.data.toList = [] ∨ 18 < s.size ∨ ((digs a.data.toList).head? = some 48 ∧ 1 < a.size)) := by
              rintro (h | h | h)
              · exact c1 h
              · exact c2 h
              · exact hb h
            rw [if_pos (key.2 hb), if_neg hno]
            by_cases hn : a.data.toList.head? = some 45
            · rw [if_pos (hneg.2 hn), if_pos hn]
            · rw [if_neg (fun h => hn (hneg.1 h)), if_neg hn]
  unfold impl_ReadDecimal.f strings_HasPrefix.f
  simp only [Option.bind_some]
  have hpre : Lib.hasPrefix a.data.toList (⟨#[45]⟩ : ByteArray).data.toList = decide (a.data.toList.head? = some 45) := by
    unfold Lib.hasPrefix
    cases h : a.data.toList with
    | nil => rfl
    | cons c t =>
      show ((45 : UInt8) == c && true) = _
      by_cases hc : c = 45
      · subst hc; rfl
      · rw [show ((45 : UInt8) == c) = false by rw [beq_eq_false_iff_ne]; exact fun e => hc e.symm]
        simp [hc]
  rw [hpre]
  by_cases hn : a.data.toList.head? = some 45
  · rw [decide_eq_true hn, if_pos rfl]
    cases hl : a.data.toList with
    | nil => rw [hl] at hn; cases hn
    | cons c t =>
      have hsz : a.size = 0 + (c :: t).length := size_drop (i := 0) hl (by omega)
      simp at hsz
      rw [if_pos (by omega)]
      have hx : (a.extract 1 a.size).data.toList = t := by
        rw [Lib.extract_data, hl, List.drop_one, List.tail_cons, List.take_of_length_le (by omega)]
      have hxs : (a.extract 1 a.size).size = t.length := by rw [← hx]; simp
      rw [hl] at hn
      obtain rfl := Option.some.inj hn
      rw [← hl]
      refine fin _ (by rw [hx, hl]; rfl) (by omega) ⟨fun _ => by rw [hl]; rfl, fun _ => by omega⟩ (fun _ => by rw [hx, hl]) (fun h => absurd (by rw [hl]; rfl) h)
  · rw [decide_eq_false hn, if_neg (by decide)]
    refine fin a (by unfold digs; rw [if_neg hn]) (Nat.le_refl _) ⟨fun h => absurd h (Nat.lt_irrefl _), fun h => absurd h hn⟩ (fun h => absurd h hn) (fun _ => rfl)

/-! The cut and the split -/
def cutL : List UInt8 → List UInt8 × List UInt8 × Bool
  | [] => ([], [], false)
  | c :: t => if c = 120 then ([], t, true) else (c :: (cutL t).1, (cutL t).2.1, (cutL t).2.2)
theorem cut_eq : ∀ l : List UInt8, Lib.cut l [120] = cutL l
  | [] => rfl
  | c :: t => by
    have ih := cut_eq t
    unfold Lib.cut at ih ⊢
    simp only [cutL]
    have hp : ([120] : List UInt8).isPrefixOf (c :: t) = decide (c = 120) := by
      show ((120 : UInt8) == c && true) = _
      by_cases hc : c = 120
      · subst hc; rfl
      · rw [show ((120 : UInt8) == c) = false by rw [beq_eq_false_iff_ne]; exact fun e => hc e.symm]
        simp [hc]
    by_cases hc : c = 120
    · rw [if_pos hc]
      have h0 : Lib.index (c :: t) [120] = 0 := by unfold Lib.index; rw [hp, decide_eq_true hc, if_pos rfl]
      rw [h0, if_pos (by decide)]
      rfl
    · rw [if_neg hc, ← ih]
      have h0 : Lib.index (c :: t) [120] = if Lib.index t [120] == -1 then -1 else Lib.index t [120] + 1 := by rw [Lib.index, hp, decide_eq_false hc, if_neg (by decide)]
      have hge := Lib.index_ge t [120]
      rw [h0]
      by_cases h1 : Lib.index t [120] = -1
      · rw [h1]; rfl
      · rw [show (Lib.index t [120] == -1) = false by rw [beq_eq_false_iff_ne]; exact h1, if_neg (show ¬ (false = true) by decide), if_pos (by omega), if_pos (by omega), show (Lib.index t [120] + 1).toNat = (Lib.index t [120]).toNat + 1 by omega]
        simp [Nat.add_right_comm]
def spl : List UInt8 → List UInt8 → List (List UInt8)
  | cur, [] => [cur]
  | cur, c :: t => if c = 120 then cur :: spl [] t else spl (cur ++ [c]) t
theorem spl_cut : ∀ (l cur : List UInt8), spl cur l = if (cutL l).2.2 = true then (cur ++ (cutL l).1) :: spl [] (cutL l).2.1 else [cur ++ (cutL l).1]
  | [], cur => by simp [spl, cutL]
  | c :: t, cur => by
    by_cases hc : c = 120
    · simp [spl, cutL, hc]
    · have ih := spl_cut t (cur ++ [c])
      simp only [spl, if_neg hc, ih]
      simp [cutL, hc]
theorem cut_mem : ∀ l : List UInt8, (cutL l).2.2 = true → (120 : UInt8) ∈ l
  | [], h => by cases h
  | c :: t, h => by
    simp only [cutL] at h
    by_cases hc : c = 120
    · subst hc; simp
    · rw [if_neg hc] at h
      exact List.mem_cons_of_mem _ (cut_mem t h)
theorem cut_all : ∀ l : List UInt8, ¬ (cutL l).2.2 = true → (cutL l).1 = l
  | [], h => rfl
  | c :: t, h => by
    simp only [cutL] at h ⊢
    by_cases hc : c = 120
    · subst hc; simp at h
    · rw [if_neg hc] at h ⊢
      simp only
      rw [cut_all t h]
theorem bytes_inj {a b : ByteArray} (h : a.data.toList = b.data.toList) : a = b := by
  cases a; cases b
  rw [Array.toList_inj] at h
  rw [ByteArray.mk.injEq]
  exact h
def mk (l : List UInt8) : ByteArray := ⟨l.toArray⟩
theorem ext_mk (s : ByteArray) (a b : Nat) : s.extract a b = mk ((s.data.toList.drop a).take (b - a)) := bytes_inj (by rw [Lib.extract_data]; rfl)
theorem split_l (s : ByteArray) (hs : s.size ≤ 2097152) : ∀ (t : List UInt8) (i st k : Nat) (acc : List ByteArray), s.data.toList.drop i = t → i ≤ s.size → st ≤ i → acc.length + t.length ≤ 2097152 → t.length < k →
    spec_l01Split.l0 k s 120 acc (st : Int) (i : Int) = some (acc ++ (spl ((s.data.toList.drop st).take (i - st)) t).map mk) := by
  intro t
  induction t with
  | nil =>
    intro i st k acc ht hi hst hacc hk
    obtain ⟨k, rfl⟩ : ∃ m, k = m + 1 := ⟨k - 1, by omega⟩
    have h1 := drop_nil ht
    obtain rfl : i = s.size := by omega
    simp only [spec_l01Split.l0, spl]
    simp only [List.length_nil] at hacc
    rw [if_neg (by omega), if_pos (by omega), if_pos (by omega), if_pos (by omega), Int.toNat_natCast, ext_mk]
    rfl
  | cons c t ih =>
    intro i st k acc ht hi hst hacc hk
    obtain ⟨k, rfl⟩ : ∃ m, k = m + 1 := ⟨k - 1, by omega⟩
    obtain ⟨h1, h2, h3⟩ := bt_drop ht
    simp only [List.length_cons] at hacc hk
    simp only [spec_l01Split.l0, spl]
    rw [if_pos (by omega), if_pos (by omega), h2]
    by_cases hc : c = 120
    · subst hc
      rw [if_pos (by rfl), if_pos (by omega), if_pos (by omega), if_pos (by omega), if_pos (by omega), wrap_next (n := s.size) (by omega) (by omega), ih (i + 1) (i + 1) k _ h3 (by omega) (Nat.le_refl _) (by simp; omega) (by omega), Int.toNat_natCast, Int.toNat_natCast, ext_mk, if_pos rfl]
      simp
    · rw [if_neg (fun e => hc (by rw [← ofNat_back c, show c.toNat = 120 by omega]; rfl)), wrap_next (n := s.size) (by omega) (by omega), ih (i + 1) st k _ h3 (by omega) (by omega) (by omega) (by omega), if_neg hc]
      congr 3
      rw [show i + 1 - st = (i - st) + 1 by omega, List.take_add_one, List.getElem?_drop, show st + (i - st) = i by omega]
      have : s.data.toList[i]? = some c := by
        have := congrArg (fun l => l[0]?) ht
        simpa using this
      rw [this]
      rfl
theorem split_f (s : ByteArray) (hs : s.size ≤ 2097152) (k : Nat) (hk : s.size + 10 ≤ k) : spec_l01Split.f k s 120 = some ((spl [] s.data.toList).map mk) := by
  unfold spec_l01Split.f
  have := split_l s hs s.data.toList 0 0 k [] rfl (by omega) (by omega) (by simp; omega) (by simp; omega)
  simpa using this

/-! The law -/
theorem mk_size_le {l m : List UInt8} (h : l.length ≤ m.length) : (mk l).size ≤ m.length := h
theorem cut_len : ∀ l : List UInt8, (cutL l).1.length ≤ l.length ∧ (cutL l).2.1.length ≤ l.length
  | [] => by simp [cutL]
  | c :: t => by
    have ih := cut_len t
    by_cases hc : c = 120
    · simp [cutL, hc]
    · simp [cutL, hc]; omega
/-- What both read. -/
def roomM (l : List UInt8) : Int × Int × Bool := if (cutL l).2.2 = true then pick (numM (cutL l).1) (numM (cutL l).2.1) else (0, 0, false)
theorem spec_room (s : ByteArray) (hs : s.size ≤ 1048576) (k : Nat) (hk : s.size + 10 ≤ k) : spec_ReadRoom.f k s = some (roomM s.data.toList) := by
  obtain ⟨hl1, hl2⟩ := cut_len s.data.toList
  have hsz : s.data.toList.length = s.size := by simp
  unfold spec_ReadRoom.f roomM
  rw [split_f s (by omega) k hk]
  simp only [Option.bind_some]
  rw [spl_cut]
  by_cases h1 : (cutL s.data.toList).2.2 = true
  · rw [if_pos h1, if_pos h1, spl_cut]
    by_cases h2 : (cutL (cutL s.data.toList).2.1).2.2 = true
    · rw [if_pos h2]
      have h3 := numM_120 _ (cut_mem _ h2)
      have : ¬ ((([] ++ (cutL s.data.toList).1) :: ([] ++ (cutL (cutL s.data.toList).2.1).1) :: spl [] (cutL (cutL s.data.toList).2.1).2.1).map mk).length = 2 := by
        rw [spl_cut]
        split <;> simp
      rw [if_neg this]
      unfold pick
      rw [h3]
      simp
    · rw [if_neg h2, cut_all _ h2]
      simp only [List.map_cons, List.map_nil, List.nil_append, List.length_cons, List.length_nil, if_true, List.getD_cons_zero, List.getD_cons_succ]
      rw [number_f (mk (cutL s.data.toList).1) (by have := mk_size_le hl1; omega) k (by have := mk_size_le hl1; omega), number_f (mk (cutL s.data.toList).2.1) (by have := mk_size_le hl2; omega) k (by have := mk_size_le hl2; omega)]
      rfl
  · rw [if_neg h1, if_neg h1]
    rfl
theorem within_f (a b c : Int) : impl_within.f a b c = some (inB a b c) := by
  unfold impl_within.f inB
  split
  · rename_i h; simp [h]
  · rename_i h; simp [h]
theorem valid_f (a b : Int) : impl_ValidRoom.f a b = some (roomB a b) := by
  unfold impl_ValidRoom.f roomB
  rw [within_f, within_f]
  simp only [Option.bind_some]
  cases inB a 1 20000 <;> rfl
theorem impl_room (s : ByteArray) (hs : s.size ≤ 1048576) (k : Nat) (hk : s.size + 10 ≤ k) : impl_ReadRoom.f k s = some (roomM s.data.toList) := by
  obtain ⟨hl1, hl2⟩ := cut_len s.data.toList
  have hsz : s.data.toList.length = s.size := by simp
  unfold impl_ReadRoom.f impl_readSize.f roomM strings_Cut.f
  rw [if_pos (by omega)]
  simp only [Option.bind_some]
  unfold cutS
  rw [show (⟨#[120]⟩ : ByteArray).data.toList = [120] from rfl, cut_eq]
  simp only
  have e1 := decimal_f (mk (cutL s.data.toList).1) (by have := mk_size_le hl1; omega) k (by have := mk_size_le hl1; omega)
  have e2 := decimal_f (mk (cutL s.data.toList).2.1) (by have := mk_size_le hl2; omega) k (by have := mk_size_le hl2; omega)
  unfold mk at e1 e2
  rw [e1, e2]
  simp only [Option.bind_some, List.toList_toArray]
  unfold pick
  cases (cutL s.data.toList).2.2
  · rfl
  · obtain ⟨a, o1⟩ := numM (cutL s.data.toList).1
    obtain ⟨b, o2⟩ := numM (cutL s.data.toList).2.1
    cases o1
    · rfl
    · cases o2
      · rfl
      · simp only [if_true, Option.bind_some, valid_f, Bool.true_and]
        cases roomB a b <;> rfl
theorem law (s : ByteArray) : ∃ k, laws_FnExactReadRoom.f k s = some true := by
  refine ⟨s.size + 10, ?_⟩
  unfold laws_FnExactReadRoom.f
  by_cases h : (s.size : Int) > 1048576
  · rw [if_pos h]
  · rw [if_neg h, spec_room s (by omega) _ (Nat.le_refl _), impl_room s (by omega) _ (Nat.le_refl _)]
    simp only [Option.bind_some]
    unfold laws_eqRoom.f
    simp
theorem pure : laws_FnExactReadRoom.Pure := fun s _ => law s
end Go.Proofs.YtdbgjjckafeenaaDoor.PuRr
