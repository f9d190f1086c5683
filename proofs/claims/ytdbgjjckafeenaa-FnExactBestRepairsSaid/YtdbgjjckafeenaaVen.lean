/- Veneers: which ones are valid, in the program and in the reference. -/
import Derived.Test.YtdbgjjckafeenaaNames
namespace Go.Proofs.Ytdbgjjckafeenaa.Ven
open Go.RowKit Go.Proofs.YtdbgjjckafeenaaW.PrintWords Go.Proofs.YtdbgjjckafeenaaW.PrintLast Go.Proofs.YtdbgjjckafeenaaW.PrintMore Go.Proofs.Ytdbgjjckafeenaa.Base Go.Proofs.Ytdbgjjckafeenaa.Names
set_option linter.unusedVariables false
set_option linter.unusedSimpArgs false

def spNames : List (List UInt8) := [[97, 115, 104], [98, 101, 101, 99, 104], [98, 105, 114, 99, 104], [99, 104, 101, 114, 114, 121], [101, 98, 111, 110, 121], [104, 111, 108, 108, 121], [109, 97, 112, 108, 101], [111, 97, 107], [114, 111, 115, 101, 119, 111, 111, 100], [119, 97, 108, 110, 117, 116]]
def spName (k : Nat) : ByteArray := ⟨(spNames.getD k []).toArray⟩
def spShades : List Int := [20, 35, 15, 50, 95, 5, 10, 40, 80, 70]
def spShade (k : Nat) : Int := spShades.getD k 0
/-- The index of a species, or -1. -/
def findSp (l : List UInt8) : Int :=
  if l = [97, 115, 104] then 0 else if l = [98, 101, 101, 99, 104] then 1 else if l = [98, 105, 114, 99, 104] then 2 else if l = [99, 104, 101, 114, 114, 121] then 3
  else if l = [101, 98, 111, 110, 121] then 4 else if l = [104, 111, 108, 108, 121] then 5 else if l = [109, 97, 112, 108, 101] then 6 else if l = [111, 97, 107] then 7
  else if l = [114, 111, 115, 101, 119, 111, 111, 100] then 8 else if l = [119, 97, 108, 110, 117, 116] then 9 else -1
theorem spName_list (k : Nat) : (spName k).toList = spNames.getD k [] := by rw [ByteArray.toList_eq]; simp [spName]
theorem find_at (k : Nat) (hk : k < 10) : findSp (spNames.getD k []) = k := by
  have h : ∀ k : Fin 10, findSp (spNames.getD k []) = k := by decide
  exact h ⟨k, hk⟩
theorem find_none (l : List UInt8) (h : ∀ k : Nat, k < 10 → ¬ spNames.getD k [] = l) : findSp l = -1 := by
  have n0 : ¬ l = _ := fun e => h 0 (by omega) e.symm
  have n1 : ¬ l = _ := fun e => h 1 (by omega) e.symm
  have n2 : ¬ l = _ := fun e => h 2 (by omega) e.symm
  have n3 : ¬ l = _ := fun e => h 3 (by omega) e.symm
  have n4 : ¬ l = _ := fun e => h 4 (by omega) e.symm
  have n5 : ¬ l = _ := fun e => h 5 (by omega) e.symm
  have n6 : ¬ l = _ := fun e => h 6 (by omega) e.symm
  have n7 : ¬ l = _ := fun e => h 7 (by omega) e.symm
  have n8 : ¬ l = _ := fun e => h 8 (by omega) e.symm
  have n9 : ¬ l = _ := fun e => h 9 (by omega) e.symm
  simp only [spNames, List.getD_cons_zero, List.getD_cons_succ] at n0 n1 n2 n3 n4 n5 n6 n7 n8 n9
  unfold findSp
  rw [if_neg n0, if_neg n1, if_neg n2, if_neg n3, if_neg n4, if_neg n5, if_neg n6, if_neg n7, if_neg n8, if_neg n9]
theorem find_lt (l : List UInt8) : findSp l < 10 := by unfold findSp; repeat' split
                                                       all_goals decide

theorem names_c (w : World) : Calls Try.prog 104 #[] w fun e w' => ∃ b, e = .returned (.slice (some ⟨b, 0, none⟩) 10 10) ∧ (∀ k : Nat, k < 10 → w'.cell? ⟨b, k, none⟩ = some (.string (spName k))) ∧ Below w.heap.size w w' := by
  go_enter Try.func104, Try.ntmps104
  go_wp2
  go_ret
  refine ⟨w.heap.size, rfl, ?_, below_alloc (Below.refl _ _) _⟩
  intro k hk
  match k, hk with
  | 0, _ => simp [spName, spNames]
  | 1, _ => simp [spName, spNames]
  | 2, _ => simp [spName, spNames]
  | 3, _ => simp [spName, spNames]
  | 4, _ => simp [spName, spNames]
  | 5, _ => simp [spName, spNames]
  | 6, _ => simp [spName, spNames]
  | 7, _ => simp [spName, spNames]
  | 8, _ => simp [spName, spNames]
  | 9, _ => simp [spName, spNames]

theorem find_c (s : ByteArray) (w : World) : Calls Try.prog 99 #[.string s] w fun e w' => e = .returned (.int .i64 (findSp s.toList)) ∧ Below w.heap.size w w' := by
  go_enter Try.func99, Try.ntmps99
  go_wp2_with (go_at_call 104; refine (names_c _).mono ?_; rintro e w1 ⟨b, rfl, hcl, hb⟩; have HC := Lib.hid hcl; clear hcl; have HB := Lib.hid hb; clear hb)
  go_loop [4] (fun i => ∃ k : Nat, k ≤ 10 ∧ i = .int .i64 k ∧ ∀ j : Nat, j < k → ¬ spNames.getD j [] = s.toList) (fun i => 10 - (intOf i).toNat)
  case atStart => exact ⟨0, Nat.zero_le _, rfl, fun j hj => absurd hj (Nat.not_lt_zero _)⟩
  case round =>
    obtain ⟨k, hk, rfl, hall⟩ := hrel
    have HA := Lib.hid hall
    clear hall
    by_cases hlt : k < 10
    · have hcell := HC.out k hlt
      by_cases hq : (spName k).toList = s.toList
      · have hfin := Lib.hid (show findSp s.toList = k by rw [← hq, spName_list]; exact find_at k hlt)
        go_wp2
        go_ret
        exact ⟨ret_int hfin.out.symm, HB.out⟩
      · have hn := Lib.hid (show ∀ j : Nat, j < k + 1 → ¬ spNames.getD j [] = s.toList from fun j hj => (Nat.lt_or_ge j k).elim (HA.out j) (fun h => by obtain rfl := Nat.le_antisymm h (Nat.le_of_lt_succ hj); rwa [spName_list] at hq))
        have hq' : ((spName k).toList == s.toList) = false := beq_eq_false_iff_ne.mpr hq
        clear hq
        go_wp2
        go_round
        case rel => exact ⟨k + 1, by omega, by go_num, hn.out⟩
        case measure => simp [intOf]; omega
    · obtain rfl : k = 10 := by omega
      have hfin := Lib.hid (find_none s.toList HA.out)
      go_wp2
      go_ret
      exact ⟨ret_int hfin.out.symm, HB.out⟩

theorem table_c (w : World) : Calls Try.prog 100 #[] w fun e w' => ∃ b, e = .returned (.slice (some ⟨b, 0, none⟩) 10 10) ∧ (∀ k : Nat, k < 10 → ∃ g, w'.cell? ⟨b, k, none⟩ = some (.slice (some ⟨g, 0, none⟩) 3 3) ∧ w'.cell? ⟨g, 0, none⟩ = some (.int .i64 (spShade k))) ∧ Below w.heap.size w w' := by
  go_enter Try.func100, Try.ntmps100
  go_wp2
  go_ret
  refine ⟨_, rfl, ?_, by repeat (first | exact Below.refl _ _ | apply below_alloc)⟩
  intro k hk
  match k, hk with
  | 0, _ => exact ⟨w.heap.size, by go_simp, by go_simp; (try simp [spShade, spShades])⟩
  | 1, _ => exact ⟨w.heap.size + 1, by go_simp, by go_simp; (try simp [spShade, spShades])⟩
  | 2, _ => exact ⟨w.heap.size + 1 + 1, by go_simp, by go_simp; (try simp [spShade, spShades])⟩
  | 3, _ => exact ⟨w.heap.size + 1 + 1 + 1, by go_simp, by go_simp; (try simp [spShade, spShades])⟩
  | 4, _ => exact ⟨w.heap.size + 1 + 1 + 1 + 1, by go_simp, by go_simp; (try simp [spShade, spShades])⟩
  | 5, _ => exact ⟨w.heap.size + 1 + 1 + 1 + 1 + 1, by go_simp, by go_simp; (try simp [spShade, spShades])⟩
  | 6, _ => exact ⟨w.heap.size + 1 + 1 + 1 + 1 + 1 + 1, by go_simp, by go_simp; (try simp [spShade, spShades])⟩
  | 7, _ => exact ⟨w.heap.size + 1 + 1 + 1 + 1 + 1 + 1 + 1, by go_simp, by go_simp; (try simp [spShade, spShades])⟩
  | 8, _ => exact ⟨w.heap.size + 1 + 1 + 1 + 1 + 1 + 1 + 1 + 1, by go_simp, by go_simp; (try simp [spShade, spShades])⟩
  | 9, _ => exact ⟨w.heap.size + 1 + 1 + 1 + 1 + 1 + 1 + 1 + 1 + 1, by go_simp, by go_simp; (try simp [spShade, spShades])⟩

theorem shade_range (k : Nat) : 0 ≤ spShade k ∧ spShade k ≤ 95 := by
  rcases Nat.lt_or_ge k 10 with h | h
  · have : ∀ k : Fin 10, 0 ≤ spShade k ∧ spShade k ≤ 95 := by decide
    exact this ⟨k, h⟩
  · unfold spShade; rw [List.getD_eq_getElem?_getD, List.getElem?_eq_none (by simpa [spShades] using h)]; decide
/-- A veneer is valid. -/
def venB (sp : ByteArray) (sh gr : Int) : Bool :=
  decide (0 ≤ findSp sp.toList) && inB sh 0 100 && inB sh (spShade (findSp sp.toList).toNat - 15) (spShade (findSp sp.toList).toNat + 15) && inB gr 0 179

theorem in_c (a b c : Int) (w : World) : Calls Try.prog 41 #[.int .i64 a, .int .i64 b, .int .i64 c] w fun e w' => e = .returned (.bool (inB a b c)) ∧ w = w' := by
  go_enter Try.func41, Try.ntmps41
  go_wp2
  all_goals (go_ret; exact ⟨ret_bool (by unfold inB; rw [Bool.eq_iff_iff]; simp <;> omega), rfl⟩)
theorem within_c (a b c : Int) (w : World) : Calls Try.prog 74 #[.int .i64 a, .int .i64 b, .int .i64 c] w fun e w' => e = .returned (.bool (inB a b c)) ∧ w = w' := by
  go_enter Try.func74, Try.ntmps74
  go_wp2
  all_goals (go_ret; exact ⟨ret_bool (by unfold inB; rw [Bool.eq_iff_iff]; simp <;> omega), rfl⟩)
theorem grain_c (a : Int) (w : World) : Calls Try.prog 101 #[.int .i64 a] w fun e w' => e = .returned (.bool (inB a 0 179)) ∧ w = w' := by
  go_enter Try.func101, Try.ntmps101
  go_wp2_with (go_at_call 41; refine (in_c _ _ _ _).mono ?_; rintro e w' ⟨rfl, rfl⟩)
  go_ret
  exact ⟨rfl, rfl⟩

theorem l07Ok_at (p : Addr) (sp : ByteArray) (sh gr : Int) (w : World) (h0 : w.cell? p = some (.string sp)) (h1 : w.cell? ⟨p.block, p.off + 1, none⟩ = some (.int .i64 sh)) (h2 : w.cell? ⟨p.block, p.off + 2, none⟩ = some (.int .i64 gr)) :
    Calls Try.prog 92 #[.pointer (some p)] w fun e w' => e = .returned (.bool (venB sp sh gr)) ∧ Below w.heap.size w w' := by
  have hl := find_lt sp.toList
  by_cases hf : 0 ≤ findSp sp.toList
  · by_cases hi : inB sh 0 100 = true
    · obtain ⟨k, hk⟩ := Int.eq_ofNat_of_zero_le hf
      have hk10 : k < 10 := by omega
      have hv := Lib.hid (show venB sp sh gr = (inB sh (spShade k - 15) (spShade k + 15) && inB gr 0 179) by unfold venB; rw [hk, hi]; simp)
      obtain ⟨hr1, hr2⟩ := shade_range k
      have HK := Lib.hid hk
      clear hf hl hk
      have hi' := Lib.hid hi
      go_enter Try.func92, Try.ntmps92
      go_wp2_with (first | (go_at_call 99; refine (find_c _ _).mono ?_; rintro e w1 ⟨rfl, hb⟩; rw [HK.out]; replace h0 := moved hb h0; replace h1 := moved hb h1; replace h2 := moved hb h2; have HB := Lib.hid hb; clear hb) | (go_at_call 41; refine (in_c _ _ _ _).mono ?_; rintro e w' ⟨rfl, rfl⟩) | (go_at_call 101; refine (grain_c _ _).mono ?_; rintro e w' ⟨rfl, rfl⟩) | (go_at_call 100; refine (table_c _).mono ?_; rintro e w2 ⟨b, rfl, hcl, hb⟩; obtain ⟨g, hc1, hc2⟩ := hcl k hk10; clear hcl; replace h0 := moved hb h0; replace h1 := moved hb h1; replace h2 := moved hb h2; have HB2 := Lib.hid (below_step HB.out hb); clear hb))
      · have hq : inB sh (spShade k - 15) (spShade k + 15) = true := by assumption
        go_ret
        exact ⟨ret_bool (by rw [hv.out, hq]; rfl), HB2.out⟩
      · have hq : ¬ inB sh (spShade k - 15) (spShade k + 15) = true := by assumption
        go_ret
        exact ⟨ret_bool (by rw [hv.out, Bool.eq_false_iff.mpr hq]; rfl), HB2.out⟩
    · have hv := Lib.hid (show venB sp sh gr = false by unfold venB; rw [Bool.eq_false_iff.mpr hi]; simp)
      have hi' : inB sh 0 100 = false := Bool.eq_false_iff.mpr hi
      have hf' : decide (findSp sp.toList < 0) = false := decide_eq_false (by omega)
      clear hi hf
      go_enter Try.func92, Try.ntmps92
      go_wp2_with (first | (go_at_call 99; refine (find_c _ _).mono ?_; rintro e w1 ⟨rfl, hb⟩; replace h0 := moved hb h0; replace h1 := moved hb h1; replace h2 := moved hb h2; have HB := Lib.hid hb; clear hb) | (go_at_call 41; refine (in_c _ _ _ _).mono ?_; rintro e w' ⟨rfl, rfl⟩))
      go_ret
      exact ⟨ret_bool hv.out.symm, HB.out⟩
  · have hv := Lib.hid (show venB sp sh gr = false by unfold venB; rw [decide_eq_false hf]; simp)
    have hf' : decide (findSp sp.toList < 0) = true := decide_eq_true (by omega)
    clear hf
    go_enter Try.func92, Try.ntmps92
    go_wp2_with (first | (go_at_call 99; refine (find_c _ _).mono ?_; rintro e w1 ⟨rfl, hb⟩; replace h0 := moved hb h0; replace h1 := moved hb h1; replace h2 := moved hb h2; have HB := Lib.hid hb; clear hb))
    go_ret
    exact ⟨ret_bool hv.out.symm, HB.out⟩

/-- What the program's table says of a species: its shade, its other numbers, a code. -/
def spData (l : List UInt8) : Int × Int × Int × Int :=
  if l = [97, 115, 104] then (20, 40, 310, 0) else if l = [98, 101, 101, 99, 104] then (35, 45, 410, 0) else if l = [98, 105, 114, 99, 104] then (15, 33, 280, 0) else if l = [99, 104, 101, 114, 114, 121] then (50, 36, 240, 0)
  else if l = [101, 98, 111, 110, 121] then (95, 85, 270, 0) else if l = [104, 111, 108, 108, 121] then (5, 35, 370, 0) else if l = [109, 97, 112, 108, 101] then (10, 42, 290, 0) else if l = [111, 97, 107] then (40, 40, 330, 0)
  else if l = [114, 111, 115, 101, 119, 111, 111, 100] then (80, 60, 220, 0) else if l = [119, 97, 108, 110, 117, 116] then (70, 38, 260, 0) else (0, 0, 0, 3)
theorem spData_none {l : List UInt8} (h : ¬ 0 ≤ findSp l) : spData l = (0, 0, 0, 3) := by
  unfold findSp at h
  unfold spData
  repeat (first | (split at h; · exact absurd h (by decide)))
  repeat (rw [if_neg (by assumption)])
theorem spData_some {l : List UInt8} (h : 0 ≤ findSp l) : (spData l).1 = spShade (findSp l).toNat ∧ (spData l).2.2.2 = 0 := by
  unfold findSp at h ⊢
  unfold spData
  repeat (first | (split; · exact ⟨rfl, rfl⟩))
  exfalso
  repeat rw [if_neg (by assumption)] at h
  exact absurd h (by decide)

theorem data_c (s : ByteArray) (w : World) : Calls Try.prog 106 #[.string s] w fun e w' => e = .returned (.tuple #[.int .i64 (spData s.toList).1, .int .i64 (spData s.toList).2.1, .int .i64 (spData s.toList).2.2.1, .int .i64 (spData s.toList).2.2.2]) ∧ w = w' := by
  go_enter Try.func106, Try.ntmps106
  go_wp2
  all_goals
    refine bodyPost_ret (results_list (rs := [.tmp 2, .tmp 3, .tmp 4, .tmp 5]) rfl (by simp) (.tmp (.tmp (.tmp (.tmp .nil))))) rfl ⟨?_, rfl⟩
    simp only [beq_iff_eq, beq_eq_false_iff_ne] at *
    simp [spData, *]

theorem shade_c (s : ByteArray) (w : World) : Calls Try.prog 105 #[.string s] w fun e w' => e = .returned (.tuple #[.int .i64 (spData s.toList).1, .bool ((spData s.toList).2.2.2 == 0)]) ∧ w = w' := by
  go_enter Try.func105, Try.ntmps105
  go_wp2_with (go_at_call 106; refine (data_c _ _).mono ?_; rintro e w' ⟨rfl, rfl⟩)
  go_ret2
  exact ⟨rfl, rfl⟩

theorem validVeneer_c (sp : ByteArray) (sh gr : Int) (w : World) : Calls Try.prog 102 #[.agg #[.string sp, .int .i64 sh, .int .i64 gr]] w fun e w' => e = .returned (.bool (venB sp sh gr)) ∧ Below w.heap.size w w' := by
  by_cases hf : 0 ≤ findSp sp.toList
  · obtain ⟨h1, h2⟩ := spData_some hf
    have hr := shade_range (findSp sp.toList).toNat
    have hv := Lib.hid (show venB sp sh gr = (inB sh 0 100 && inB sh (spShade (findSp sp.toList).toNat - 15) (spShade (findSp sp.toList).toNat + 15) && inB gr 0 179) by unfold venB; rw [decide_eq_true hf]; simp)
    have h1 := Lib.hid h1
    have h2 := Lib.hid (show ((spData sp.toList).2.2.2 == 0) = true by rw [h2]; rfl)
    generalize spShade (findSp sp.toList).toNat = d at *
    by_cases hi : inB sh 0 100 = true
    · have hi2 := inB_true.1 hi
      have hx := Lib.hid (show inB (sh - d) (-15) 15 = inB sh (d - 15) (d + 15) by unfold inB; rw [Bool.eq_iff_iff]; simp; omega)
      obtain ⟨hi3, hi4⟩ := hi2
      obtain ⟨hr1, hr2⟩ := hr
      clear hf
      have hi' := Lib.hid hi
      go_enter Try.func102, Try.ntmps102
      go_wp2_with (first | (go_at_call 105; refine (shade_c _ _).mono ?_; rintro e w' ⟨rfl, rfl⟩; rw [h1.out, h2.out]) | (go_at_call 74; refine (within_c _ _ _ _).mono ?_; rintro e w' ⟨rfl, rfl⟩))
      · have hq : inB (sh - d) (-15) 15 = true := by assumption
        go_ret
        exact ⟨ret_bool (by rw [hv.out, hi'.out, ← hx.out, hq]; rfl), by repeat (first | exact Below.refl _ _ | apply below_alloc)⟩
      · have hq : ¬ inB (sh - d) (-15) 15 = true := by assumption
        go_ret
        exact ⟨ret_bool (by rw [hv.out, hi'.out, ← hx.out, Bool.eq_false_iff.mpr hq]; rfl), by repeat (first | exact Below.refl _ _ | apply below_alloc)⟩
    · have hi' : inB sh 0 100 = false := Bool.eq_false_iff.mpr hi
      have hv' := Lib.hid (show venB sp sh gr = false by rw [hv.out, hi']; rfl)
      clear hf hi hr
      go_enter Try.func102, Try.ntmps102
      go_wp2_with (first | (go_at_call 105; refine (shade_c _ _).mono ?_; rintro e w' ⟨rfl, rfl⟩; rw [h1.out, h2.out]) | (go_at_call 74; refine (within_c _ _ _ _).mono ?_; rintro e w' ⟨rfl, rfl⟩))
      go_ret
      exact ⟨ret_bool hv'.out.symm, by repeat (first | exact Below.refl _ _ | apply below_alloc)⟩
  · have hd := Lib.hid (spData_none hf)
    have hv := Lib.hid (show venB sp sh gr = false by unfold venB; rw [decide_eq_false hf]; simp)
    clear hf
    go_enter Try.func102, Try.ntmps102
    go_wp2_with (first | (go_at_call 105; refine (shade_c _ _).mono ?_; rintro e w' ⟨rfl, rfl⟩; rw [hd.out]) | (go_at_call 74; refine (within_c _ _ _ _).mono ?_; rintro e w' ⟨rfl, rfl⟩))
    go_ret
    exact ⟨ret_bool hv.out.symm, by repeat (first | exact Below.refl _ _ | apply below_alloc)⟩
end Go.Proofs.Ytdbgjjckafeenaa.Ven
