/- The text of a room: the program's and the reference's are the same. -/
import Derived.Test.YtdbgjjckafeenaaDoorDec
import Derived.Test.YtdbgjjckafeenaaDoorXRt6
namespace Go.Proofs.YtdbgjjckafeenaaDoor.Rtx
open Go.RowKit Go.Proofs.YtdbgjjckafeenaaDoorW.PrintWords Go.Proofs.YtdbgjjckafeenaaDoorW.PrintLast Go.Proofs.YtdbgjjckafeenaaDoorW.PrintMore Go.Proofs.YtdbgjjckafeenaaDoor.Base Go.Proofs.YtdbgjjckafeenaaDoor.Dec Go.Proofs.YtdbgjjckafeenaaDoor.XRt
set_option linter.unusedVariables false
set_option linter.unusedSimpArgs false
set_option maxRecDepth 100000

def roomB (a b : Int) : Bool := inB a 1 20000 && inB b 1 20000
def roomS (a b : Int) : ByteArray := decS a ++ (⟨#[120]⟩ : ByteArray) ++ decS b
def roomT (a b : Int) : ByteArray := if roomB a b = true then roomS a b else ⟨#[]⟩
theorem roomB_true {a b : Int} : roomB a b = true ↔ (1 ≤ a ∧ a ≤ 20000) ∧ 1 ≤ b ∧ b ≤ 20000 := by unfold roomB; rw [Bool.and_eq_true, inB_true, inB_true]

theorem in_c (a b c : Int) (w : World) : Calls Tryd.prog 33 #[.int .i64 a, .int .i64 b, .int .i64 c] w fun e w' => e = .returned (.bool (inB a b c)) ∧ w = w' := by
  go_enter Tryd.func33, Tryd.ntmps33
  go_wp2
  all_goals (go_ret; exact ⟨ret_bool (by unfold inB; rw [Bool.eq_iff_iff]; simp <;> omega), rfl⟩)
theorem within_c (a b c : Int) (w : World) : Calls Tryd.prog 35 #[.int .i64 a, .int .i64 b, .int .i64 c] w fun e w' => e = .returned (.bool (inB a b c)) ∧ w = w' := by
  go_enter Tryd.func35, Tryd.ntmps35
  go_wp2
  all_goals (go_ret; exact ⟨ret_bool (by unfold inB; rw [Bool.eq_iff_iff]; simp <;> omega), rfl⟩)
theorem l30Room_c (p : Addr) (a b : Int) (w : World) (h0 : w.cell? p = some (.int .i64 a)) (h1 : w.cell? ⟨p.block, p.off + 1, none⟩ = some (.int .i64 b)) :
    Calls Tryd.prog 20 #[.pointer (some p)] w fun e w' => e = .returned (.bool (roomB a b)) ∧ w = w' := by
  cases h3 : inB a 1 20000 <;> cases h4 : inB b 1 20000
  all_goals
    have hE := Lib.hid (show roomB a b = _ by unfold roomB; rw [h3, h4])
    have H3 := Lib.hid h3
    have H4 := Lib.hid h4
    clear h3 h4
    go_enter Tryd.func20, Tryd.ntmps20
    go_wp2_with (go_at_call 33; refine (in_c _ _ _ _).mono ?_; rintro e w' ⟨rfl, rfl⟩; first | rw [H3.out] | rw [H4.out])
    go_ret
    exact ⟨ret_bool (by rw [hE.out]; rfl), rfl⟩
theorem validRoom_c (a b : Int) (w : World) : Calls Tryd.prog 22 #[.agg #[.int .i64 a, .int .i64 b]] w fun e w' => e = .returned (.bool (roomB a b)) ∧ Below w.heap.size w w' := by
  cases h3 : inB a 1 20000 <;> cases h4 : inB b 1 20000
  all_goals
    have hE := Lib.hid (show roomB a b = _ by unfold roomB; rw [h3, h4])
    have H3 := Lib.hid h3
    have H4 := Lib.hid h4
    clear h3 h4
    go_enter Tryd.func22, Tryd.ntmps22
    go_wp2_with (go_at_call 35; refine (within_c _ _ _ _).mono ?_; rintro e w' ⟨rfl, rfl⟩; first | rw [H3.out] | rw [H4.out])
    go_ret
    exact ⟨ret_bool (by rw [hE.out]; rfl), by repeat (first | exact Below.refl _ _ | apply below_alloc)⟩

theorem noLong {a b : Nat} (h : a + b ≤ 1000000) : (9223372036854775807 < a + b) = False := eq_false (by omega)
theorem l30Text_c (p : Addr) (a b : Int) (w : World) (h0 : w.cell? p = some (.int .i64 a)) (h1 : w.cell? ⟨p.block, p.off + 1, none⟩ = some (.int .i64 b)) (hb : roomB a b = true) :
    Calls Tryd.prog 21 #[.pointer (some p)] w fun e w' => e = .returned (.string (roomS a b)) ∧ Below w.heap.size w w' := by
  obtain ⟨⟨a0, a1⟩, b0, b1⟩ := roomB_true.1 hb
  have s1 := decS_size a (by omega) (by omega)
  have s2 := decS_size b (by omega) (by omega)
  have q1 : (9223372036854775807 < (decS a).size + 1) = False := noLong (by omega)
  have q2 : (9223372036854775807 < (decS a).size + 1 + (decS b).size) = False := noLong (by omega)
  clear hb
  go_enter Tryd.func21, Tryd.ntmps21
  go_wp2
  refine start_ (n := 13) (ds := []) (S := (fun W => W.cell? p = some (.int .i64 a) ∧ W.cell? ⟨p.block, p.off + 1, none⟩ = some (.int .i64 b) ∧ Below w.heap.size w W)) (obits 13 0) (by kernel_rfl) rfl (by kernel_rfl) (⟨h0, h1, below_drew (Below.refl _ _)⟩) (fun hHeld => ?_)
  refine with_tabW (T := (true, [([], []), ([0], [0]), ([1], [1]), ([2], [2]), ([3], [3]), ([4], [4]), ([], []), ([6], [6]), ([7], [7]), ([8], [8]), ([9, 4], [9]), ([5, 10], [5, 10]), ([11, 10, 0, 1, 2, 3, 4, 5, 6, 7, 8, 9, 10, 11], [11])])) (B := [0, 1, 3, 7, 15, 31, 0, 64, 192, 448, 991, 2047, 4095]) (by kernel_rfl) (by kernel_rfl) (fun HT_ HW_ => ?_)
  refine pu HT_ 0 13 0 1 (some 3) rfl rfl (by kernel_rfl) (fun _ _ _ h => h) (Or.inl ⟨by rfl, fun w' => by go_simp; with_reducible rfl⟩) (by simp only [Act.put, List.setIfInBounds_toArray, List.set_cons_zero, List.set_cons_succ, i64_w, i32_w]; rfl) ?_
  refine pu HT_ 1 13 1 3 (some 4) rfl rfl (by kernel_rfl) (fun _ _ _ h => h) (Or.inl ⟨by rfl, fun w' => by go_simp; with_reducible rfl⟩) (by simp only [Act.put, List.setIfInBounds_toArray, List.set_cons_zero, List.set_cons_succ, i64_w, i32_w]; rfl) ?_
  refine pu HT_ 2 13 3 7 (some 5) rfl rfl (by kernel_rfl) (fun _ _ _ h => h) (Or.inl ⟨by rfl, fun w' => by go_simp; with_reducible rfl⟩) (by simp only [Act.put, List.setIfInBounds_toArray, List.set_cons_zero, List.set_cons_succ, i64_w, i32_w]; rfl) ?_
  refine tk HT_ HW_ 3 13 7 15 (some 6) rfl rfl (by kernel_rfl) (fun _ _ _ h => h) (Or.inl ⟨by rfl, fun w' hs => by have c0 := hs.1; have c1 := hs.2.1; clear hs; go_simp; with_reducible rfl⟩) hHeld (by simp only [Act.put, List.setIfInBounds_toArray, List.set_cons_zero, List.set_cons_succ, i64_w, i32_w]; rfl) ?_
  refine pu HT_ 6 13 15 79 (some 9) rfl rfl (by kernel_rfl) (fun _ _ _ h => h) (Or.inl ⟨by rfl, fun w' => by go_simp; with_reducible rfl⟩) (by simp only [Act.put, List.setIfInBounds_toArray, List.set_cons_zero, List.set_cons_succ, i64_w, i32_w]; rfl) ?_
  refine pu HT_ 7 13 79 207 (some 10) rfl rfl (by kernel_rfl) (fun _ _ _ h => h) (Or.inl ⟨by rfl, fun w' => by go_simp; with_reducible rfl⟩) (by simp only [Act.put, List.setIfInBounds_toArray, List.set_cons_zero, List.set_cons_succ, i64_w, i32_w]; rfl) ?_
  refine pu HT_ 8 13 207 463 (some 11) rfl rfl (by kernel_rfl) (fun _ _ _ h => h) (Or.inl ⟨by rfl, fun w' => by go_simp; with_reducible rfl⟩) (by simp only [Act.put, List.setIfInBounds_toArray, List.set_cons_zero, List.set_cons_succ, i64_w, i32_w]; rfl) ?_
  refine tk HT_ HW_ 9 13 463 975 (some 12) rfl rfl (by kernel_rfl) (fun _ _ _ h => h) (Or.inl ⟨by rfl, fun w' hs => by have c0 := hs.1; have c1 := hs.2.1; clear hs; go_simp; with_reducible rfl⟩) hHeld (by simp only [Act.put, List.setIfInBounds_toArray, List.set_cons_zero, List.set_cons_succ, i64_w, i32_w]; rfl) ?_
  refine ca HT_ 4 13 975 991 (some 7) rfl rfl (by kernel_rfl) (by decide) (fun K hK => ?_)
  refine goes_ Tryd.func34 (by kernel_rfl) rfl #[.int .i64 a] (by rfl) rfl rfl (by (try simp only [List.map_toArray, List.map_cons, List.map_nil]); first | done | rfl | go_simp) ?_
  refine (specDec_c a a0 (by omega) _).mono ?_
  rintro e W1 ⟨rfl, hb⟩
  refine ⟨_, rfl, ?_⟩
  refine hK.out _ _ (⟨Base.moved hb hHeld.1, Base.moved hb hHeld.2.1, below_step hHeld.2.2 hb⟩) (fun hHeld => ?_)
  clear hK K
  refine norm_ (by simp only [Act.put, List.setIfInBounds_toArray, List.set_cons_zero, List.set_cons_succ, i64_w, i32_w]; rfl) ?_
  refine pu HT_ 5 13 991 1023 (some 8) rfl rfl (by kernel_rfl) (fun _ _ _ h => h) (Or.inl ⟨by rfl, fun w' => by go_simp; with_reducible rfl⟩) (by simp only [Act.put, List.setIfInBounds_toArray, List.set_cons_zero, List.set_cons_succ, i64_w, i32_w]; rfl) ?_
  refine ca HT_ 10 13 1023 2047 (some 13) rfl rfl (by kernel_rfl) (by decide) (fun K hK => ?_)
  refine goes_ Tryd.func34 (by kernel_rfl) rfl #[.int .i64 b] (by rfl) rfl rfl (by (try simp only [List.map_toArray, List.map_cons, List.map_nil]); first | done | rfl | go_simp) ?_
  refine (specDec_c b b0 (by omega) _).mono ?_
  rintro e W1 ⟨rfl, hb⟩
  refine ⟨_, rfl, ?_⟩
  refine hK.out _ _ (⟨Base.moved hb hHeld.1, Base.moved hb hHeld.2.1, below_step hHeld.2.2 hb⟩) (fun hHeld => ?_)
  clear hK K
  refine norm_ (by simp only [Act.put, List.setIfInBounds_toArray, List.set_cons_zero, List.set_cons_succ, i64_w, i32_w]; rfl) ?_
  refine pu HT_ 11 13 2047 4095 (some 14) rfl rfl (by kernel_rfl) (fun _ _ _ h => h) (Or.inl ⟨by rfl, fun w' => by go_simp; with_reducible rfl⟩) (by simp only [Act.put, List.setIfInBounds_toArray, List.set_cons_zero, List.set_cons_succ, i64_w, i32_w]; rfl) ?_
  refine pu HT_ 12 13 4095 8191 (some 2) rfl rfl (by kernel_rfl) (fun _ _ _ h => h) (Or.inl ⟨by rfl, fun w' => by go_simp; with_reducible rfl⟩) (by simp only [Act.put, List.setIfInBounds_toArray, List.set_cons_zero, List.set_cons_succ, i64_w, i32_w]; rfl) ?_
  refine done_ (done_of HT_.out (by kernel_rfl)) ?_
  go_wp2
  go_ret
  exact ⟨rfl, hHeld.2.2⟩

theorem impText_c (a b : Int) (w : World) (ht : Tab w) : Calls Tryd.prog 8 #[.agg #[.int .i64 a, .int .i64 b]] w fun e w' => e = .returned (.string (roomT a b)) ∧ Below w.heap.size w w' := by
  have HT := Lib.hid ht
  clear ht
  cases hb : roomB a b
  · have hE := Lib.hid (show roomT a b = ⟨#[]⟩ by unfold roomT; rw [hb]; rfl)
    have HB := Lib.hid hb
    clear hb
    go_enter Tryd.func8, Tryd.ntmps8
    go_wp2_with (go_at_call 22; refine (validRoom_c a b _).mono ?_; rintro e w1 ⟨rfl, hb1⟩; rw [HB.out]; have HB1 := Lib.hid (below_step (below_alloc (Below.refl _ w) _) hb1); clear hb1)
    go_ret
    exact ⟨by rw [hE.out]; rfl, HB1.out⟩
  · have hE := Lib.hid (show roomT a b = roomS a b by unfold roomT; rw [hb]; rfl)
    have HB := Lib.hid hb
    obtain ⟨⟨a0, a1⟩, b0, b1⟩ := roomB_true.1 hb
    have s1 := decS_size a (by omega) (by omega)
    have s2 := decS_size b (by omega) (by omega)
    have q1 : (9223372036854775807 < (decS a).size + 1) = False := noLong (by omega)
    have q2 : (9223372036854775807 < (decS a).size + 1 + (decS b).size) = False := noLong (by omega)
    clear hb
    have g0 : (w.alloc (.cells #[.int .i64 a, .int .i64 b] 25)).cell? ⟨w.heap.size, 0, none⟩ = some (.int .i64 a) := by simp
    have g1 : (w.alloc (.cells #[.int .i64 a, .int .i64 b] 25)).cell? ⟨w.heap.size, 1, none⟩ = some (.int .i64 b) := by simp
    have G := Lib.hid (And.intro g0 g1)
    clear g0 g1
    go_enter Tryd.func8, Tryd.ntmps8
    go_wp2_with (go_at_call 22; refine (validRoom_c a b _).mono ?_; rintro e w1 ⟨rfl, hb1⟩; rw [HB.out]; have HB1 := Lib.hid hb1; clear hb1)
    have HA := Lib.hid (below_step (below_alloc (Below.refl _ w) _) HB1.out)
    refine start_ (n := 9) (ds := []) (S := (fun W => W.cell? ⟨w.heap.size, 0, none⟩ = some (.int .i64 a) ∧ W.cell? ⟨w.heap.size, 1, none⟩ = some (.int .i64 b) ∧ Below w.heap.size w W)) (obits 9 0) (by kernel_rfl) rfl (by kernel_rfl) (⟨Base.moved HB1.out G.out.1, Base.moved HB1.out G.out.2, below_drew HA.out⟩) (fun hHeld => ?_)
    refine with_tabW (T := (true, [([], []), ([0], [0]), ([1], [1]), ([2], [2]), ([], []), ([4], [4]), ([5, 2], [5]), ([3, 6], [3, 6]), ([7, 6, 0, 1, 2, 3, 4, 5, 6, 7], [7])])) (B := [0, 1, 3, 7, 0, 16, 55, 127, 255]) (by kernel_rfl) (by kernel_rfl) (fun HT_ HW_ => ?_)
    refine pu HT_ 0 9 0 1 (some 6) rfl rfl (by kernel_rfl) (fun _ _ _ h => h) (Or.inl ⟨by rfl, fun w' => by go_simp; with_reducible rfl⟩) (by simp only [Act.put, List.setIfInBounds_toArray, List.set_cons_zero, List.set_cons_succ, i64_w, i32_w]; rfl) ?_
    refine tk HT_ HW_ 1 9 1 3 (some 7) rfl rfl (by kernel_rfl) (fun _ _ _ h => h) (Or.inl ⟨by rfl, fun w' hs => by have c0 := hs.1; have c1 := hs.2.1; clear hs; go_simp; with_reducible rfl⟩) hHeld (by simp only [Act.put, List.setIfInBounds_toArray, List.set_cons_zero, List.set_cons_succ, i64_w, i32_w]; rfl) ?_
    refine pu HT_ 4 9 3 19 (some 10) rfl rfl (by kernel_rfl) (fun _ _ _ h => h) (Or.inl ⟨by rfl, fun w' => by go_simp; with_reducible rfl⟩) (by simp only [Act.put, List.setIfInBounds_toArray, List.set_cons_zero, List.set_cons_succ, i64_w, i32_w]; rfl) ?_
    refine tk HT_ HW_ 5 9 19 51 (some 11) rfl rfl (by kernel_rfl) (fun _ _ _ h => h) (Or.inl ⟨by rfl, fun w' hs => by have c0 := hs.1; have c1 := hs.2.1; clear hs; go_simp; with_reducible rfl⟩) hHeld (by simp only [Act.put, List.setIfInBounds_toArray, List.set_cons_zero, List.set_cons_succ, i64_w, i32_w]; rfl) ?_
    refine ca HT_ 2 9 51 55 (some 8) rfl rfl (by kernel_rfl) (by decide) (fun K hK => ?_)
    refine goes_ Tryd.func23 (by kernel_rfl) rfl #[.int .i64 a] (by rfl) rfl rfl (by (try simp only [List.map_toArray, List.map_cons, List.map_nil]); first | done | rfl | go_simp) ?_
    refine (impDec_c a (by omega) (by omega) _ (HT.out.below hHeld.2.2)).mono ?_
    rintro e W1 ⟨rfl, hb⟩
    refine ⟨_, rfl, ?_⟩
    refine hK.out _ _ (⟨Base.moved hb hHeld.1, Base.moved hb hHeld.2.1, below_step hHeld.2.2 hb⟩) (fun hHeld => ?_)
    clear hK K
    refine norm_ (by simp only [Act.put, List.setIfInBounds_toArray, List.set_cons_zero, List.set_cons_succ, i64_w, i32_w]; rfl) ?_
    refine pu HT_ 3 9 55 63 (some 9) rfl rfl (by kernel_rfl) (fun _ _ _ h => h) (Or.inl ⟨by rfl, fun w' => by go_simp; with_reducible rfl⟩) (by simp only [Act.put, List.setIfInBounds_toArray, List.set_cons_zero, List.set_cons_succ, i64_w, i32_w]; rfl) ?_
    refine ca HT_ 6 9 63 127 (some 12) rfl rfl (by kernel_rfl) (by decide) (fun K hK => ?_)
    refine goes_ Tryd.func23 (by kernel_rfl) rfl #[.int .i64 b] (by rfl) rfl rfl (by (try simp only [List.map_toArray, List.map_cons, List.map_nil]); first | done | rfl | go_simp) ?_
    refine (impDec_c b (by omega) (by omega) _ (HT.out.below hHeld.2.2)).mono ?_
    rintro e W1 ⟨rfl, hb⟩
    refine ⟨_, rfl, ?_⟩
    refine hK.out _ _ (⟨Base.moved hb hHeld.1, Base.moved hb hHeld.2.1, below_step hHeld.2.2 hb⟩) (fun hHeld => ?_)
    clear hK K
    refine norm_ (by simp only [Act.put, List.setIfInBounds_toArray, List.set_cons_zero, List.set_cons_succ, i64_w, i32_w]; rfl) ?_
    refine pu HT_ 7 9 127 255 (some 13) rfl rfl (by kernel_rfl) (fun _ _ _ h => h) (Or.inl ⟨by rfl, fun w' => by go_simp; with_reducible rfl⟩) (by simp only [Act.put, List.setIfInBounds_toArray, List.set_cons_zero, List.set_cons_succ, i64_w, i32_w]; rfl) ?_
    refine pu HT_ 8 9 255 511 (some 2) rfl rfl (by kernel_rfl) (fun _ _ _ h => h) (Or.inl ⟨by rfl, fun w' => by go_simp; with_reducible rfl⟩) (by simp only [Act.put, List.setIfInBounds_toArray, List.set_cons_zero, List.set_cons_succ, i64_w, i32_w]; rfl) ?_
    refine done_ (done_of HT_.out (by kernel_rfl)) ?_
    go_wp2
    go_ret
    exact ⟨by rw [hE.out]; rfl, hHeld.2.2⟩

theorem specText_c (a b : Int) (w : World) : Calls Tryd.prog 6 #[.agg #[.int .i64 a, .int .i64 b]] w fun e w' => e = .returned (.string (roomT a b)) ∧ Below w.heap.size w w' := by
  have g0 : (w.alloc (.cells #[.int .i64 a, .int .i64 b] 25)).cell? ⟨w.heap.size, 0, none⟩ = some (.int .i64 a) := by simp
  have g1 : (w.alloc (.cells #[.int .i64 a, .int .i64 b] 25)).cell? ⟨w.heap.size, 1, none⟩ = some (.int .i64 b) := by simp
  have G := Lib.hid (And.intro g0 g1)
  clear g0 g1
  cases hb : roomB a b
  · have hE := Lib.hid (show roomT a b = ⟨#[]⟩ by unfold roomT; rw [hb]; rfl)
    have HB := Lib.hid hb
    clear hb
    go_enter Tryd.func6, Tryd.ntmps6
    go_wp2_with (go_at_call 20; refine (l30Room_c _ a b _ G.out.1 G.out.2).mono ?_; rintro e w1 ⟨rfl, rfl⟩; rw [HB.out])
    go_ret
    exact ⟨by rw [hE.out]; rfl, below_alloc (Below.refl _ w) _⟩
  · have hE := Lib.hid (show roomT a b = roomS a b by unfold roomT; rw [hb]; rfl)
    have HB := Lib.hid hb
    clear hb
    go_enter Tryd.func6, Tryd.ntmps6
    go_wp2_with (first | (go_at_call 20; refine (l30Room_c _ a b _ G.out.1 G.out.2).mono ?_; rintro e w1 ⟨rfl, rfl⟩; rw [HB.out]) | (go_at_call 21; refine (l30Text_c _ a b _ G.out.1 G.out.2 HB.out).mono ?_; rintro e w1 ⟨rfl, hb⟩; have HB2 := Lib.hid (below_step (below_alloc (Below.refl _ w) _) hb); clear hb))
    go_ret
    exact ⟨by rw [hE.out]; rfl, HB2.out⟩

theorem toRoom_c (a b : Int) (w : World) : Calls Tryd.prog 7 #[.agg #[.int .i64 a, .int .i64 b]] w fun e w' => e = .returned (.agg #[.int .i64 a, .int .i64 b]) ∧ Below w.heap.size w w' := by
  refine (XRt.laws_toRoom.calls a b a b w rfl).mono ?_
  rintro e w' ⟨rfl, hb⟩
  exact ⟨rfl, hb⟩
theorem law_c (a b : Int) (w : World) (ht : Tab w) : Calls Tryd.prog 3 #[.agg #[.int .i64 a, .int .i64 b]] w fun e w' => e = .returned (.bool true) ∧ Below w.heap.size w w' := by
  have HT := Lib.hid ht
  clear ht
  go_enter Tryd.func3, Tryd.ntmps3
  go_wp2_with fail
  refine (toRoom_c a b _).mono ?_
  rintro e w1 ⟨rfl, hb1⟩
  have B1 := Lib.hid (below_step (below_alloc (Below.refl _ w) _) hb1)
  obtain ⟨hc1, _⟩ := bcell hb1
  have k0 : w1.cell? ⟨w.heap.size, 0, none⟩ = some (.int .i64 a) := by rw [hc1 _ _ (by simp)]; simp
  have k1 : w1.cell? ⟨w.heap.size, 1, none⟩ = some (.int .i64 b) := by rw [hc1 _ _ (by simp)]; simp
  clear hb1 hc1
  go_wp2_with fail
  refine (specText_c a b _).mono ?_
  rintro e w2 ⟨rfl, hb2⟩
  have B2 := Lib.hid (below_step B1.out hb2)
  replace k0 := Base.moved hb2 k0
  replace k1 := Base.moved hb2 k1
  clear hb2
  go_wp2_with fail
  refine (toRoom_c a b _).mono ?_
  rintro e w3 ⟨rfl, hb3⟩
  have B3 := Lib.hid (below_step B2.out hb3)
  clear hb3 k0 k1
  go_wp2_with fail
  refine (impText_c a b _ (HT.out.below B3.out)).mono ?_
  rintro e w4 ⟨rfl, hb4⟩
  have B4 := Lib.hid (below_step B3.out hb4)
  clear hb4
  go_wp2
  go_ret
  exact ⟨rfl, B4.out⟩
end Go.Proofs.YtdbgjjckafeenaaDoor.Rtx
