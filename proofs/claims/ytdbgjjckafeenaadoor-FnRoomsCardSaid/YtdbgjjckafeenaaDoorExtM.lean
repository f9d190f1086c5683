import Derived.Test.YtdbgjjckafeenaaDoorTm1
import Derived.Test.YtdbgjjckafeenaaDoorTm2
namespace Go.Proofs.YtdbgjjckafeenaaDoor.ExtM
open Go.RowKit Go.Proofs.YtdbgjjckafeenaaDoorW.PrintWords Go.Proofs.YtdbgjjckafeenaaDoorW.PrintLast Go.Proofs.YtdbgjjckafeenaaDoorW.PrintMore Go.Proofs.YtdbgjjckafeenaaDoor.Base Go.Proofs.YtdbgjjckafeenaaDoor.Dec Go.Proofs.YtdbgjjckafeenaaDoor.Rtx Go.Proofs.YtdbgjjckafeenaaDoor.ExtD Go.Proofs.YtdbgjjckafeenaaDoor.PuRr Go.Proofs.YtdbgjjckafeenaaDoor.XRs
set_option linter.unusedVariables false
set_option linter.unusedSimpArgs false
set_option maxRecDepth 100000
def impl_RoomText.f (a0_0 : Int) (a0_1 : Int) : Option (ByteArray) := some (roomT a0_0 a0_1)
theorem impl_RoomText.calls (a0_0 : Int) (a0_1 : Int) (r : ByteArray) (w : World) (h : impl_RoomText.f a0_0 a0_1 = some r) (hw_ : WOK w) :
    Calls Tryd.prog 8 #[.agg #[.int .i64 a0_0, .int .i64 a0_1]] w fun e w' => e = .returned (.string r) ∧ Below w.heap.size w w' := by
  obtain rfl := Option.some.inj h
  exact impText_c a0_0 a0_1 w hw_.1
def impl_ReadRoom.f (a0 : ByteArray) : Option (Int × Int × Bool) := if a0.size ≤ 1048576 then some (roomM a0.data.toList) else none
theorem impl_ReadRoom.calls (a0 : ByteArray) (r1 : Int) (r2 : Int) (r3 : Bool) (w : World) (h : impl_ReadRoom.f a0 = some (r1, r2, r3)) (hw_ : WOK w) :
    Calls Tryd.prog 10 #[.string a0] w fun e w' => e = .returned (.tuple #[.agg #[.int .i64 r1, .int .i64 r2], .bool r3]) ∧ Below w.heap.size w w' := by
  unfold impl_ReadRoom.f at h
  split at h
  · rename_i hs
    exact XRr.impl_ReadRoom.calls (a0.size + 10) a0 r1 r2 r3 w ((impl_room a0 hs _ (Nat.le_refl _)).trans h) hw_
  · cases h
def spec_ValidRoom.f (a0_0 : Int) (a0_1 : Int) : Option (Bool) := some (roomB a0_0 a0_1)
theorem spec_ValidRoom.calls (a0_0 : Int) (a0_1 : Int) (r : Bool) (w : World) (h : spec_ValidRoom.f a0_0 a0_1 = some r) :
    Calls Tryd.prog 19 #[.agg #[.int .i64 a0_0, .int .i64 a0_1]] w fun e w' => e = .returned (.bool r) ∧ Below w.heap.size w w' := by
  obtain rfl := Option.some.inj h
  clear h
  go_enter Tryd.func19, Tryd.ntmps19
  go_wp2_with fail
  refine (l30Room_c ⟨w.heap.size, 0, none⟩ a0_0 a0_1 _ (by simp) (by simp)).mono ?_
  rintro e w4 ⟨rfl, rfl⟩
  go_wp2
  go_ret
  exact ⟨rfl, below_alloc (Below.refl _ _) _⟩
def fewI (b ls : Int) : List Int := [wrap64 (ls - 1), ls, b, wrap64 (b + 1)]
def first_f (c : List Int) (p q b ls : Int) : Option (Int × Int × Int) :=
  (spec_l00Src_one.f c p q 8).bind fun o => if o.1 = true then spec_l00Src_among.f c o.2.1 o.2.2 (fewI b ls) else (spec_l00Max.f 1 b).bind fun m => (spec_l00Src_pick.f c o.2.1 o.2.2 m).bind fun x => some (wrap64 (b - x.1), x.2.1, x.2.2)
theorem few_C {W : World} {h : Nat} {b ls : Int} (c0 : W.cell? ⟨h, 0, none⟩ = some (.int .i64 (wrap64 (ls - 1)))) (c1 : W.cell? ⟨h, 1, none⟩ = some (.int .i64 ls)) (c2 : W.cell? ⟨h, 2, none⟩ = some (.int .i64 b)) (c3 : W.cell? ⟨h, 3, none⟩ = some (.int .i64 (wrap64 (b + 1)))) :
    Kd.C (Kd.int .i64) W (some ⟨h, 0, none⟩) (fewI b ls).length (fewI b ls) := by
  refine Kd.C_of_reads (d := 0) ⟨rfl, (by unfold fewI; simp), fun _ => ⟨_, rfl, fun j hj => ?_⟩⟩
  match j, hj with
  | 0, _ => exact c0
  | 1, _ => exact c1
  | 2, _ => exact c2
  | 3, _ => exact c3
/-- The stock that lies at a place. -/
structure SK (W : World) (g : Nat) (b wd ls st : Int) : Prop where
  c0 : W.cell? ⟨g, 0, none⟩ = some (.int .i64 b)
  c1 : W.cell? ⟨g, 1, none⟩ = some (.int .i64 wd)
  c2 : W.cell? ⟨g, 2, none⟩ = some (.int .i64 ls)
  c3 : W.cell? ⟨g, 3, none⟩ = some (.int .i64 st)
theorem SK.keep {W W' : World} {g gk : Nat} {b wd ls st : Int} (hk : KeepBut W W' g none) (hne : gk ≠ g) (h : SK W gk b wd ls st) : SK W' gk b wd ls st :=
  ⟨keep_cell hk h.c0 hne, keep_cell hk h.c1 hne, keep_cell hk h.c2 hne, keep_cell hk h.c3 hne⟩
theorem SK.below {W W' : World} {gk : Nat} {b wd ls st : Int} (hb : Below W.heap.size W W') (h : SK W gk b wd ls st) : SK W' gk b wd ls st :=
  ⟨Base.moved hb h.c0, Base.moved hb h.c1, Base.moved hb h.c2, Base.moved hb h.c3⟩
set_option maxHeartbeats 1000000 in
theorem first_c (g gk : Nat) (c : List Int) (p q b wd ls st r p' q' : Int) (w0 w : World) (hI : IsS75 w0 w g c p q) (hB : Below w0.heap.size w0 w) (hS : SK w gk b wd ls st) (hne : gk ≠ g) (h : first_f c p q b ls = some (r, p', q')) :
    Calls Tryd.prog 29 #[.pointer (some ⟨g, 0, none⟩), .pointer (some ⟨gk, 0, none⟩)] w fun e w' => e = .returned (.int .i64 r) ∧ IsS75 w0 w' g c p' q' ∧ Below w0.heap.size w0 w' ∧ KeepBut w w' g none := by
  unfold first_f at h
  obtain ⟨⟨o, p1, q1⟩, h1, h2⟩ := Option.bind_eq_some_iff.1 h
  clear h
  have H1 := Lib.hid h1
  have HI := Lib.hid hI
  have HB := Lib.hid hB
  have HS := Lib.hid hS
  have HN := Lib.hid hne
  clear h1 hI hB hS hne
  cases o
  · rw [if_neg (by simp)] at h2
    obtain ⟨m, h3, h4⟩ := Option.bind_eq_some_iff.1 h2
    obtain ⟨⟨x, p2, q2⟩, h5, h6⟩ := Option.bind_eq_some_iff.1 h4
    simp only [Option.some.injEq, Prod.mk.injEq] at h6
    obtain ⟨rfl, rfl, rfl⟩ := h6
    have H3 := Lib.hid h3
    have H5 := Lib.hid h5
    clear h2 h3 h4 h5
    go_enter Tryd.func29, Tryd.ntmps29
    go_wp2_with fail
    refine (spec_l00Src_one.calls g c p q 8 false p1 q1 w0 _ HI.out HB.out H1.out).mono ?_
    rintro e w1 ⟨rfl, hI1, hB1, hK1⟩
    have HI1 := Lib.hid hI1
    have HB1 := Lib.hid hB1
    have HK1 := Lib.hid hK1
    have HS1 := Lib.hid (SK.keep hK1 HN.out HS.out)
    clear hI1 hB1 hK1
    go_wp2
    refine start_ (n := 13) (ds := []) (S := (fun W => SK W gk b wd ls st)) (obits 13 0) (by kernel_rfl) rfl (by kernel_rfl) (SK.below (below_drew (Below.refl _ _)) HS1.out) (fun hHeld => ?_)
    refine with_tabW (T := (true, [([], []), ([0], [0]), ([1], [1]), ([2], [2]), ([], []), ([], []), ([5], [5]), ([6], [6]), ([7], [7]), ([8], [8]), ([4, 9, 9], [4, 9]), ([3, 10], [3, 10]), ([11, 10, 0, 1, 2, 3, 4, 5, 6, 7, 8, 9, 10, 11], [11])])) (B := [0, 1, 3, 7, 0, 0, 32, 96, 224, 480, 1008, 2047, 4095]) (by kernel_rfl) (by kernel_rfl) (fun HT_ HW_ => ?_)
    refine pu HT_ 0 13 0 1 (some 28) rfl rfl (by kernel_rfl) (fun _ _ _ h => h) (Or.inl ⟨by rfl, fun w' => by go_simp; with_reducible rfl⟩) (by simp only [Act.put, List.setIfInBounds_toArray, List.set_cons_zero, List.set_cons_succ, i64_w, i32_w]; rfl) ?_
    refine pu HT_ 1 13 1 3 (some 29) rfl rfl (by kernel_rfl) (fun _ _ _ h => h) (Or.inl ⟨by rfl, fun w' => by go_simp; with_reducible rfl⟩) (by simp only [Act.put, List.setIfInBounds_toArray, List.set_cons_zero, List.set_cons_succ, i64_w, i32_w]; rfl) ?_
    refine pu HT_ 2 13 3 7 (some 30) rfl rfl (by kernel_rfl) (fun _ _ _ h => h) (Or.inl ⟨by rfl, fun w' => by go_simp; with_reducible rfl⟩) (by simp only [Act.put, List.setIfInBounds_toArray, List.set_cons_zero, List.set_cons_succ, i64_w, i32_w]; rfl) ?_
    refine tk HT_ HW_ 3 13 7 15 (some 31) rfl rfl (by kernel_rfl) (fun _ _ _ h => h) (Or.inl ⟨by rfl, fun w' hs => by have c0 := hs.c0; clear hs; go_simp; with_reducible rfl⟩) hHeld (by simp only [Act.put, List.setIfInBounds_toArray, List.set_cons_zero, List.set_cons_succ, i64_w, i32_w]; rfl) ?_
    refine pu HT_ 4 13 15 31 (some 32) rfl rfl (by kernel_rfl) (fun _ _ _ h => h) (Or.inl ⟨by rfl, fun w' => by go_simp; with_reducible rfl⟩) (by simp only [Act.put, List.setIfInBounds_toArray, List.set_cons_zero, List.set_cons_succ, i64_w, i32_w]; rfl) ?_
    refine pu HT_ 5 13 31 63 (some 33) rfl rfl (by kernel_rfl) (fun _ _ _ h => h) (Or.inl ⟨by rfl, fun w' => by go_simp; with_reducible rfl⟩) (by simp only [Act.put, List.setIfInBounds_toArray, List.set_cons_zero, List.set_cons_succ, i64_w, i32_w]; rfl) ?_
    refine pu HT_ 6 13 63 127 (some 34) rfl rfl (by kernel_rfl) (fun _ _ _ h => h) (Or.inl ⟨by rfl, fun w' => by go_simp; with_reducible rfl⟩) (by simp only [Act.put, List.setIfInBounds_toArray, List.set_cons_zero, List.set_cons_succ, i64_w, i32_w]; rfl) ?_
    refine pu HT_ 7 13 127 255 (some 35) rfl rfl (by kernel_rfl) (fun _ _ _ h => h) (Or.inl ⟨by rfl, fun w' => by go_simp; with_reducible rfl⟩) (by simp only [Act.put, List.setIfInBounds_toArray, List.set_cons_zero, List.set_cons_succ, i64_w, i32_w]; rfl) ?_
    refine tk HT_ HW_ 8 13 255 511 (some 36) rfl rfl (by kernel_rfl) (fun _ _ _ h => h) (Or.inl ⟨by rfl, fun w' hs => by have c0 := hs.c0; clear hs; go_simp; with_reducible rfl⟩) hHeld (by simp only [Act.put, List.setIfInBounds_toArray, List.set_cons_zero, List.set_cons_succ, i64_w, i32_w]; rfl) ?_
    refine ca HT_ 9 13 511 1023 (some 37) rfl rfl (by kernel_rfl) (by decide) (fun K hK => ?_)
    refine goes_ Tryd.func44 (by kernel_rfl) rfl #[.int .i64 1, .int .i64 b] (by rfl) rfl rfl (by (try simp only [List.map_toArray, List.map_cons, List.map_nil]); first | done | rfl | go_simp) ?_
    refine (spec_l00Max.calls 1 b m _ H3.out).mono ?_
    rintro e w2 ⟨rfl, hd⟩; have HI2 := Lib.hid (IsS75.below (IsS75.drew HI1.out) hd.below); have HB2 := Lib.hid (below_step (below_drew HB1.out) hd.below); have HK2 := Lib.hid (KeepBut.trans (keep_drew HK1.out) (KeepBut.of_below hd.below g none) (.inl rfl))
    refine ⟨_, rfl, ?_⟩
    refine hK.out _ _ (SK.below hd.below hHeld) (fun hHeld => ?_)
    clear hK K
    refine norm_ (by simp only [Act.put, List.setIfInBounds_toArray, List.set_cons_zero, List.set_cons_succ, i64_w, i32_w]; rfl) ?_
    refine ca HT_ 10 13 1023 2047 (some 38) rfl rfl (by kernel_rfl) (by decide) (fun K hK => ?_)
    refine goes_ Tryd.func41 (by kernel_rfl) rfl #[.pointer (some ⟨g, 0, none⟩), .int .i64 m] (by rfl) rfl rfl (by (try simp only [List.map_toArray, List.map_cons, List.map_nil]); first | done | rfl | go_simp) ?_
    refine (spec_l00Src_pick.calls g c p1 q1 m x p2 q2 w0 _ HI2.out HB2.out H5.out).mono ?_
    rintro e w3 ⟨rfl, hI3, hB3, hK3⟩; have HI3 := Lib.hid hI3; have HB3 := Lib.hid hB3; have HK3 := Lib.hid (KeepBut.trans HK2.out hK3 (.inl rfl))
    refine ⟨_, rfl, ?_⟩
    refine hK.out _ _ (SK.keep hK3 HN.out hHeld) (fun hHeld => ?_)
    clear hK K
    refine norm_ (by simp only [Act.put, List.setIfInBounds_toArray, List.set_cons_zero, List.set_cons_succ, i64_w, i32_w]; rfl) ?_
    refine pu HT_ 11 13 2047 4095 (some 39) rfl rfl (by kernel_rfl) (fun _ _ _ h => h) (Or.inl ⟨by rfl, fun w' => by go_simp; with_reducible rfl⟩) (by simp only [Act.put, List.setIfInBounds_toArray, List.set_cons_zero, List.set_cons_succ, i64_w, i32_w]; rfl) ?_
    refine pu HT_ 12 13 4095 8191 (some 4) rfl rfl (by kernel_rfl) (fun _ _ _ h => h) (Or.inl ⟨by rfl, fun w' => by go_simp; with_reducible rfl⟩) (by simp only [Act.put, List.setIfInBounds_toArray, List.set_cons_zero, List.set_cons_succ, i64_w, i32_w]; rfl) ?_
    refine done_ (done_of HT_.out (by kernel_rfl)) ?_
    go_wp2
    go_ret
    exact ⟨rfl, HI3.out, HB3.out, HK3.out⟩
  · rw [if_pos rfl] at h2
    have H2 := Lib.hid h2
    clear h2
    go_enter Tryd.func29, Tryd.ntmps29
    go_wp2_with fail
    refine (spec_l00Src_one.calls g c p q 8 true p1 q1 w0 _ HI.out HB.out H1.out).mono ?_
    rintro e w1 ⟨rfl, hI1, hB1, hK1⟩
    have HI1 := Lib.hid hI1
    have HB1 := Lib.hid hB1
    have HK1 := Lib.hid hK1
    have HS1 := Lib.hid (SK.keep hK1 HN.out HS.out)
    clear hI1 hB1 hK1
    go_wp2
    refine start_ (n := 22) (ds := []) (S := (fun W => SK W gk b wd ls st)) (obits 22 0) (by kernel_rfl) rfl (by kernel_rfl) (SK.below (below_drew (Below.refl _ _)) HS1.out) (fun hHeld => ?_)
    refine with_tabW (T := (true, [([], []), ([], []), ([1], [1]), ([2], [2]), ([3], [3]), ([4], [4]), ([], []), ([6], [6]), ([7], [7]), ([8], [8]), ([], []), ([10], [10]), ([11], [11]), ([12], [12]), ([], []), ([14], [14]), ([15], [15]), ([16], [16]), ([17], [17]), ([5, 9, 13, 18], [5, 9, 13, 18]), ([0, 19], [0, 19]), ([20, 20, 0, 1, 2, 3, 4, 5, 6, 7, 8, 9, 10, 11, 12, 13, 14, 15, 16, 17, 18, 19, 20], [20])])) (B := [0, 0, 2, 6, 14, 30, 0, 64, 192, 448, 0, 1024, 3072, 7168, 0, 16384, 49152, 114688, 245760, 524286, 1048575, 2097151]) (by kernel_rfl) (by kernel_rfl) (fun HT_ HW_ => ?_)
    refine pu HT_ 0 22 0 1 (some 7) rfl rfl (by kernel_rfl) (fun _ _ _ h => h) (Or.inl ⟨by rfl, fun w' => by go_simp; with_reducible rfl⟩) (by simp only [Act.put, List.setIfInBounds_toArray, List.set_cons_zero, List.set_cons_succ, i64_w, i32_w]; rfl) ?_
    refine pu HT_ 1 22 1 3 (some 8) rfl rfl (by kernel_rfl) (fun _ _ _ h => h) (Or.inl ⟨by rfl, fun w' => by go_simp; with_reducible rfl⟩) (by simp only [Act.put, List.setIfInBounds_toArray, List.set_cons_zero, List.set_cons_succ, i64_w, i32_w]; rfl) ?_
    refine pu HT_ 2 22 3 7 (some 9) rfl rfl (by kernel_rfl) (fun _ _ _ h => h) (Or.inl ⟨by rfl, fun w' => by go_simp; with_reducible rfl⟩) (by simp only [Act.put, List.setIfInBounds_toArray, List.set_cons_zero, List.set_cons_succ, i64_w, i32_w]; rfl) ?_
    refine pu HT_ 3 22 7 15 (some 10) rfl rfl (by kernel_rfl) (fun _ _ _ h => h) (Or.inl ⟨by rfl, fun w' => by go_simp; with_reducible rfl⟩) (by simp only [Act.put, List.setIfInBounds_toArray, List.set_cons_zero, List.set_cons_succ, i64_w, i32_w]; rfl) ?_
    refine tk HT_ HW_ 4 22 15 31 (some 11) rfl rfl (by kernel_rfl) (fun _ _ _ h => h) (Or.inl ⟨by rfl, fun w' hs => by have c0 := hs.c0; have c2 := hs.c2; clear hs; go_simp; with_reducible rfl⟩) hHeld (by simp only [Act.put, List.setIfInBounds_toArray, List.set_cons_zero, List.set_cons_succ, i64_w, i32_w]; rfl) ?_
    refine pu HT_ 5 22 31 63 (some 12) rfl rfl (by kernel_rfl) (fun _ _ _ h => h) (Or.inl ⟨by rfl, fun w' => by go_simp; with_reducible rfl⟩) (by simp only [Act.put, List.setIfInBounds_toArray, List.set_cons_zero, List.set_cons_succ, i64_w, i32_w]; rfl) ?_
    refine pu HT_ 6 22 63 127 (some 13) rfl rfl (by kernel_rfl) (fun _ _ _ h => h) (Or.inl ⟨by rfl, fun w' => by go_simp; with_reducible rfl⟩) (by simp only [Act.put, List.setIfInBounds_toArray, List.set_cons_zero, List.set_cons_succ, i64_w, i32_w]; rfl) ?_
    refine pu HT_ 7 22 127 255 (some 14) rfl rfl (by kernel_rfl) (fun _ _ _ h => h) (Or.inl ⟨by rfl, fun w' => by go_simp; with_reducible rfl⟩) (by simp only [Act.put, List.setIfInBounds_toArray, List.set_cons_zero, List.set_cons_succ, i64_w, i32_w]; rfl) ?_
    refine pu HT_ 8 22 255 511 (some 15) rfl rfl (by kernel_rfl) (fun _ _ _ h => h) (Or.inl ⟨by rfl, fun w' => by go_simp; with_reducible rfl⟩) (by simp only [Act.put, List.setIfInBounds_toArray, List.set_cons_zero, List.set_cons_succ, i64_w, i32_w]; rfl) ?_
    refine tk HT_ HW_ 9 22 511 1023 (some 16) rfl rfl (by kernel_rfl) (fun _ _ _ h => h) (Or.inl ⟨by rfl, fun w' hs => by have c0 := hs.c0; have c2 := hs.c2; clear hs; go_simp; with_reducible rfl⟩) hHeld (by simp only [Act.put, List.setIfInBounds_toArray, List.set_cons_zero, List.set_cons_succ, i64_w, i32_w]; rfl) ?_
    refine pu HT_ 10 22 1023 2047 (some 17) rfl rfl (by kernel_rfl) (fun _ _ _ h => h) (Or.inl ⟨by rfl, fun w' => by go_simp; with_reducible rfl⟩) (by simp only [Act.put, List.setIfInBounds_toArray, List.set_cons_zero, List.set_cons_succ, i64_w, i32_w]; rfl) ?_
    refine pu HT_ 11 22 2047 4095 (some 18) rfl rfl (by kernel_rfl) (fun _ _ _ h => h) (Or.inl ⟨by rfl, fun w' => by go_simp; with_reducible rfl⟩) (by simp only [Act.put, List.setIfInBounds_toArray, List.set_cons_zero, List.set_cons_succ, i64_w, i32_w]; rfl) ?_
    refine pu HT_ 12 22 4095 8191 (some 19) rfl rfl (by kernel_rfl) (fun _ _ _ h => h) (Or.inl ⟨by rfl, fun w' => by go_simp; with_reducible rfl⟩) (by simp only [Act.put, List.setIfInBounds_toArray, List.set_cons_zero, List.set_cons_succ, i64_w, i32_w]; rfl) ?_
    refine tk HT_ HW_ 13 22 8191 16383 (some 20) rfl rfl (by kernel_rfl) (fun _ _ _ h => h) (Or.inl ⟨by rfl, fun w' hs => by have c0 := hs.c0; have c2 := hs.c2; clear hs; go_simp; with_reducible rfl⟩) hHeld (by simp only [Act.put, List.setIfInBounds_toArray, List.set_cons_zero, List.set_cons_succ, i64_w, i32_w]; rfl) ?_
    refine pu HT_ 14 22 16383 32767 (some 21) rfl rfl (by kernel_rfl) (fun _ _ _ h => h) (Or.inl ⟨by rfl, fun w' => by go_simp; with_reducible rfl⟩) (by simp only [Act.put, List.setIfInBounds_toArray, List.set_cons_zero, List.set_cons_succ, i64_w, i32_w]; rfl) ?_
    refine pu HT_ 15 22 32767 65535 (some 22) rfl rfl (by kernel_rfl) (fun _ _ _ h => h) (Or.inl ⟨by rfl, fun w' => by go_simp; with_reducible rfl⟩) (by simp only [Act.put, List.setIfInBounds_toArray, List.set_cons_zero, List.set_cons_succ, i64_w, i32_w]; rfl) ?_
    refine pu HT_ 16 22 65535 131071 (some 23) rfl rfl (by kernel_rfl) (fun _ _ _ h => h) (Or.inl ⟨by rfl, fun w' => by go_simp; with_reducible rfl⟩) (by simp only [Act.put, List.setIfInBounds_toArray, List.set_cons_zero, List.set_cons_succ, i64_w, i32_w]; rfl) ?_
    refine tk HT_ HW_ 17 22 131071 262143 (some 24) rfl rfl (by kernel_rfl) (fun _ _ _ h => h) (Or.inl ⟨by rfl, fun w' hs => by have c0 := hs.c0; have c2 := hs.c2; clear hs; go_simp; with_reducible rfl⟩) hHeld (by simp only [Act.put, List.setIfInBounds_toArray, List.set_cons_zero, List.set_cons_succ, i64_w, i32_w]; rfl) ?_
    refine pu HT_ 18 22 262143 524287 (some 25) rfl rfl (by kernel_rfl) (fun _ _ _ h => h) (Or.inl ⟨by rfl, fun w' => by go_simp; with_reducible rfl⟩) (by simp only [Act.put, List.setIfInBounds_toArray, List.set_cons_zero, List.set_cons_succ, i64_w, i32_w]; rfl) ?_
    refine ca HT_ 19 22 524287 1048575 (some 26) rfl rfl (by kernel_rfl) (by decide) (fun K hK => ?_)
    refine value_ (w1 := ?_) (v := ?_) (by rfl) rfl ?_ ?_
    rotate_left 2
    · go_simp
      constructor
      · rfl
      · rfl
    refine hK.out _ _ (SK.below (below_alloc (Below.refl _ _) _) hHeld) (fun hHeld => ?_)
    clear hK K
    refine norm_ (by simp only [Act.put, List.setIfInBounds_toArray, List.set_cons_zero, List.set_cons_succ, i64_w, i32_w]; rfl) ?_
    refine ca HT_ 20 22 1048575 2097151 (some 27) rfl rfl (by kernel_rfl) (by decide) (fun K hK => ?_)
    refine goes_ Tryd.func42 (by kernel_rfl) rfl #[.pointer (some ⟨g, 0, none⟩), .slice (some ⟨w1.heap.size, 0, none⟩) (fewI b ls).length 4] (by rfl) rfl rfl (by (try simp only [List.map_toArray, List.map_cons, List.map_nil]); first | done | rfl | go_simp) ?_
    refine (spec_l00Src_among.calls g c p1 q1 (some ⟨w1.heap.size, 0, none⟩) 4 (fewI b ls) r p' q' w0 _ (IsS75.alloc (IsS75.drew HI1.out) _) (below_alloc (below_drew HB1.out) _) (few_C (h := w1.drew.heap.size) (by rw [World.cell?_alloc_new]; rfl) (by rw [World.cell?_alloc_new]; rfl) (by rw [World.cell?_alloc_new]; rfl) (by rw [World.cell?_alloc_new]; rfl)) (by unfold fewI; simp) (fun ad e _ => by cases e; have h_ := IsS75.lt HI1.out; simp only; omega) H2.out).mono ?_
    rintro e w3 ⟨rfl, hI3, hB3, hK3⟩; have HI3 := Lib.hid hI3; have HB3 := Lib.hid hB3; have HK3 := Lib.hid (KeepBut.trans (keep_alloc (keep_drew HK1.out) _) hK3 (.inl rfl))
    refine ⟨_, rfl, ?_⟩
    refine hK.out _ _ (SK.keep hK3 HN.out hHeld) (fun hHeld => ?_)
    clear hK K
    refine norm_ (by simp only [Act.put, List.setIfInBounds_toArray, List.set_cons_zero, List.set_cons_succ, i64_w, i32_w]; rfl) ?_
    refine pu HT_ 21 22 2097151 4194303 (some 4) rfl rfl (by kernel_rfl) (fun _ _ _ h => h) (Or.inl ⟨by rfl, fun w' => by go_simp; with_reducible rfl⟩) (by simp only [Act.put, List.setIfInBounds_toArray, List.set_cons_zero, List.set_cons_succ, i64_w, i32_w]; rfl) ?_
    refine done_ (done_of HT_.out (by kernel_rfl)) ?_
    go_wp2
    go_ret
    exact ⟨rfl, HI3.out, HB3.out, HK3.out⟩
/-- The results' cells, empty as yet. -/
structure RS (w W : World) : Prop where
  z0 : W.cell? ⟨w.heap.size, 0, none⟩ = some (.int .i64 0)
  z1 : W.cell? ⟨w.heap.size, 1, none⟩ = some (.int .i64 0)
  y0 : W.cell? ⟨w.heap.size + 1, 0, none⟩ = some (.int .i64 0)
  y1 : W.cell? ⟨w.heap.size + 1, 1, none⟩ = some (.int .i64 0)
  y2 : W.cell? ⟨w.heap.size + 1, 2, none⟩ = some (.int .i64 0)
  y3 : W.cell? ⟨w.heap.size + 1, 3, none⟩ = some (.int .i64 0)
  f0 : W.frozen? ⟨w.heap.size, 0, none⟩ = false
  f1 : W.frozen? ⟨w.heap.size, 1, none⟩ = false
  g0 : W.frozen? ⟨w.heap.size + 1, 0, none⟩ = false
  g1 : W.frozen? ⟨w.heap.size + 1, 1, none⟩ = false
  g2 : W.frozen? ⟨w.heap.size + 1, 2, none⟩ = false
  g3 : W.frozen? ⟨w.heap.size + 1, 3, none⟩ = false
  hb : Below w.heap.size w W
  lt : w.heap.size + 2 ≤ W.heap.size
theorem RS.moved {w W W' : World} (hb : Below W.heap.size W W') (h : RS w W) : RS w W' :=
  ⟨Base.moved hb h.z0, Base.moved hb h.z1, Base.moved hb h.y0, Base.moved hb h.y1, Base.moved hb h.y2, Base.moved hb h.y3,
    (Below.frozen hb (p := ⟨w.heap.size, 0, none⟩) (by have := h.lt; simp only; omega)).trans h.f0, (Below.frozen hb (p := ⟨w.heap.size, 1, none⟩) (by have := h.lt; simp only; omega)).trans h.f1,
    (Below.frozen hb (p := ⟨w.heap.size + 1, 0, none⟩) (by have := h.lt; simp only; omega)).trans h.g0, (Below.frozen hb (p := ⟨w.heap.size + 1, 1, none⟩) (by have := h.lt; simp only; omega)).trans h.g1,
    (Below.frozen hb (p := ⟨w.heap.size + 1, 2, none⟩) (by have := h.lt; simp only; omega)).trans h.g2, (Below.frozen hb (p := ⟨w.heap.size + 1, 3, none⟩) (by have := h.lt; simp only; omega)).trans h.g3,
    below_step h.hb hb, Nat.le_trans h.lt (Below.size hb)⟩
theorem RS.start (w : World) : RS w ((w.alloc (.cells #[.int .i64 0, .int .i64 0] 25)).alloc (.cells #[.int .i64 0, .int .i64 0, .int .i64 0, .int .i64 0] 35)) :=
  ⟨by simp, by simp, by simp, by simp, by simp, by simp, by simp, by simp, by simp, by simp, by simp, by simp, below_alloc (below_alloc (Below.refl _ _) _) _, by simp⟩
structure RM (W : World) (g : Nat) (a b : Int) : Prop where
  c0 : W.cell? ⟨g, 0, none⟩ = some (.int .i64 a)
  c1 : W.cell? ⟨g, 1, none⟩ = some (.int .i64 b)
theorem RM.keep {W W' : World} {g gk : Nat} {a b : Int} (hk : KeepBut W W' g none) (hne : gk ≠ g) (h : RM W gk a b) : RM W' gk a b := ⟨keep_cell hk h.c0 hne, keep_cell hk h.c1 hne⟩
theorem RM.below {W W' : World} {gk : Nat} {a b : Int} (hb : Below W.heap.size W W') (h : RM W gk a b) : RM W' gk a b := ⟨Base.moved hb h.c0, Base.moved hb h.c1⟩
theorem cell_far {W : World} {p a : Addr} {u v : Value} (hc : W.cell? a = some v) (hne : a.block ≠ p.block) : (W.setCell p u).cell? a = some v := by
  have := Below.heap_setCell W p u a.block hne
  simpa [World.cell?, this] using hc
theorem RM.far {W : World} {p : Addr} {u : Value} {g : Nat} {a b : Int} (hne : g ≠ p.block) (h : RM W g a b) : RM (W.setCell p u) g a b := ⟨cell_far h.c0 hne, cell_far h.c1 hne⟩
theorem SK.far {W : World} {p : Addr} {u : Value} {g : Nat} {b wd ls st : Int} (hne : g ≠ p.block) (h : SK W g b wd ls st) : SK (W.setCell p u) g b wd ls st := ⟨cell_far h.c0 hne, cell_far h.c1 hne, cell_far h.c2 hne, cell_far h.c3 hne⟩
set_option maxHeartbeats 1000000 in
theorem rowPieces_c (A : Option Addr) (cap : Nat) (c : List Int) (r1 r2 p1 q1 b wd ls st p2 q2 f p3 q3 : Int) (w : World) (hr : Kd.C (Kd.int .u8) w A c.length c) (hc : c.length ≤ cap)
    (h1 : spec_l30DrawRoom.f c 0 0 = some (r1, r2, p1, q1)) (h2 : spec_l30DrawStock.f c p1 q1 = some (b, wd, ls, st, p2, q2)) (h3 : first_f c p2 q2 b ls = some (f, p3, q3)) :
    Calls Tryd.prog 13 #[.slice A c.length cap] w fun e w' => e = .returned (.tuple #[.agg #[.int .i64 r1, .int .i64 r2], .agg #[.int .i64 b, .int .i64 wd, .int .i64 ls, .int .i64 st], .int .i64 f]) ∧ Below w.heap.size w w' := by
  have HR := Lib.hid hr
  have HC := Lib.hid hc
  have H1 := Lib.hid h1
  have H2 := Lib.hid h2
  have H3 := Lib.hid h3
  have HS := Lib.hid (RS.start w)
  clear hr hc h1 h2 h3
  go_enter Tryd.func13, Tryd.ntmps13
  go_wp2_with fail
  refine (spec_l00From.calls A cap c c 0 0 _ _ (Below.refl _ _) (Kd.C_alloc (Kd.C_alloc HR.out _) _) HC.out rfl).mono ?_
  rintro e w1 ⟨g, rfl, hI1, hB1, _⟩
  have HI1 := Lib.hid hI1
  have HB1 := Lib.hid hB1
  clear hI1 hB1
  go_wp2_with fail
  refine (spec_l30DrawRoom.calls g c 0 0 r1 r2 p1 q1 _ _ HI1.out HB1.out H1.out).mono ?_
  rintro e w2 ⟨rfl, hI2, hB2, hK2⟩
  have HI2 := Lib.hid hI2
  have HB2 := Lib.hid hB2
  clear hI2 hB2 hK2
  go_wp2_with fail
  refine (spec_l30DrawStock.calls g c p1 q1 b wd ls st p2 q2 _ _ (IsS75.alloc HI2.out _) (below_alloc HB2.out _) H2.out).mono ?_
  rintro e w3 ⟨rfl, hI3, hB3, hK3⟩
  have hne2 : w2.heap.size ≠ g := by have := IsS75.lt HI2.out; omega
  have HM3 := Lib.hid (RM.keep (gk := w2.heap.size) hK3 hne2 ⟨by simp, by simp⟩ : RM w3 w2.heap.size r1 r2)
  have HI3 := Lib.hid hI3
  have HB3 := Lib.hid hB3
  have HN2 := Lib.hid hne2
  have HQ2 := Lib.hid (show w2.heap.size ≠ w.heap.size by have := (RS.moved HB2.out HS.out).lt; omega)
  have HQ3 := Lib.hid (show w3.heap.size ≠ w.heap.size by have := (RS.moved hB3 HS.out).lt; omega)
  have HN3 := Lib.hid (show w3.heap.size ≠ g by have := IsS75.lt HI3.out; omega)
  clear hI3 hB3 hK3 hne2
  go_wp2
  refine start_ (n := 7) (ds := [5]) (S := (fun W => RM W w2.heap.size r1 r2 ∧ SK W w3.heap.size b wd ls st)) (obits 7 0) (by kernel_rfl) rfl (by kernel_rfl) (⟨RM.below (below_drew (below_alloc (Below.refl _ _) _)) HM3.out, SK.below (below_drew (Below.refl _ _)) ⟨by simp, by simp, by simp, by simp⟩⟩) (fun hHeld => ?_)
  refine with_tabW (T := (true, [([], []), ([], []), ([], []), ([2], [2]), ([0, 3, 0], [0]), ([1, 4, 0, 1, 4], [1]), ([3, 5, 0, 1, 2, 3, 4, 5], [3])])) (B := [0, 0, 0, 4, 13, 31, 63]) (by kernel_rfl) (by kernel_rfl) (fun HT_ HW_ => ?_)
  refine tk HT_ HW_ 0 7 0 1 (some 14) rfl rfl (by kernel_rfl) (fun _ _ _ h => h) (Or.inl ⟨by rfl, fun w' hs => by have c0 := hs.1.c0; have c1 := hs.1.c1; have c2 := hs.2.c0; have c3 := hs.2.c1; have c4 := hs.2.c2; have c5 := hs.2.c3; clear hs; go_simp; with_reducible rfl⟩) hHeld (by simp only [Act.put, List.setIfInBounds_toArray, List.set_cons_zero, List.set_cons_succ, i64_w, i32_w]; rfl) ?_
  refine tk HT_ HW_ 1 7 1 3 (some 15) rfl rfl (by kernel_rfl) (fun _ _ _ h => h) (Or.inl ⟨by rfl, fun w' hs => by have c0 := hs.1.c0; have c1 := hs.1.c1; have c2 := hs.2.c0; have c3 := hs.2.c1; have c4 := hs.2.c2; have c5 := hs.2.c3; clear hs; go_simp; with_reducible rfl⟩) hHeld (by simp only [Act.put, List.setIfInBounds_toArray, List.set_cons_zero, List.set_cons_succ, i64_w, i32_w]; rfl) ?_
  refine pu HT_ 2 7 3 7 (some 16) rfl rfl (by kernel_rfl) (fun _ _ _ h => h) (Or.inl ⟨by rfl, fun w' => by go_simp; with_reducible rfl⟩) (by simp only [Act.put, List.setIfInBounds_toArray, List.set_cons_zero, List.set_cons_succ, i64_w, i32_w]; rfl) ?_
  refine ca HT_ 3 7 7 15 (some 17) rfl rfl (by kernel_rfl) (by decide) (fun K hK => ?_)
  refine goes_ Tryd.func29 (by kernel_rfl) rfl #[.pointer (some ⟨g, 0, none⟩), .pointer (some ⟨w3.heap.size, 0, none⟩)] (by rfl) rfl rfl (by (try simp only [List.map_toArray, List.map_cons, List.map_nil]); first | done | rfl | go_simp) ?_
  refine (first_c g w3.heap.size c p2 q2 b wd ls st f p3 q3 _ _ (IsS75.drew (IsS75.alloc HI3.out _)) (below_drew (below_alloc HB3.out _)) hHeld.2 HN3.out H3.out).mono ?_
  rintro e w4 ⟨rfl, hI4, hB4, hK4⟩; have HS4 := Lib.hid (RS.moved hB4 HS.out); have z0 := HS4.out.z0; have z1 := HS4.out.z1; have y0 := HS4.out.y0; have y1 := HS4.out.y1; have y2 := HS4.out.y2; have y3 := HS4.out.y3; have f0 := HS4.out.f0; have f1 := HS4.out.f1; have g0 := HS4.out.g0; have g1 := HS4.out.g1; have g2 := HS4.out.g2; have g3 := HS4.out.g3; have HK4 := Lib.hid hK4; clear hI4 hB4 hK4
  refine ⟨_, rfl, ?_⟩
  refine hK.out _ _ (⟨RM.keep HK4.out HN2.out hHeld.1, SK.keep HK4.out HN3.out hHeld.2⟩) (fun hHeld => ?_)
  clear hK K
  refine norm_ (by simp only [Act.put, List.setIfInBounds_toArray, List.set_cons_zero, List.set_cons_succ, i64_w, i32_w]; rfl) ?_
  refine ca HT_ 4 7 15 31 none rfl rfl (by kernel_rfl) (by decide) (fun K hK => ?_)
  refine skip_ (w1 := ?_) (by rfl) rfl ?_ ?_
  rotate_left
  · go_simp
    rfl
  refine hK.out _ _ (⟨RM.far HQ2.out (RM.far HQ2.out hHeld.1), SK.far HQ3.out (SK.far HQ3.out hHeld.2)⟩) (fun hHeld => ?_)
  clear hK K
  refine la HT_ 5 7 31 63 none rfl rfl (by kernel_rfl) (by decide) (fun K hK => ?_)
  refine skip_ (w1 := ?_) (by rfl) rfl ?_ ?_
  rotate_left
  · go_simp
    rfl
  refine hK.out _ _ ?_
  clear hK K
  refine pu HT_ 6 7 63 127 (some 4) rfl rfl (by kernel_rfl) (fun _ _ _ h => h) (Or.inl ⟨by rfl, fun w' => by go_simp; with_reducible rfl⟩) (by simp only [Act.put, List.setIfInBounds_toArray, List.set_cons_zero, List.set_cons_succ, i64_w, i32_w]; rfl) ?_
  refine done_ (done_of HT_.out (by kernel_rfl)) ?_
  go_wp2
  have HB5 := Lib.hid (below_set (below_set (below_set (below_set (below_set (below_set HS4.out.hb (Nat.le_refl _)) (Nat.le_refl _)) (Nat.le_succ _)) (Nat.le_succ _)) (Nat.le_succ _)) (Nat.le_succ _) : Below w.heap.size w ((((((w4.setCell ⟨w.heap.size, 0, none⟩ (.int .i64 r1)).setCell ⟨w.heap.size, 1, none⟩ (.int .i64 r2)).setCell ⟨w.heap.size + 1, 0, none⟩ (.int .i64 b)).setCell ⟨w.heap.size + 1, 1, none⟩ (.int .i64 wd)).setCell ⟨w.heap.size + 1, 2, none⟩ (.int .i64 ls)).setCell ⟨w.heap.size + 1, 3, none⟩ (.int .i64 st)))
  clear hHeld HT_ HW_ f0 f1 g0 g1 g2 g3
  refine bodyPost_ret (v := .tuple #[.agg #[.int .i64 r1, .int .i64 r2], .agg #[.int .i64 b, .int .i64 wd, .int .i64 ls, .int .i64 st], .int .i64 f]) ?_ rfl ⟨rfl, HB5.out⟩
  simp [results, Tryd.results13, go_sem, z0, z1, y0, y1, y2, y3]
set_option maxHeartbeats 1000000 in
theorem staggered_c (A : Option Addr) (cap : Nat) (c : List Int) (r1 r2 p1 q1 b wd ls st p2 q2 f p3 q3 f2 p4 q4 : Int) (w : World) (hr : Kd.C (Kd.int .u8) w A c.length c) (hc : c.length ≤ cap)
    (h1 : spec_l30DrawRoom.f c 0 0 = some (r1, r2, p1, q1)) (h2 : spec_l30DrawStock.f c p1 q1 = some (b, wd, ls, st, p2, q2)) (h3 : first_f c p2 q2 b ls = some (f, p3, q3)) (h4 : first_f c p3 q3 b ls = some (f2, p4, q4)) :
    Calls Tryd.prog 17 #[.slice A c.length cap] w fun e w' => e = .returned (.tuple #[.agg #[.int .i64 r1, .int .i64 r2], .agg #[.int .i64 b, .int .i64 wd, .int .i64 ls, .int .i64 st], .int .i64 f, .int .i64 f2]) ∧ Below w.heap.size w w' := by
  have HR := Lib.hid hr
  have HC := Lib.hid hc
  have H1 := Lib.hid h1
  have H2 := Lib.hid h2
  have H3 := Lib.hid h3
  have H4 := Lib.hid h4
  have HS := Lib.hid (RS.start w)
  clear hr hc h1 h2 h3 h4
  go_enter Tryd.func17, Tryd.ntmps17
  go_wp2_with fail
  refine (spec_l00From.calls A cap c c 0 0 _ _ (Below.refl _ _) (Kd.C_alloc (Kd.C_alloc HR.out _) _) HC.out rfl).mono ?_
  rintro e w1 ⟨g, rfl, hI1, hB1, _⟩
  have HI1 := Lib.hid hI1
  have HB1 := Lib.hid hB1
  clear hI1 hB1
  go_wp2_with fail
  refine (spec_l30DrawRoom.calls g c 0 0 r1 r2 p1 q1 _ _ HI1.out HB1.out H1.out).mono ?_
  rintro e w2 ⟨rfl, hI2, hB2, hK2⟩
  have HI2 := Lib.hid hI2
  have HB2 := Lib.hid hB2
  clear hI2 hB2 hK2
  go_wp2_with fail
  refine (spec_l30DrawStock.calls g c p1 q1 b wd ls st p2 q2 _ _ (IsS75.alloc HI2.out _) (below_alloc HB2.out _) H2.out).mono ?_
  rintro e w3 ⟨rfl, hI3, hB3, hK3⟩
  have hne2 : w2.heap.size ≠ g := by have := IsS75.lt HI2.out; omega
  have HM3 := Lib.hid (RM.keep (gk := w2.heap.size) hK3 hne2 ⟨by simp, by simp⟩ : RM w3 w2.heap.size r1 r2)
  have HI3 := Lib.hid hI3
  have HB3 := Lib.hid hB3
  have HN2 := Lib.hid hne2
  have HQ2 := Lib.hid (show w2.heap.size ≠ w.heap.size by have := (RS.moved HB2.out HS.out).lt; omega)
  have HQ3 := Lib.hid (show w3.heap.size ≠ w.heap.size by have := (RS.moved hB3 HS.out).lt; omega)
  have HN3 := Lib.hid (show w3.heap.size ≠ g by have := IsS75.lt HI3.out; omega)
  clear hI3 hB3 hK3 hne2
  go_wp2_with fail
  refine (first_c g w3.heap.size c p2 q2 b wd ls st f p3 q3 _ _ (IsS75.alloc HI3.out _) (below_alloc HB3.out _) ⟨by simp, by simp, by simp, by simp⟩ HN3.out H3.out).mono ?_
  rintro e w5 ⟨rfl, hI5, hB5, hK5⟩
  have HM5 := Lib.hid (RM.keep hK5 HN2.out (RM.below (below_alloc (Below.refl _ _) _) HM3.out))
  have HK5 := Lib.hid (SK.keep (b := b) (wd := wd) (ls := ls) (st := st) hK5 HN3.out ⟨by simp, by simp, by simp, by simp⟩)
  have HI5 := Lib.hid hI5
  have HB5 := Lib.hid hB5
  clear hI5 hB5 hK5
  go_wp2
  refine start_ (n := 9) (ds := [6]) (S := (fun W => RM W w2.heap.size r1 r2 ∧ SK W w3.heap.size b wd ls st)) (obits 9 0) (by kernel_rfl) rfl (by kernel_rfl) (⟨RM.below (below_drew (Below.refl _ _)) HM5.out, SK.below (below_drew (Below.refl _ _)) HK5.out⟩) (fun hHeld => ?_)
  refine with_tabW (T := (true, [([], []), ([], []), ([], []), ([], []), ([3], [3]), ([0, 4, 0], [0]), ([1, 5, 0, 1, 5], [1]), ([2, 6, 0, 1, 2, 5, 6], [2]), ([4, 7, 0, 1, 2, 3, 4, 5, 6, 7], [4])])) (B := [0, 0, 0, 0, 8, 25, 59, 127, 255]) (by kernel_rfl) (by kernel_rfl) (fun HT_ HW_ => ?_)
  refine tk HT_ HW_ 0 9 0 1 (some 18) rfl rfl (by kernel_rfl) (fun _ _ _ h => h) (Or.inl ⟨by rfl, fun w' hs => by have c0 := hs.1.c0; have c1 := hs.1.c1; have c2 := hs.2.c0; have c3 := hs.2.c1; have c4 := hs.2.c2; have c5 := hs.2.c3; clear hs; go_simp; with_reducible rfl⟩) hHeld (by simp only [Act.put, List.setIfInBounds_toArray, List.set_cons_zero, List.set_cons_succ, i64_w, i32_w]; rfl) ?_
  refine tk HT_ HW_ 1 9 1 3 (some 19) rfl rfl (by kernel_rfl) (fun _ _ _ h => h) (Or.inl ⟨by rfl, fun w' hs => by have c0 := hs.1.c0; have c1 := hs.1.c1; have c2 := hs.2.c0; have c3 := hs.2.c1; have c4 := hs.2.c2; have c5 := hs.2.c3; clear hs; go_simp; with_reducible rfl⟩) hHeld (by simp only [Act.put, List.setIfInBounds_toArray, List.set_cons_zero, List.set_cons_succ, i64_w, i32_w]; rfl) ?_
  refine pu HT_ 2 9 3 7 (some 20) rfl rfl (by kernel_rfl) (fun _ _ _ h => h) (Or.inl ⟨by rfl, fun w' => by go_simp; with_reducible rfl⟩) (by simp only [Act.put, List.setIfInBounds_toArray, List.set_cons_zero, List.set_cons_succ, i64_w, i32_w]; rfl) ?_
  refine pu HT_ 3 9 7 15 (some 21) rfl rfl (by kernel_rfl) (fun _ _ _ h => h) (Or.inl ⟨by rfl, fun w' => by go_simp; with_reducible rfl⟩) (by simp only [Act.put, List.setIfInBounds_toArray, List.set_cons_zero, List.set_cons_succ, i64_w, i32_w]; rfl) ?_
  refine ca HT_ 4 9 15 31 (some 22) rfl rfl (by kernel_rfl) (by decide) (fun K hK => ?_)
  refine goes_ Tryd.func29 (by kernel_rfl) rfl #[.pointer (some ⟨g, 0, none⟩), .pointer (some ⟨w3.heap.size, 0, none⟩)] (by rfl) rfl rfl (by (try simp only [List.map_toArray, List.map_cons, List.map_nil]); first | done | rfl | go_simp) ?_
  refine (first_c g w3.heap.size c p3 q3 b wd ls st f2 p4 q4 _ _ (IsS75.drew HI5.out) (below_drew HB5.out) hHeld.2 HN3.out H4.out).mono ?_
  rintro e w4 ⟨rfl, hI4, hB4, hK4⟩; have HS4 := Lib.hid (RS.moved hB4 HS.out); have z0 := HS4.out.z0; have z1 := HS4.out.z1; have y0 := HS4.out.y0; have y1 := HS4.out.y1; have y2 := HS4.out.y2; have y3 := HS4.out.y3; have f0 := HS4.out.f0; have f1 := HS4.out.f1; have g0 := HS4.out.g0; have g1 := HS4.out.g1; have g2 := HS4.out.g2; have g3 := HS4.out.g3; have HK4 := Lib.hid hK4; clear hI4 hB4 hK4
  refine ⟨_, rfl, ?_⟩
  refine hK.out _ _ (⟨RM.keep HK4.out HN2.out hHeld.1, SK.keep HK4.out HN3.out hHeld.2⟩) (fun hHeld => ?_)
  clear hK K
  refine norm_ (by simp only [Act.put, List.setIfInBounds_toArray, List.set_cons_zero, List.set_cons_succ, i64_w, i32_w]; rfl) ?_
  refine ca HT_ 5 9 31 63 none rfl rfl (by kernel_rfl) (by decide) (fun K hK => ?_)
  refine skip_ (w1 := ?_) (by rfl) rfl ?_ ?_
  rotate_left
  · go_simp
    rfl
  refine hK.out _ _ (⟨RM.far HQ2.out (RM.far HQ2.out hHeld.1), SK.far HQ3.out (SK.far HQ3.out hHeld.2)⟩) (fun hHeld => ?_)
  clear hK K
  refine la HT_ 6 9 63 127 none rfl rfl (by kernel_rfl) (by decide) (fun K hK => ?_)
  refine skip_ (w1 := ?_) (by rfl) rfl ?_ ?_
  rotate_left
  · go_simp
    rfl
  refine hK.out _ _ ?_
  clear hK K
  refine pu HT_ 7 9 127 255 (some 4) rfl rfl (by kernel_rfl) (fun _ _ _ h => h) (Or.inl ⟨by rfl, fun w' => by go_simp; with_reducible rfl⟩) (by simp only [Act.put, List.setIfInBounds_toArray, List.set_cons_zero, List.set_cons_succ, i64_w, i32_w]; rfl) ?_
  refine pu HT_ 8 9 255 511 (some 5) rfl rfl (by kernel_rfl) (fun _ _ _ h => h) (Or.inl ⟨by rfl, fun w' => by go_simp; with_reducible rfl⟩) (by simp only [Act.put, List.setIfInBounds_toArray, List.set_cons_zero, List.set_cons_succ, i64_w, i32_w]; rfl) ?_
  refine done_ (done_of HT_.out (by kernel_rfl)) ?_
  go_wp2
  have HBF := Lib.hid (below_set (below_set (below_set (below_set (below_set (below_set HS4.out.hb (Nat.le_refl _)) (Nat.le_refl _)) (Nat.le_succ _)) (Nat.le_succ _)) (Nat.le_succ _)) (Nat.le_succ _) : Below w.heap.size w ((((((w4.setCell ⟨w.heap.size, 0, none⟩ (.int .i64 r1)).setCell ⟨w.heap.size, 1, none⟩ (.int .i64 r2)).setCell ⟨w.heap.size + 1, 0, none⟩ (.int .i64 b)).setCell ⟨w.heap.size + 1, 1, none⟩ (.int .i64 wd)).setCell ⟨w.heap.size + 1, 2, none⟩ (.int .i64 ls)).setCell ⟨w.heap.size + 1, 3, none⟩ (.int .i64 st)))
  clear hHeld HT_ HW_ f0 f1 g0 g1 g2 g3
  refine bodyPost_ret (v := .tuple #[.agg #[.int .i64 r1, .int .i64 r2], .agg #[.int .i64 b, .int .i64 wd, .int .i64 ls, .int .i64 st], .int .i64 f, .int .i64 f2]) ?_ rfl ⟨rfl, HBF.out⟩
  simp [results, Tryd.results17, go_sem, z0, z1, y0, y1, y2, y3]
def spec_DrawRowPieces.f (l0 : List Int) : Option (Int × Int × Int × Int × Int × Int × Int) :=
  (spec_l30DrawRoom.f l0 0 0).bind fun r => (spec_l30DrawStock.f l0 r.2.2.1 r.2.2.2).bind fun k => (first_f l0 k.2.2.2.2.1 k.2.2.2.2.2 k.1 k.2.2.1).bind fun x => some (r.1, r.2.1, k.1, k.2.1, k.2.2.1, k.2.2.2.1, x.1)
theorem spec_DrawRowPieces.calls (A0 : Option Addr) (c0 : Nat) (l0 : List Int) (r1 r2 r3 r4 r5 r6 r7 : Int) (w : World) (hr0 : Kd.C (Kd.int .u8) w A0 l0.length l0) (hc0 : l0.length ≤ c0) (h : spec_DrawRowPieces.f l0 = some (r1, r2, r3, r4, r5, r6, r7)) :
    Calls Tryd.prog 13 #[.slice A0 l0.length c0] w fun e w' => e = .returned (.tuple #[.agg #[.int .i64 r1, .int .i64 r2], .agg #[.int .i64 r3, .int .i64 r4, .int .i64 r5, .int .i64 r6], .int .i64 r7]) ∧ Below w.heap.size w w' := by
  unfold spec_DrawRowPieces.f at h
  obtain ⟨⟨a1, a2, p1, q1⟩, h1, h⟩ := Option.bind_eq_some_iff.1 h
  obtain ⟨⟨b1, b2, b3, b4, p2, q2⟩, h2, h⟩ := Option.bind_eq_some_iff.1 h
  obtain ⟨⟨x, p3, q3⟩, h3, h⟩ := Option.bind_eq_some_iff.1 h
  simp only [Option.some.injEq, Prod.mk.injEq] at h
  obtain ⟨rfl, rfl, rfl, rfl, rfl, rfl, rfl⟩ := h
  exact rowPieces_c A0 c0 l0 _ _ p1 q1 _ _ _ _ p2 q2 _ p3 q3 w hr0 hc0 h1 h2 h3
def spec_DrawStaggered.f (l0 : List Int) : Option (Int × Int × Int × Int × Int × Int × Int × Int) :=
  (spec_l30DrawRoom.f l0 0 0).bind fun r => (spec_l30DrawStock.f l0 r.2.2.1 r.2.2.2).bind fun k => (first_f l0 k.2.2.2.2.1 k.2.2.2.2.2 k.1 k.2.2.1).bind fun x => (first_f l0 x.2.1 x.2.2 k.1 k.2.2.1).bind fun y => some (r.1, r.2.1, k.1, k.2.1, k.2.2.1, k.2.2.2.1, x.1, y.1)
theorem spec_DrawStaggered.calls (A0 : Option Addr) (c0 : Nat) (l0 : List Int) (r1 r2 r3 r4 r5 r6 r7 r8 : Int) (w : World) (hr0 : Kd.C (Kd.int .u8) w A0 l0.length l0) (hc0 : l0.length ≤ c0) (h : spec_DrawStaggered.f l0 = some (r1, r2, r3, r4, r5, r6, r7, r8)) :
    Calls Tryd.prog 17 #[.slice A0 l0.length c0] w fun e w' => e = .returned (.tuple #[.agg #[.int .i64 r1, .int .i64 r2], .agg #[.int .i64 r3, .int .i64 r4, .int .i64 r5, .int .i64 r6], .int .i64 r7, .int .i64 r8]) ∧ Below w.heap.size w w' := by
  unfold spec_DrawStaggered.f at h
  obtain ⟨⟨a1, a2, p1, q1⟩, h1, h⟩ := Option.bind_eq_some_iff.1 h
  obtain ⟨⟨b1, b2, b3, b4, p2, q2⟩, h2, h⟩ := Option.bind_eq_some_iff.1 h
  obtain ⟨⟨x, p3, q3⟩, h3, h⟩ := Option.bind_eq_some_iff.1 h
  obtain ⟨⟨y, p4, q4⟩, h4, h⟩ := Option.bind_eq_some_iff.1 h
  simp only [Option.some.injEq, Prod.mk.injEq] at h
  obtain ⟨rfl, rfl, rfl, rfl, rfl, rfl, rfl, rfl⟩ := h
  exact staggered_c A0 c0 l0 _ _ p1 q1 _ _ _ _ p2 q2 _ p3 q3 _ p4 q4 w hr0 hc0 h1 h2 h3 h4
end Go.Proofs.YtdbgjjckafeenaaDoor.ExtM
