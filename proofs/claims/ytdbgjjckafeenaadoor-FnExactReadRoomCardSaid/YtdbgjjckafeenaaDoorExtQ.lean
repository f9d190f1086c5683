/- The reference's reading of a room, in the print's form. -/
import Derived.Test.YtdbgjjckafeenaaDoorRtx
import Derived.Test.YtdbgjjckafeenaaDoorXRq3
import Derived.Test.YtdbgjjckafeenaaDoorXRq5
namespace Go.Proofs.YtdbgjjckafeenaaDoor.ExtQ
open Go.RowKit Go.Proofs.YtdbgjjckafeenaaDoorW.PrintWords Go.Proofs.YtdbgjjckafeenaaDoorW.PrintLast Go.Proofs.YtdbgjjckafeenaaDoorW.PrintMore Go.Proofs.YtdbgjjckafeenaaDoor.Base Go.Proofs.YtdbgjjckafeenaaDoor.Dec Go.Proofs.YtdbgjjckafeenaaDoor.Rtx Go.Proofs.YtdbgjjckafeenaaDoor.XRq
set_option linter.unusedVariables false
set_option linter.unusedSimpArgs false
set_option maxRecDepth 100000

def eS : ByteArray := ⟨#[]⟩
def pick (a b : Int × Bool) : Int × Int × Bool := if (a.2 && b.2 && roomB a.1 b.1) = true then (a.1, b.1, true) else (0, 0, false)
theorem row2 {w : World} {base : Nat} {v : Value} {ws : List ByteArray} (h : Kd.R Kd.string 9 w base (fun _ => True) v ws) (hl : ws.length = 2) :
    ∃ g cap, v = .slice (some ⟨g, 0, none⟩) 2 cap ∧ w.cell? ⟨g, 0, none⟩ = some (.string (ws.getD 0 eS)) ∧ w.cell? ⟨g, 1, none⟩ = some (.string (ws.getD 1 eS)) := by
  obtain ⟨g, cap, rfl, _⟩ := Kd.R_form h (by omega)
  obtain ⟨_, _, hC⟩ := Kd.R_reads' h
  refine ⟨g, cap, by rw [hl], ?_, ?_⟩
  · obtain ⟨ad, c, e, _, hK, hc⟩ := Kd.C_get hC eS 0 (by omega) (by omega)
    cases e
    obtain rfl : c = [.string (ws.getD 0 eS)] := hK
    have := hc 0 _ rfl
    rwa [add_plain] at this
  · obtain ⟨ad, c, e, _, hK, hc⟩ := Kd.C_get hC eS 1 (by omega) (by omega)
    cases e
    obtain rfl : c = [.string (ws.getD 1 eS)] := hK
    have := hc 0 _ rfl
    rwa [add_plain] at this

set_option maxHeartbeats 2000000 in
theorem read_no (k : Nat) (s : ByteArray) (ws : List ByteArray) (w : World) (hs : spec_l01Split.f k s 120 = some ws) (hl : ws.length ≠ 2) :
    Calls Tryd.prog 24 #[.string s] w fun e w' => e = .returned (.tuple #[.agg #[.int .i64 0, .int .i64 0], .bool false]) ∧ Below w.heap.size w w' := by
  have HS := Lib.hid hs
  have hz : ((ws.length : Int) != 2) = true := by rw [bne_iff_ne]; omega
  clear hs
  go_enter Tryd.func24, Tryd.ntmps24
  go_wp2_with (go_at_call 37; refine (spec_l01Split.calls k s 120 ws _ HS.out).mono ?_; rintro e w1 ⟨v, rfl, hR, hb⟩; obtain ⟨A, c, rfl, _, _⟩ := Kd.R_reads hR; have k0 : w1.frozen? ⟨w.heap.size, 0, none⟩ = false := (Below.frozen hb (p := ⟨w.heap.size, 0, none⟩) (by simp)).trans (by simp); have k1 : w1.frozen? ⟨w.heap.size, 1, none⟩ = false := (Below.frozen hb (p := ⟨w.heap.size, 1, none⟩) (by simp)).trans (by simp); have c0 : w1.cell? ⟨w.heap.size, 0, none⟩ = some (.int .i64 0) := (Below.cell hb (p := ⟨w.heap.size, 0, none⟩) (by simp)).trans (by simp); have c1 : w1.cell? ⟨w.heap.size, 1, none⟩ = some (.int .i64 0) := (Below.cell hb (p := ⟨w.heap.size, 1, none⟩) (by simp)).trans (by simp); have HB := Lib.hid (below_step (below_alloc (Below.refl _ w) _) hb); clear hb hR)
  refine bodyPost_ret (v := .tuple #[.agg #[.int .i64 0, .int .i64 0], .bool false]) (by simp [results, Tryd.results24, go_sem, c0, c1, k0, k1]) rfl ⟨rfl, ?_⟩
  exact below_set (below_set HB.out (Nat.le_refl _)) (Nat.le_refl _)

/-- What stays while the two numbers are read. -/
structure RT (w W : World) (g : Nat) (x y : ByteArray) : Prop where
  c0 : W.cell? ⟨w.heap.size, 0, none⟩ = some (.int .i64 0)
  c1 : W.cell? ⟨w.heap.size, 1, none⟩ = some (.int .i64 0)
  k0 : W.frozen? ⟨w.heap.size, 0, none⟩ = false
  k1 : W.frozen? ⟨w.heap.size, 1, none⟩ = false
  d0 : W.cell? ⟨g, 0, none⟩ = some (.string x)
  d1 : W.cell? ⟨g, 1, none⟩ = some (.string y)
  hb : Below w.heap.size w W
  lt : w.heap.size < W.heap.size
theorem RT.moved {w W W' : World} {g : Nat} {x y : ByteArray} (hb : Below W.heap.size W W') (h : RT w W g x y) : RT w W' g x y :=
  ⟨Base.moved hb h.c0, Base.moved hb h.c1, (Below.frozen hb (p := ⟨w.heap.size, 0, none⟩) h.lt).trans h.k0, (Below.frozen hb (p := ⟨w.heap.size, 1, none⟩) h.lt).trans h.k1, Base.moved hb h.d0, Base.moved hb h.d1, below_step h.hb hb, Nat.lt_of_lt_of_le h.lt (Below.size hb)⟩
set_option maxHeartbeats 400000 in
theorem read_two (k : Nat) (s x y : ByteArray) (ws : List ByteArray) (a b : Int) (o1 o2 : Bool) (w : World) (hs : spec_l01Split.f k s 120 = some ws) (hl : ws.length = 2)
    (hx : ws.getD 0 eS = x) (hy : ws.getD 1 eS = y) (h1 : spec_l01Number.f k x = some (a, o1)) (h2 : spec_l01Number.f k y = some (b, o2)) :
    Calls Tryd.prog 24 #[.string s] w fun e w' => e = .returned (.tuple #[.agg #[.int .i64 (pick (a, o1) (b, o2)).1, .int .i64 (pick (a, o1) (b, o2)).2.1], .bool (pick (a, o1) (b, o2)).2.2]) ∧ Below w.heap.size w w' := by
  have HS := Lib.hid hs
  have H1 := Lib.hid h1
  have H2 := Lib.hid h2
  have HL := Lib.hid hl
  have HX := Lib.hid hx
  have HY := Lib.hid hy
  obtain ⟨rb, hrb⟩ : ∃ rb, roomB a b = rb := ⟨_, rfl⟩
  have HRB := Lib.hid hrb
  have HE := Lib.hid (show pick (a, o1) (b, o2) = if (o1 && o2 && rb) = true then (a, b, true) else (0, 0, false) by unfold pick; simp only [hrb])
  clear hs h1 h2 hl hx hy hrb
  go_enter Tryd.func24, Tryd.ntmps24
  go_wp2_with fail
  refine (spec_l01Split.calls k s 120 ws _ HS.out).mono ?_
  rintro e w1 ⟨v, rfl, hR, hb⟩
  obtain ⟨g, cap, rfl, d0, d1⟩ := row2 hR HL.out
  rw [HX.out] at d0
  rw [HY.out] at d1
  have k0 : w1.frozen? ⟨w.heap.size, 0, none⟩ = false := (Below.frozen hb (p := ⟨w.heap.size, 0, none⟩) (by simp)).trans (by simp)
  have k1 : w1.frozen? ⟨w.heap.size, 1, none⟩ = false := (Below.frozen hb (p := ⟨w.heap.size, 1, none⟩) (by simp)).trans (by simp)
  have c0 : w1.cell? ⟨w.heap.size, 0, none⟩ = some (.int .i64 0) := (Below.cell hb (p := ⟨w.heap.size, 0, none⟩) (by simp)).trans (by simp)
  have c1 : w1.cell? ⟨w.heap.size, 1, none⟩ = some (.int .i64 0) := (Below.cell hb (p := ⟨w.heap.size, 1, none⟩) (by simp)).trans (by simp)
  have hlt : w.heap.size < w1.heap.size := Nat.lt_of_lt_of_le (by simp) (Below.size hb)
  have HR := Lib.hid (RT.mk c0 c1 k0 k1 d0 d1 (below_step (below_alloc (Below.refl _ w) _) hb) hlt)
  clear hb hR
  go_wp2_with fail
  refine (spec_l01Number.calls k x a o1 _ H1.out).mono ?_
  rintro e w2 ⟨rfl, hd2⟩
  have HR2 := Lib.hid (RT.moved hd2.below HR.out)
  clear d0 d1 c0 c1 k0 k1 hlt hd2 HR
  have d1 := HR2.out.d1
  go_wp2_with fail
  refine (spec_l01Number.calls k y b o2 _ H2.out).mono ?_
  rintro e w3 ⟨rfl, hd3⟩
  have HR3 := Lib.hid (RT.moved hd3.below HR2.out)
  clear d1 hd3 HR2
  have c0 := HR3.out.c0
  have c1 := HR3.out.c1
  have k0 := HR3.out.k0
  have k1 := HR3.out.k1
  have hlt := HR3.out.lt
  cases o1
  · go_wp2
    refine bodyPost_ret (v := .tuple #[.agg #[.int .i64 0, .int .i64 0], .bool false]) (by simp [results, Tryd.results24, go_sem, c0, c1, k0, k1, hlt]) rfl ⟨by rw [HE.out]; rfl, ?_⟩
    first | exact below_set (below_set (below_alloc HR3.out.hb _) (Nat.le_refl _)) (Nat.le_refl _) | exact below_alloc (below_set (below_set HR3.out.hb (Nat.le_refl _)) (Nat.le_refl _)) _
  · cases o2
    · go_wp2
      refine bodyPost_ret (v := .tuple #[.agg #[.int .i64 0, .int .i64 0], .bool false]) (by simp [results, Tryd.results24, go_sem, c0, c1, k0, k1, hlt]) rfl ⟨by rw [HE.out]; rfl, ?_⟩
      first | exact below_set (below_set (below_alloc HR3.out.hb _) (Nat.le_refl _)) (Nat.le_refl _) | exact below_alloc (below_set (below_set HR3.out.hb (Nat.le_refl _)) (Nat.le_refl _)) _
    · go_wp2_with fail
      refine (l30Room_c ⟨w3.heap.size, 0, none⟩ a b _ (by simp) (by simp)).mono ?_
      rintro e w4 ⟨rfl, rfl⟩
      rw [HRB.out]
      cases rb
      · go_wp2
        refine bodyPost_ret (v := .tuple #[.agg #[.int .i64 0, .int .i64 0], .bool false]) (by simp [results, Tryd.results24, go_sem, c0, c1, k0, k1, hlt]) rfl ⟨by rw [HE.out]; rfl, ?_⟩
        first | exact below_set (below_set (below_alloc HR3.out.hb _) (Nat.le_refl _)) (Nat.le_refl _) | exact below_alloc (below_set (below_set HR3.out.hb (Nat.le_refl _)) (Nat.le_refl _)) _
      · go_wp2
        refine bodyPost_ret (v := .tuple #[.agg #[.int .i64 a, .int .i64 b], .bool true]) (by simp [results, Tryd.results24, go_sem, c0, c1, k0, k1, hlt]) rfl ⟨by rw [HE.out]; rfl, ?_⟩
        first | exact below_set (below_set (below_alloc HR3.out.hb _) (Nat.le_refl _)) (Nat.le_refl _) | exact below_alloc (below_set (below_set HR3.out.hb (Nat.le_refl _)) (Nat.le_refl _)) _

theorem readRoom_of (s : ByteArray) (a b : Int) (o : Bool) (w : World)
    (H : ∀ w, Calls Tryd.prog 24 #[.string s] w fun e w' => e = .returned (.tuple #[.agg #[.int .i64 a, .int .i64 b], .bool o]) ∧ Below w.heap.size w w') :
    Calls Tryd.prog 9 #[.string s] w fun e w' => e = .returned (.tuple #[.agg #[.int .i64 a, .int .i64 b], .bool o]) ∧ Below w.heap.size w w' := by
  have HH := Lib.hid H
  clear H
  go_enter Tryd.func9, Tryd.ntmps9
  go_wp2_with fail
  refine (HH.out _).mono ?_
  rintro e w1 ⟨rfl, hb⟩
  have k0 : w1.frozen? ⟨w.heap.size, 0, none⟩ = false := (Below.frozen hb (p := ⟨w.heap.size, 0, none⟩) (by simp)).trans (by simp)
  have k1 : w1.frozen? ⟨w.heap.size, 1, none⟩ = false := (Below.frozen hb (p := ⟨w.heap.size, 1, none⟩) (by simp)).trans (by simp)
  have c0 : w1.cell? ⟨w.heap.size, 0, none⟩ = some (.int .i64 0) := (Below.cell hb (p := ⟨w.heap.size, 0, none⟩) (by simp)).trans (by simp)
  have c1 : w1.cell? ⟨w.heap.size, 1, none⟩ = some (.int .i64 0) := (Below.cell hb (p := ⟨w.heap.size, 1, none⟩) (by simp)).trans (by simp)
  have HB := Lib.hid (below_step (below_alloc (Below.refl _ w) _) hb)
  clear hb
  go_wp2
  refine bodyPost_ret (v := .tuple #[.agg #[.int .i64 a, .int .i64 b], .bool o]) (by simp [results, Tryd.results9, go_sem, c0, c1, k0, k1]) rfl ⟨rfl, ?_⟩
  exact below_set (below_set HB.out (Nat.le_refl _)) (Nat.le_refl _)

def spec_ReadRoom.f (k : Nat) (a0 : ByteArray) : Option (Int × Int × Bool) := (spec_l01Split.f k a0 120).bind fun ws => if ws.length = 2 then ((spec_l01Number.f k (ws.getD 0 eS)).bind fun p => (spec_l01Number.f k (ws.getD 1 eS)).bind fun q => some (pick p q)) else some (0, 0, false)
theorem spec_ReadRoom.mono : ∀ a0 k, LeO (spec_ReadRoom.f k a0) (spec_ReadRoom.f (k + 1) a0) := by
  intro a0 k
  unfold spec_ReadRoom.f
  refine LeO.bind (spec_l01Split.mono _ _ _) (fun ws => ?_)
  refine LeO.ite ?_ (LeO.refl _)
  refine LeO.bind (spec_l01Number.mono _ _) (fun _ => ?_)
  exact LeO.bind (spec_l01Number.mono _ _) (fun _ => LeO.refl _)
theorem spec_ReadRoom.calls (k : Nat) (a0 : ByteArray) (r1 : Int) (r2 : Int) (r3 : Bool) (w : World) (h : spec_ReadRoom.f k a0 = some (r1, r2, r3)) :
    Calls Tryd.prog 9 #[.string a0] w fun e w' => e = .returned (.tuple #[.agg #[.int .i64 r1, .int .i64 r2], .bool r3]) ∧ Below w.heap.size w w' := by
  unfold spec_ReadRoom.f at h
  obtain ⟨ws, h1, h2⟩ := Option.bind_eq_some_iff.1 h
  by_cases hl : ws.length = 2
  · rw [if_pos hl] at h2
    obtain ⟨⟨a, o1⟩, h3, h4⟩ := Option.bind_eq_some_iff.1 h2
    obtain ⟨⟨b, o2⟩, h5, h6⟩ := Option.bind_eq_some_iff.1 h4
    have e := Option.some.inj h6
    refine readRoom_of a0 r1 r2 r3 w (fun w => (read_two k a0 _ _ ws a b o1 o2 w h1 hl rfl rfl h3 h5).mono ?_)
    rintro e w' ⟨rfl, hb⟩
    exact ⟨by rw [e], hb⟩
  · rw [if_neg hl] at h2
    have e := Option.some.inj h2
    cases e
    exact readRoom_of a0 0 0 false w (fun w => read_no k a0 ws w h1 hl)
end Go.Proofs.YtdbgjjckafeenaaDoor.ExtQ
