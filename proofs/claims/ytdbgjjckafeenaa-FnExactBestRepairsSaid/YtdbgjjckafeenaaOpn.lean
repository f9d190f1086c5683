/- What is read of an argument, laid open as a plain value, whatever its type. -/
import Derived.Test.YtdbgjjckafeenaaBase
import Derived.Deep.Slices
import Derived.ChangeSame
namespace Go.Proofs.Ytdbgjjckafeenaa.Opn
open Go.RowKit Go.Deep Go.ChangeShapes Go.WideShapes Go.Proofs.YtdbgjjckafeenaaW.PrintWords Go.Proofs.YtdbgjjckafeenaaW.PrintLast Go.Proofs.YtdbgjjckafeenaaW.PrintMore Go.Proofs.Ytdbgjjckafeenaa.Base
set_option linter.unusedVariables false
set_option linter.unusedSimpArgs false

/-- Whatever reads at the type t is a plain value of the kind d. -/
def Opens (H : Type) (P : Program) {α : Type} (d : Kd α) (t : TypeId) : Prop :=
  ∀ (enc : TypeId × Value → H) (w : World) (base : Nat) (spare : Nat → Bool) (held : Bool) (fuel : Nat) (cs : List Value) (x : DataW H × List MemPlace),
    DataW.trod enc P w base spare held fuel t cs = some x → ∃ a : α, d.K w a cs

section
variable {H : Type} {P : Program}
theorem opens_int {k : IntKind} {t : TypeId} (ht : P.underlying t = some (.int k)) : Opens H P (Kd.int k) t := by
  intro enc w base spare held fuel cs x h
  obtain ⟨n, rfl, _, _⟩ := DataW.trod_int ht h
  exact ⟨n, rfl⟩
theorem opens_bool {t : TypeId} (ht : P.underlying t = some .bool) : Opens H P Kd.bool t := by
  intro enc w base spare held fuel cs x h
  obtain ⟨b, rfl, _⟩ := DataW.trod_bool ht h
  exact ⟨b, rfl⟩
theorem opens_string {t : TypeId} (ht : P.underlying t = some .string) : Opens H P Kd.string t := by
  intro enc w base spare held fuel cs x h
  obtain ⟨s, rfl, _, _⟩ := DataW.trod_string ht h
  exact ⟨s, rfl⟩
theorem opens_slice {α : Type} [Inhabited α] {d : Kd α} {t e : TypeId} (n : Nat) (ht : P.underlying t = some (.slice e)) (hc : P.cellsOf e = d.sz) (h : Opens H P d e) : Opens H P (Kd.slice n d) t := by
  intro enc w base spare held fuel cs x hx
  rcases open_slice ht hx with ⟨rfl, _⟩ | ⟨a, len, cap, m, fu, D, Pl, rfl, hb, hl, hm, hmm, _, hi⟩
  · exact ⟨[], none, 0, rfl, Nat.le_refl _, rfl, by simp, fun h0 => absurd h0 (by simp)⟩
  · have hlm : len ≤ m := by rw [hmm]; split <;> omega
    obtain ⟨f, hf⟩ := choose_lt (n := len) (p := fun i (y : α) => ∃ c, c.length = d.sz ∧ d.K w y c ∧ ∀ j u, c[j]? = some u → w.cell? (a.add (i * d.sz + j)) = some u) (fun i hil => by
      obtain ⟨cs', hc1, hc2⟩ := hi i (by omega)
      obtain ⟨y, hy⟩ := h enc w base spare held fu cs' _ hc2
      rw [hc] at hc1
      obtain ⟨_, hlen, hat⟩ := World.cells?_some hc1
      refine ⟨y, cs', hlen, hy, fun j u hu => ?_⟩
      have hjl : j < d.sz := by have := (List.getElem?_eq_some_iff.1 hu).1; omega
      rw [← Go.Deep.add_add, hat j hjl]
      exact hu)
    refine ⟨(List.range len).map f, some a, cap, by simp, by simpa using hl, by simp, ?_, fun _ => ⟨a, rfl, fun j p hp => ?_⟩⟩
    · simp only [List.length_map, List.length_range]
      unfold maxLen at hm
      omega
    · rw [List.getElem?_map] at hp
      obtain ⟨i, hi2, rfl⟩ := Option.map_eq_some_iff.1 hp
      obtain ⟨hjl, hji⟩ := List.getElem?_eq_some_iff.1 hi2
      have e : i = j := by simpa using hji.symm
      subst e
      exact hf i (by simpa using hjl)
end
theorem split_at {l : List Value} (o s : Nat) : l.drop o = (l.drop o).take s ++ l.drop (o + s) := by
  rw [← List.drop_drop, List.take_append_drop]
theorem split_first {l : List Value} (s : Nat) : l = (l.drop 0).take s ++ l.drop s := by simp
theorem last_at {l : List Value} (o s : Nat) (h : l.length = o + s) : l.drop o = (l.drop o).take s := by
  rw [List.take_of_length_le]
  rw [List.length_drop]; omega
end Go.Proofs.Ytdbgjjckafeenaa.Opn
