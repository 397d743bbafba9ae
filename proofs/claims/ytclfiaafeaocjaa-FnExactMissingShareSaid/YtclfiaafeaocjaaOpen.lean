/- An argument that is a slice of structs of two whole numbers, opened to its cells. -/
import Derived.Deep.Slices
import Derived.Deep.Fields
import Derived.ChangeSame
import Derived.ChangeArms
import Derived.Lib.SmallJoins
set_option linter.unusedVariables false
namespace Go.Proofs.Ytclfiaafeaocjaa.Open
open Go.ChangeShapes Go.WideShapes Go.Deep Go.Joins
section
variable {H : Type} {enc : TypeId × Value → H} {P : Program} {w : World} {base : Nat} {spare : Nat → Bool} {held : Bool}
/-- A slice of structs of two whole numbers, read into a list of pairs. -/
theorem open_pairs {t e : TypeId} {fa fb : Field} {fuel : Nat} {cs : List Value} {x : DataW H × List MemPlace} (ht : P.underlying t = some (.slice e)) (he : P.underlying e = some (.struct #[fa, fb]))
    (hone : oneCellFields P #[fa, fb] = true) (hC : P.cellsOf e = 2) (ta : P.underlying fa.type = some (.int .i64)) (tb : P.underlying fb.type = some (.int .i64)) (h : DataW.trod enc P w base spare held fuel t cs = some x) :
    ∃ (A : Option Addr) (len cap : Nat) (F : Nat → Int × Int), cs = [.slice A len cap] ∧ len ≤ cap ∧ cap ≤ maxLen ∧
      (0 < len → ∃ a, A = some a ∧ ∀ i, i < len → w.cell? (a.add (i * 2)) = some (.int .i64 (F i).1) ∧ w.cell? (a.add (i * 2 + 1)) = some (.int .i64 (F i).2)) := by
  rcases open_slice ht h with ⟨hcs, _⟩ | ⟨a, len, cap, m, n, D, Pl, hcs, hb, hl, hm, hmm, hx, hi⟩
  · exact ⟨none, 0, 0, fun _ => (0, 0), hcs, Nat.le_refl _, Nat.zero_le _, fun h0 => absurd h0 (Nat.lt_irrefl 0)⟩
  · have hlm : len ≤ m := by
      rw [hmm]
      split
      · exact hl
      · exact Nat.le_refl _
    obtain ⟨F, hF⟩ := choose_lt (α := Int × Int) (n := len) (p := fun i y => w.cell? (a.add (i * 2)) = some (.int .i64 y.1) ∧ w.cell? (a.add (i * 2 + 1)) = some (.int .i64 y.2)) (fun i hil => by
      obtain ⟨c, hc, hr⟩ := hi i (Nat.lt_of_lt_of_le hil hlm)
      rw [hC] at hc
      obtain ⟨_, hcl, hat⟩ := World.cells?_some hc
      obtain ⟨y0, y1, n', _, _, h0, h1⟩ := trod_struct2 he hr
      obtain ⟨o0, k0⟩ := hone_of hone 0 fa rfl
      obtain ⟨o1, k1⟩ := hone_of hone 1 fb rfl
      match c, hcl with
      | [v0, v1], _ =>
        rw [o0, k0] at h0
        rw [o1, k1] at h1
        obtain ⟨n0, e0, _, _⟩ := DataW.trod_int ta h0
        obtain ⟨n1, e1, _, _⟩ := DataW.trod_int tb h1
        obtain rfl : v0 = .int .i64 n0 := (List.cons.inj e0).1
        obtain rfl : v1 = .int .i64 n1 := (List.cons.inj e1).1
        refine ⟨(n0, n1), ?_, ?_⟩
        · have := hat 0 (by omega)
          exact this
        · have := hat 1 (by omega)
          rw [add_add] at this
          exact this)
    exact ⟨some a, len, cap, F, hcs, hl, hm, fun _ => ⟨a, rfl, hF⟩⟩
end
end Go.Proofs.Ytclfiaafeaocjaa.Open
