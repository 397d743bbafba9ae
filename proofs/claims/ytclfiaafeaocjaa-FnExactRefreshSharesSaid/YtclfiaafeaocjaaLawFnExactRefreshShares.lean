/- The row of one law over shares: its arguments are opened to lists, the walk is taken, and the answer is shut. -/
import Derived.Test.YtclfiaafeaocjaaRows
import Derived.Test.YtclfiaafeaocjaaPFnExactRefreshSharesx4
import Derived.Test.YtclfiaafeaocjaaPureFnExactRefreshShares
import Derived.Test.YtclfiaafeaocjaaOpen
import Derived.WalkKit
import Derived.ProofKit
import Derived.OpenShut
import Derived.ShutString
import Derived.ChangeOld
import Derived.Below
import Derived.SizedLaws
import Derived.Test.YtclfiaafeaocjaaWSized
namespace Go.Proofs.Ytclfiaafeaocjaa.fnExactRefreshShares
open Go.ChangeShapes Go.WideShapes Go.ChangeAt Go.RowKit
open Go.Proofs.YtclfiaafeaocjaaW.PrintWords Go.Proofs.YtclfiaafeaocjaaW.PrintLast
open Go.Proofs.Ytclfiaafeaocjaa.PFnExactRefreshShares
set_option linter.unusedVariables false
theorem own : ownKnob Try.prog.godebug = none := by kernel_rfl
theorem laidOut : laidOutB Try.prog = true := by kernel_rfl
def IsRow (k : IntKind) (w : World) (a : Option Addr) (len cap : Nat) (zs : List Int) : Prop :=
  (a = none ∧ len = 0 ∧ cap = 0 ∧ zs = []) ∨
  ∃ x, a = some x ∧ len ≤ cap ∧ cap ≤ maxLen ∧ zs.length = cap ∧ (∀ i, i < zs.length → w.cell? (x.add i) = some (.int k (zs.getD i 0))) ∧ ∀ n ∈ zs, (Lit.int k n).wf = true
/-- The cells of a slice of shares, as the walk wants them. -/
theorem reads {W : World} {a : Option Addr} {len cap : Nat} (F : Nat → Int × Int) (hl : len ≤ cap) (hm : cap ≤ maxLen)
    (hF : 0 < len → ∃ x, a = some x ∧ ∀ i, i < len → W.cell? (x.add (i * 2)) = some (.int .i64 (F i).1) ∧ W.cell? (x.add (i * 2 + 1)) = some (.int .i64 (F i).2)) :
    ∃ l0 : List S55, l0.length = len ∧ Kd.C k55 W a len l0 := by
  refine ⟨(List.range len).map fun i => ⟨(F i).1, (F i).2⟩, by simp, by simp, Nat.le_trans (Nat.le_trans hl hm) (by decide), fun h0 => ?_⟩
  obtain ⟨x, rfl, hx⟩ := hF h0
  refine ⟨x, rfl, fun j p hp => ⟨[.int .i64 p.f0, .int .i64 p.f1], rfl, k55_mk W p, fun i u hu => ?_⟩⟩
  have hj : j < len := by
    have := (List.getElem?_eq_some_iff.1 hp).1
    simpa using this
  have he : p = ⟨(F j).1, (F j).2⟩ := by
    simp only [List.getElem?_map, List.getElem?_range hj, Option.map_some, Option.some.injEq] at hp
    exact hp.symm
  subst he
  match i, hu with
  | 0, hu =>
    cases hu
    exact (hx j hj).1
  | 1, hu =>
    cases hu
    exact (hx j hj).2
  | i + 2, hu => cases hu
set_option maxRecDepth 100000 in
theorem lifted (os : Os) (started : os.Started) (H : Type) (enc : TypeId × Value → H) :
    ReturnsInHanded {} Try.checked os 6 .any (Rows.fnExactRefreshSharesSpec.pre6 enc Try.prog Try.f6 Rows.fnExactRefreshSharesRow.domain false) (Rows.fnExactRefreshSharesSpec.post enc Try.prog Try.f6 false true false false) := by
  refine returnsInHanded_of_change_sized (C := Try.checked) own started (by kernel_rfl) Try.func6
    (ChangeSpec.witness6 (enc := enc) (C := Try.checked) false ⟨#[], #[.slice none 0 0, .slice none 0 0], []⟩ 8 (by kernel_rfl) (by kernel_rfl) (by kernel_rfl) (by kernel_rfl)) ?_
  intro W base args ds gs before hval0 hW hcnd hsz0 _
  have hval : ∀ (j : Nat) t v, Try.f6.params[j]? = some t → args[j]? = some v → Value.okWide Try.prog W .any base t v := hval0
  have hW' := hW
  obtain ⟨p, q, hA0, hV, rfl, hfz, hnd⟩ := hW
  have hA : DataW.TrodAll enc Try.prog W 0 (fun _ => true) true Try.f6.params.toList args.toList ds p := hA0
  rw [Try.params6] at hA hval
  obtain ⟨v0, vs0, d0, ds0, p0, q0, hargs, rfl, rfl, h0, r0⟩ := trodAll_cons hA
  obtain ⟨v1, vs1, d1, ds1, p1, q1, rfl, rfl, rfl, h1, r1⟩ := trodAll_cons r0
  obtain ⟨rfl, rfl, rfl⟩ := trodAll_nil r1
  obtain rfl : args = #[v0, v1] := by cases args; simp_all
  obtain ⟨rfl, rfl⟩ := trodVars_none hV
  obtain ⟨a0, len0, cap0, rfl⟩ := okWide_slice Try.underlying22 (hval 0 22 v0 rfl rfl)
  have k0 := h0
  have lt0 : ∀ x ∈ p0, x.block < W.heap.size := by obtain ⟨m, hm⟩ := k0; exact DataW.trod_lt m _ _ _ hm
  obtain ⟨l0, hl0, hr0, hc0, hm0⟩ : ∃ l0 : List S55, l0.length = len0 ∧ Kd.C k55 W a0 len0 l0 ∧ len0 ≤ cap0 ∧ cap0 ≤ maxLen := by
    obtain ⟨fuel, hf⟩ := h0
    obtain ⟨A, len, cap, F, hcs, hl, hm, hF⟩ := Open.open_pairs Try.underlying22 Try.underlying55 (by kernel_rfl) (by kernel_rfl) Try.underlying3 Try.underlying3 hf
    simp [Value.cells] at hcs
    obtain ⟨rfl, rfl, rfl⟩ := hcs
    obtain ⟨l0, e, hr⟩ := reads F hl hm hF
    exact ⟨l0, e, hr, hl, hm⟩
  subst hl0
  obtain ⟨a1, len1, cap1, rfl⟩ := okWide_slice Try.underlying29 (hval 1 29 v1 rfl rfl)
  have k1 := h1
  have lt1 : ∀ x ∈ p1, x.block < W.heap.size := by obtain ⟨m, hm⟩ := k1; exact DataW.trod_lt m _ _ _ hm
  obtain ⟨z1, w1⟩ : ∃ zs, IsRow .i64 W a1 len1 cap1 zs := by
    obtain ⟨fuel, hf⟩ := h1
    rcases open_ints Try.underlying29 Try.underlying3 (by kernel_rfl) hf with ⟨hcs, _⟩ | ⟨x, l, c, zs, hcs, _, hl, hm, hz, _, hcell, hwz⟩
    · simp [Value.cells] at hcs
      obtain ⟨rfl, rfl, rfl⟩ := hcs
      exact ⟨[], .inl ⟨rfl, rfl, rfl, rfl⟩⟩
    · simp [Value.cells] at hcs
      obtain ⟨rfl, rfl, rfl⟩ := hcs
      exact ⟨zs, .inr ⟨_, rfl, hl, hm, by simpa using hz, hcell, hwz⟩⟩
  obtain ⟨l1, rfl, hr1, hm1, hw1, hc1⟩ := ReadsInt.ofRowC w1
  clear hA0 hval0 hsz0
  obtain ⟨kk, hk⟩ := Pure.FnExactRefreshShares l0 (Nat.le_trans hc0 hm0) l1 hm1 hw1
  refine (laws_FnExactRefreshShares.calls kk _ _ l0 _ _ l1 true W hr0 hc0 (Kd.C_of_reads (d := (0 : Int)) (h1 := fun _ => rfl) hr1) hc1 hk).mono fun e W' ⟨he, bel⟩ => ?_
  subst he
  exact ⟨_, rfl, _, _, _, [], _, [], hW', trodAll_mk1 (shut_bool Try.underlying4 _), (trodAll_cons_mk (Below.trod laidOut (by kernel_rfl) (of_decide_eq_true (by kernel_rfl)) k0 bel lt0) (trodAll_cons_mk (Below.trod laidOut (by kernel_rfl) (of_decide_eq_true (by kernel_rfl)) k1 bel lt1) trodAll_mk0)), rfl, bel.frame _, fun h => by cases h⟩
theorem over : Rows.fnExactRefreshSharesRow.holds Try.pinned (OpenSpec.ofChange Rows.fnExactRefreshSharesSpec) :=
  OpenClaim.holds_of_wide 6 Try.f6 rfl rfl rfl rfl rfl rfl rfl ⟨rfl, rfl, rfl, rfl, rfl⟩ rfl rfl rfl rfl rfl (by kernel_rfl) Try.func6 (by kernel_rfl)
    (of_decide_eq_true (by kernel_rfl)) (by unfold Func.isWrapper; first | (rw [if_pos (by decide +kernel)]; kernel_rfl) | (rw [if_neg (by decide +kernel)]; exact ⟨rfl, rfl⟩))
    (fun os started H enc _ => lifted os started H enc)
theorem proved : Rows.FnExactRefreshSharesSaid := over
#print axioms proved
end Go.Proofs.Ytclfiaafeaocjaa.fnExactRefreshShares
namespace Go.Proofs.Ytclfiaafeaocjaa
/-- The row, under a short name, for the claim. -/
theorem fnExactRefreshShares_holds : Rows.FnExactRefreshSharesSaid := fnExactRefreshShares.proved
end Go.Proofs.Ytclfiaafeaocjaa
