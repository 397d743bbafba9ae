/- The row of one law over shares: its arguments are opened to lists, the walk is taken, and the answer is shut. -/
import Derived.Test.YtclfiaafeaocjaaRows
import Derived.Test.YtclfiaafeaocjaaPFnExactMissingSharex5
import Derived.Test.YtclfiaafeaocjaaPureFnExactMissingShare
import Derived.Test.YtclfiaafeaocjaaOpen
import Derived.WalkKit
import Derived.ProofKit
import Derived.OpenShut
import Derived.ShutString
import Derived.ChangeOld
import Derived.Below
import Derived.SizedLaws
import Derived.Test.YtclfiaafeaocjaaWSized
namespace Go.Proofs.Ytclfiaafeaocjaa.fnExactMissingShare
open Go.ChangeShapes Go.WideShapes Go.ChangeAt Go.RowKit
open Go.Proofs.YtclfiaafeaocjaaW.PrintWords Go.Proofs.YtclfiaafeaocjaaW.PrintLast
open Go.Proofs.Ytclfiaafeaocjaa.PFnExactMissingShare
set_option linter.unusedVariables false
theorem own : ownKnob Try.prog.godebug = none := by kernel_rfl
theorem laidOut : laidOutB Try.prog = true := by kernel_rfl
/-- The cells of a slice of shares, as the walk wants them. -/
theorem reads {W : World} {a : Option Addr} {len cap : Nat} (F : Nat → Int × Int) (hl : len ≤ cap) (hm : cap ≤ maxLen)
    (hF : 0 < len → ∃ x, a = some x ∧ ∀ i, i < len → W.cell? (x.add (i * 2)) = some (.int .i64 (F i).1) ∧ W.cell? (x.add (i * 2 + 1)) = some (.int .i64 (F i).2)) :
    ∃ l0 : List S55, l0.length = len ∧ Kd.C k55 W a len l0 := by
  refine ⟨(List.range len).map fun i => ⟨(F i).1, (F i).2⟩, by simp, by simp, Nat.le_trans (Nat.le_trans hl hm) (by decide), fun h0 => ?_⟩
  obtain ⟨x, rfl, hx⟩ := hF h0
  refine ⟨x, rfl, fun j p hp => ⟨[.int .i64 p.f0, .int .i64 p.f1], rfl, k55_mk W p, fun i u hu => ?_⟩⟩
  have hj : j < len := by
    have := (List.getElem?_eq_some_iff.1 hp).1
    simpa using this
  have he : p = ⟨(F j).1, (F j).2⟩ := by
    simp only [List.getElem?_map, List.getElem?_range hj, Option.map_some, Option.some.injEq] at hp
    exact hp.symm
  subst he
  match i, hu with
  | 0, hu =>
    cases hu
    exact (hx j hj).1
  | 1, hu =>
    cases hu
    exact (hx j hj).2
  | i + 2, hu => cases hu
set_option maxRecDepth 100000 in
theorem lifted (os : Os) (started : os.Started) (H : Type) (enc : TypeId × Value → H) :
    ReturnsInHanded {} Try.checked os 8 .any (Rows.fnExactMissingShareSpec.pre6 enc Try.prog Try.f8 Rows.fnExactMissingShareRow.domain false) (Rows.fnExactMissingShareSpec.post enc Try.prog Try.f8 false true false false) := by
  refine returnsInHanded_of_change_sized (C := Try.checked) own started (by kernel_rfl) Try.func8
    (ChangeSpec.witness6 (enc := enc) (C := Try.checked) false ⟨#[], #[.slice none 0 0, .int .i64 0, .int .i64 0], []⟩ 8 (by kernel_rfl) (by kernel_rfl) (by kernel_rfl) (by kernel_rfl)) ?_
  intro W base args ds gs before hval0 hW hcnd hsz0 _
  have hval : ∀ (j : Nat) t v, Try.f8.params[j]? = some t → args[j]? = some v → Value.okWide Try.prog W .any base t v := hval0
  have hW' := hW
  obtain ⟨p, q, hA0, hV, rfl, hfz, hnd⟩ := hW
  have hA : DataW.TrodAll enc Try.prog W 0 (fun _ => true) true Try.f8.params.toList args.toList ds p := hA0
  rw [Try.params8] at hA hval
  obtain ⟨v0, vs0, d0, ds0, p0, q0, hargs, rfl, rfl, h0, r0⟩ := trodAll_cons hA
  obtain ⟨v1, vs1, d1, ds1, p1, q1, rfl, rfl, rfl, h1, r1⟩ := trodAll_cons r0
  obtain ⟨v2, vs2, d2, ds2, p2, q2, rfl, rfl, rfl, h2, r2⟩ := trodAll_cons r1
  obtain ⟨rfl, rfl, rfl⟩ := trodAll_nil r2
  obtain rfl : args = #[v0, v1, v2] := by cases args; simp_all
  obtain ⟨rfl, rfl⟩ := trodVars_none hV
  obtain ⟨a0, len0, cap0, rfl⟩ := okWide_slice Try.underlying22 (hval 0 22 v0 rfl rfl)
  have k0 := h0
  have lt0 : ∀ x ∈ p0, x.block < W.heap.size := by obtain ⟨m, hm⟩ := k0; exact DataW.trod_lt m _ _ _ hm
  obtain ⟨l0, hl0, hr0, hc0, hm0⟩ : ∃ l0 : List S55, l0.length = len0 ∧ Kd.C k55 W a0 len0 l0 ∧ len0 ≤ cap0 ∧ cap0 ≤ maxLen := by
    obtain ⟨fuel, hf⟩ := h0
    obtain ⟨A, len, cap, F, hcs, hl, hm, hF⟩ := Open.open_pairs Try.underlying22 Try.underlying55 (by kernel_rfl) (by kernel_rfl) Try.underlying3 Try.underlying3 hf
    simp [Value.cells] at hcs
    obtain ⟨rfl, rfl, rfl⟩ := hcs
    obtain ⟨l0, e, hr⟩ := reads F hl hm hF
    exact ⟨l0, e, hr, hl, hm⟩
  subst hl0
  obtain ⟨a1, rfl, rfl, rfl, w1⟩ := open_int Try.underlying3 (hval 1 3 v1 rfl rfl) h1
  obtain ⟨a2, rfl, rfl, rfl, w2⟩ := open_int Try.underlying3 (hval 2 3 v2 rfl rfl) h2
  clear hA0 hval0 hsz0
  obtain ⟨kk, hk⟩ := Pure.FnExactMissingShare l0 (Nat.le_trans hc0 hm0) a1 w1 a2 w2
  refine (laws_FnExactMissingShare.calls kk _ _ l0 a1 a2 true W hr0 hc0   hk).mono fun e W' ⟨he, bel⟩ => ?_
  subst he
  exact ⟨_, rfl, _, _, _, [], _, [], hW', trodAll_mk1 (shut_bool Try.underlying4 _), (trodAll_cons_mk (Below.trod laidOut (by kernel_rfl) (of_decide_eq_true (by kernel_rfl)) k0 bel lt0) (trodAll_cons_mk (shut_int Try.underlying3 w1) (trodAll_cons_mk (shut_int Try.underlying3 w2) trodAll_mk0))), rfl, bel.frame _, fun h => by cases h⟩
theorem over : Rows.fnExactMissingShareRow.holds Try.pinned (OpenSpec.ofChange Rows.fnExactMissingShareSpec) :=
  OpenClaim.holds_of_wide 8 Try.f8 rfl rfl rfl rfl rfl rfl rfl ⟨rfl, rfl, rfl, rfl, rfl⟩ rfl rfl rfl rfl rfl (by kernel_rfl) Try.func8 (by kernel_rfl)
    (of_decide_eq_true (by kernel_rfl)) (by unfold Func.isWrapper; first | (rw [if_pos (by decide +kernel)]; kernel_rfl) | (rw [if_neg (by decide +kernel)]; exact ⟨rfl, rfl⟩))
    (fun os started H enc _ => lifted os started H enc)
theorem proved : Rows.FnExactMissingShareSaid := over
#print axioms proved
end Go.Proofs.Ytclfiaafeaocjaa.fnExactMissingShare
namespace Go.Proofs.Ytclfiaafeaocjaa
/-- The row, under a short name, for the claim. -/
theorem fnExactMissingShare_holds : Rows.FnExactMissingShareSaid := fnExactMissingShare.proved
end Go.Proofs.Ytclfiaafeaocjaa
