/- This text was printed by the kit's printer, run by a program of this claim with stand-ins for two functions that it does not cover (impl.FormatInt, impl.ParseInt); their contracts are written by hand. -/
import Derived.Test.YthfhejfidmhklaaDoorPFnIntegersx0
import Derived.Test.YthfhejfidmhklaaDoorPFnIntegersx1
import Derived.Test.YthfhejfidmhklaaDoorPFnIntegersx3
import Derived.Test.YthfhejfidmhklaaDoorPFnIntegersx4
namespace Go.Proofs.YthfhejfidmhklaaDoor.PFnIntegers
open Go.RowKit Go.Proofs.YthfhejfidmhklaaDoorW.PrintWords Go.Proofs.YthfhejfidmhklaaDoorW.PrintLast Go.Proofs.YthfhejfidmhklaaDoorW.PrintMore
attribute [local go_sem] max2_int min2_int max_two min_two max_three min_three max_four min_four   -- for this text's walks alone
set_option linter.unusedVariables false
set_option linter.unusedSimpArgs false

/-! ### laws_FnIntegers: function 5 -/
mutual
def laws_FnIntegers.j0 : Nat → Int → Int → Int → Int → Bool → Option (Bool)
  | 0, _, _, _, _, _ => none
  | k + 1, x9, x10, x11, x12, x65 => if x65 = true then (some false) else (if x10 < 1 then (laws_FnIntegers.j1 k x9 x10 x11 x12 true) else (laws_FnIntegers.j1 k x9 x10 x11 x12 (decide (x10 > 1000000000000))))
def laws_FnIntegers.j1 : Nat → Int → Int → Int → Int → Bool → Option (Bool)
  | 0, _, _, _, _, _ => none
  | k + 1, x9, x10, x11, x12, x71 => if x71 = true then (if x11 = 0 then (some (x12 == 0)) else (some false)) else (if x12 < 0 then (laws_FnIntegers.j2 k x9 x10 x11 true) else (if x12 ≥ x10 then (laws_FnIntegers.j2 k x9 x10 x11 true) else (if x10 = 0 then (none) else (laws_FnIntegers.j2 k x9 x10 x11 ((Int.tmod (wrap64 ((Int.tmod x9 x10) - x12)) x10) != 0)))))
def laws_FnIntegers.j2 : Nat → Int → Int → Int → Bool → Option (Bool)
  | 0, _, _, _, _ => none
  | k + 1, x9, x10, x11, x94 => if x94 = true then (some false) else (if x9 < 0 then (some (x11 == 0)) else (if x9 > 1000000000000 then (some (x11 == 0)) else (if (wrap64 (x11 * x10)) ≥ x9 then (some (decide ((wrap64 ((wrap64 (x11 * x10)) - x9)) < x10))) else (some false))))
end
def laws_FnIntegers.f (k : Nat) (l0 : List Int) : Option (Bool) := (laws_big.f l0).bind fun t257 => (if t257 = true then (some true) else ((spec_DrawParseInt.f k l0).bind fun t258 => ((impl_ParseInt.f k t258).bind fun bt259 => ((spec_DrawFormatInt.f k l0).bind fun t261 => ((impl_FormatInt.f k t261).bind fun t262 => ((impl_ParseInt.f k t262).bind fun bt263 => ((spec_DrawCeilDiv.f k l0).bind fun bt265 => ((impl_CeilDiv.f bt265.1 bt265.2).bind fun t267 => ((impl_Mod.f k bt265.1 bt265.2).bind fun t268 => (if bt259.2 = true then ((impl_FormatInt.f k bt259.1).bind fun t269 => (if t269.toList = t258.toList then (if t261 ≥ 0 then (if (bt263.2 != (decide (t261 ≤ 1000000000000))) = true then (laws_FnIntegers.j0 k bt265.1 bt265.2 t267 t268 true) else (if bt263.2 = true then (laws_FnIntegers.j0 k bt265.1 bt265.2 t267 t268 (bt263.1 != t261)) else (laws_FnIntegers.j0 k bt265.1 bt265.2 t267 t268 false))) else (if (bt263.2 != false) = true then (laws_FnIntegers.j0 k bt265.1 bt265.2 t267 t268 true) else (if bt263.2 = true then (laws_FnIntegers.j0 k bt265.1 bt265.2 t267 t268 (bt263.1 != t261)) else (laws_FnIntegers.j0 k bt265.1 bt265.2 t267 t268 false)))) else (laws_FnIntegers.j0 k bt265.1 bt265.2 t267 t268 true))) else (if t261 ≥ 0 then (if (bt263.2 != (decide (t261 ≤ 1000000000000))) = true then (laws_FnIntegers.j0 k bt265.1 bt265.2 t267 t268 true) else (if bt263.2 = true then (laws_FnIntegers.j0 k bt265.1 bt265.2 t267 t268 (bt263.1 != t261)) else (laws_FnIntegers.j0 k bt265.1 bt265.2 t267 t268 false))) else (if (bt263.2 != false) = true then (laws_FnIntegers.j0 k bt265.1 bt265.2 t267 t268 true) else (if bt263.2 = true then (laws_FnIntegers.j0 k bt265.1 bt265.2 t267 t268 (bt263.1 != t261)) else (laws_FnIntegers.j0 k bt265.1 bt265.2 t267 t268 false))))))))))))))
theorem laws_FnIntegers.mono_l : ∀ k, (∀ y0 y1 y2 y3 y4, LeO (laws_FnIntegers.j0 k y0 y1 y2 y3 y4) (laws_FnIntegers.j0 (k + 1) y0 y1 y2 y3 y4)) ∧ (∀ y0 y1 y2 y3 y4, LeO (laws_FnIntegers.j1 k y0 y1 y2 y3 y4) (laws_FnIntegers.j1 (k + 1) y0 y1 y2 y3 y4)) ∧ (∀ y0 y1 y2 y3, LeO (laws_FnIntegers.j2 k y0 y1 y2 y3) (laws_FnIntegers.j2 (k + 1) y0 y1 y2 y3))
  | 0 => ⟨fun _ _ _ _ _ r h => by simp [laws_FnIntegers.j0] at h, fun _ _ _ _ _ r h => by simp [laws_FnIntegers.j1] at h, fun _ _ _ _ r h => by simp [laws_FnIntegers.j2] at h⟩
  | k + 1 => by
    obtain ⟨ih0, ih1, ih2⟩ := laws_FnIntegers.mono_l k
    refine ⟨?_, ?_, ?_⟩
    · intro y0 y1 y2 y3 y4
      unfold laws_FnIntegers.j0
      repeat' first
      | (with_reducible exact ih0 _ _ _ _ _)
      | (with_reducible exact ih1 _ _ _ _ _)
      | (with_reducible exact ih2 _ _ _ _)
      | (with_reducible exact impl_FormatInt.mono _ _)
      | (with_reducible exact impl_Mod.mono _ _ _)
      | (with_reducible exact impl_ParseInt.mono _ _)
      | (with_reducible exact spec_DrawCeilDiv.mono _ _)
      | (with_reducible exact spec_DrawFormatInt.mono _ _)
      | (with_reducible exact spec_DrawParseInt.mono _ _)
      | (with_reducible exact LeO.refl _)
      | (with_reducible exact LeO.none _)
      | (with_reducible refine LeO.ite ?_ ?_)
      | (with_reducible refine LeO.bind ?_ (fun _ => ?_))
      | exact ih0 _ _ _ _ _
      | exact ih1 _ _ _ _ _
      | exact ih2 _ _ _ _
      | exact impl_FormatInt.mono _ _
      | exact impl_Mod.mono _ _ _
      | exact impl_ParseInt.mono _ _
      | exact spec_DrawCeilDiv.mono _ _
      | exact spec_DrawFormatInt.mono _ _
      | exact spec_DrawParseInt.mono _ _
      | exact LeO.none _
      | refine LeO.ite ?_ ?_
      | refine LeO.bind ?_ (fun _ => ?_)
    · intro y0 y1 y2 y3 y4
      unfold laws_FnIntegers.j1
      repeat' first
      | (with_reducible exact ih0 _ _ _ _ _)
      | (with_reducible exact ih1 _ _ _ _ _)
      | (with_reducible exact ih2 _ _ _ _)
      | (with_reducible exact impl_FormatInt.mono _ _)
      | (with_reducible exact impl_Mod.mono _ _ _)
      | (with_reducible exact impl_ParseInt.mono _ _)
      | (with_reducible exact spec_DrawCeilDiv.mono _ _)
      | (with_reducible exact spec_DrawFormatInt.mono _ _)
      | (with_reducible exact spec_DrawParseInt.mono _ _)
      | (with_reducible exact LeO.refl _)
      | (with_reducible exact LeO.none _)
      | (with_reducible refine LeO.ite ?_ ?_)
      | (with_reducible refine LeO.bind ?_ (fun _ => ?_))
      | exact ih0 _ _ _ _ _
      | exact ih1 _ _ _ _ _
      | exact ih2 _ _ _ _
      | exact impl_FormatInt.mono _ _
      | exact impl_Mod.mono _ _ _
      | exact impl_ParseInt.mono _ _
      | exact spec_DrawCeilDiv.mono _ _
      | exact spec_DrawFormatInt.mono _ _
      | exact spec_DrawParseInt.mono _ _
      | exact LeO.none _
      | refine LeO.ite ?_ ?_
      | refine LeO.bind ?_ (fun _ => ?_)
    · intro y0 y1 y2 y3
      unfold laws_FnIntegers.j2
      repeat' first
      | (with_reducible exact ih0 _ _ _ _ _)
      | (with_reducible exact ih1 _ _ _ _ _)
      | (with_reducible exact ih2 _ _ _ _)
      | (with_reducible exact impl_FormatInt.mono _ _)
      | (with_reducible exact impl_Mod.mono _ _ _)
      | (with_reducible exact impl_ParseInt.mono _ _)
      | (with_reducible exact spec_DrawCeilDiv.mono _ _)
      | (with_reducible exact spec_DrawFormatInt.mono _ _)
      | (with_reducible exact spec_DrawParseInt.mono _ _)
      | (with_reducible exact LeO.refl _)
      | (with_reducible exact LeO.none _)
      | (with_reducible refine LeO.ite ?_ ?_)
      | (with_reducible refine LeO.bind ?_ (fun _ => ?_))
      | exact ih0 _ _ _ _ _
      | exact ih1 _ _ _ _ _
      | exact ih2 _ _ _ _
      | exact impl_FormatInt.mono _ _
      | exact impl_Mod.mono _ _ _
      | exact impl_ParseInt.mono _ _
      | exact spec_DrawCeilDiv.mono _ _
      | exact spec_DrawFormatInt.mono _ _
      | exact spec_DrawParseInt.mono _ _
      | exact LeO.none _
      | refine LeO.ite ?_ ?_
      | refine LeO.bind ?_ (fun _ => ?_)
theorem laws_FnIntegers.mono : ∀ a0 k, LeO (laws_FnIntegers.f k a0) (laws_FnIntegers.f (k + 1) a0) := by
  intro a0 k
  obtain ⟨ih0, ih1, ih2⟩ := laws_FnIntegers.mono_l k
  unfold laws_FnIntegers.f
  repeat' first
      | (with_reducible exact ih0 _ _ _ _ _)
      | (with_reducible exact ih1 _ _ _ _ _)
      | (with_reducible exact ih2 _ _ _ _)
      | (with_reducible exact impl_FormatInt.mono _ _)
      | (with_reducible exact impl_Mod.mono _ _ _)
      | (with_reducible exact impl_ParseInt.mono _ _)
      | (with_reducible exact spec_DrawCeilDiv.mono _ _)
      | (with_reducible exact spec_DrawFormatInt.mono _ _)
      | (with_reducible exact spec_DrawParseInt.mono _ _)
      | (with_reducible exact LeO.refl _)
      | (with_reducible exact LeO.none _)
      | (with_reducible refine LeO.ite ?_ ?_)
      | (with_reducible refine LeO.bind ?_ (fun _ => ?_))
      | exact ih0 _ _ _ _ _
      | exact ih1 _ _ _ _ _
      | exact ih2 _ _ _ _
      | exact impl_FormatInt.mono _ _
      | exact impl_Mod.mono _ _ _
      | exact impl_ParseInt.mono _ _
      | exact spec_DrawCeilDiv.mono _ _
      | exact spec_DrawFormatInt.mono _ _
      | exact spec_DrawParseInt.mono _ _
      | exact LeO.none _
      | refine LeO.ite ?_ ?_
      | refine LeO.bind ?_ (fun _ => ?_)
set_option maxHeartbeats 8000000 in
set_option maxRecDepth 100000 in
theorem laws_FnIntegers.calls (k : Nat) (A0 : Option Addr) (c0 : Nat) (l0 : List Int) (r : Bool) (w : World) (hT : Tab w) (hE : Errs w) (hr0 : Kd.C (Kd.int .u8) w A0 l0.length l0) (hc0 : l0.length ≤ c0) (h : laws_FnIntegers.f k l0 = some r) :
    Calls Tryd.prog 5 #[.slice A0 l0.length c0] w fun e w' => e = .returned (.bool r) ∧ Below w.heap.size w w' := by
  have HT := Aside0.mk hT
  have HE := Aside0.mk hE
  clear hT hE
  have HR0 := Aside0.mk hr0
  have HC0 := Aside0.mk hc0
  clear hr0 hc0
  have HB := Aside0.mk (Below.refl w.heap.size w)
  have H : ((laws_big.f l0).bind fun t257 => (if t257 = true then (some true) else ((spec_DrawParseInt.f k l0).bind fun t258 => ((impl_ParseInt.f k t258).bind fun bt259 => ((spec_DrawFormatInt.f k l0).bind fun t261 => ((impl_FormatInt.f k t261).bind fun t262 => ((impl_ParseInt.f k t262).bind fun bt263 => ((spec_DrawCeilDiv.f k l0).bind fun bt265 => ((impl_CeilDiv.f bt265.1 bt265.2).bind fun t267 => ((impl_Mod.f k bt265.1 bt265.2).bind fun t268 => (if bt259.2 = true then ((impl_FormatInt.f k bt259.1).bind fun t269 => (if t269.toList = t258.toList then (if t261 ≥ 0 then (if (bt263.2 != (decide (t261 ≤ 1000000000000))) = true then (laws_FnIntegers.j0 k bt265.1 bt265.2 t267 t268 true) else (if bt263.2 = true then (laws_FnIntegers.j0 k bt265.1 bt265.2 t267 t268 (bt263.1 != t261)) else (laws_FnIntegers.j0 k bt265.1 bt265.2 t267 t268 false))) else (if (bt263.2 != false) = true then (laws_FnIntegers.j0 k bt265.1 bt265.2 t267 t268 true) else (if bt263.2 = true then (laws_FnIntegers.j0 k bt265.1 bt265.2 t267 t268 (bt263.1 != t261)) else (laws_FnIntegers.j0 k bt265.1 bt265.2 t267 t268 false)))) else (laws_FnIntegers.j0 k bt265.1 bt265.2 t267 t268 true))) else (if t261 ≥ 0 then (if (bt263.2 != (decide (t261 ≤ 1000000000000))) = true then (laws_FnIntegers.j0 k bt265.1 bt265.2 t267 t268 true) else (if bt263.2 = true then (laws_FnIntegers.j0 k bt265.1 bt265.2 t267 t268 (bt263.1 != t261)) else (laws_FnIntegers.j0 k bt265.1 bt265.2 t267 t268 false))) else (if (bt263.2 != false) = true then (laws_FnIntegers.j0 k bt265.1 bt265.2 t267 t268 true) else (if bt263.2 = true then (laws_FnIntegers.j0 k bt265.1 bt265.2 t267 t268 (bt263.1 != t261)) else (laws_FnIntegers.j0 k bt265.1 bt265.2 t267 t268 false))))))))))))))) = some r := h
  clear h
  replace H := Option.bind_eq_some_iff.mp H
  obtain ⟨t257, A20, H⟩ := H
  replace H : (if t257 = true then (some true) else ((spec_DrawParseInt.f k l0).bind fun t258 => ((impl_ParseInt.f k t258).bind fun bt259 => ((spec_DrawFormatInt.f k l0).bind fun t261 => ((impl_FormatInt.f k t261).bind fun t262 => ((impl_ParseInt.f k t262).bind fun bt263 => ((spec_DrawCeilDiv.f k l0).bind fun bt265 => ((impl_CeilDiv.f bt265.1 bt265.2).bind fun t267 => ((impl_Mod.f k bt265.1 bt265.2).bind fun t268 => (if bt259.2 = true then ((impl_FormatInt.f k bt259.1).bind fun t269 => (if t269.toList = t258.toList then (if t261 ≥ 0 then (if (bt263.2 != (decide (t261 ≤ 1000000000000))) = true then (laws_FnIntegers.j0 k bt265.1 bt265.2 t267 t268 true) else (if bt263.2 = true then (laws_FnIntegers.j0 k bt265.1 bt265.2 t267 t268 (bt263.1 != t261)) else (laws_FnIntegers.j0 k bt265.1 bt265.2 t267 t268 false))) else (if (bt263.2 != false) = true then (laws_FnIntegers.j0 k bt265.1 bt265.2 t267 t268 true) else (if bt263.2 = true then (laws_FnIntegers.j0 k bt265.1 bt265.2 t267 t268 (bt263.1 != t261)) else (laws_FnIntegers.j0 k bt265.1 bt265.2 t267 t268 false)))) else (laws_FnIntegers.j0 k bt265.1 bt265.2 t267 t268 true))) else (if t261 ≥ 0 then (if (bt263.2 != (decide (t261 ≤ 1000000000000))) = true then (laws_FnIntegers.j0 k bt265.1 bt265.2 t267 t268 true) else (if bt263.2 = true then (laws_FnIntegers.j0 k bt265.1 bt265.2 t267 t268 (bt263.1 != t261)) else (laws_FnIntegers.j0 k bt265.1 bt265.2 t267 t268 false))) else (if (bt263.2 != false) = true then (laws_FnIntegers.j0 k bt265.1 bt265.2 t267 t268 true) else (if bt263.2 = true then (laws_FnIntegers.j0 k bt265.1 bt265.2 t267 t268 (bt263.1 != t261)) else (laws_FnIntegers.j0 k bt265.1 bt265.2 t267 t268 false)))))))))))))) = some r := H
  have A2 := Aside0.mk A20
  clear A20
  by_cases c3 : t257 = true
  · subst c3
    have H1 : (some true) = some r := by rw [if_pos rfl] at H; exact H
    clear H
    have H := H1
    clear H1
    obtain rfl := Option.some.inj H
    go_enter Tryd.func5, Tryd.ntmps5
    go_wp2_with (first | ((with_reducible refine gate_callee (f := 10) rfl ?_); refine goesL_ (some 14) rfl rfl Tryd.func10 (by kernel_rfl) rfl #[.slice A0 l0.length c0] rfl (by (try simp only [List.map_toArray, List.map_cons, List.map_nil]); first | done | rfl | (simp only [List.length_drop, List.length_take]; rfl)) ?_; (with_reducible refine (laws_big.calls _ _ l0 true _ ?side1 ?side2 A2.out).mono ?_); (case side1 => repeat (first | exact HR0.out | (with_reducible refine Kd.C_alloc ?_ _) | (with_reducible refine Kd.C_drewN ?_ _) | (with_reducible refine Kd.C_drew ?_))); (case side2 => exact HC0.out); rintro e w' ⟨rfl, ⟨nd, rfl⟩⟩; refine ⟨_, rfl, ?_⟩))
    go_ret
    exact ⟨by first | rfl | (simp [errW_none, errW_some] <;> rfl) | (simp [*, errW_none, errW_some] <;> rfl), by repeat (first | (with_reducible first | exact HB.out | apply below_alloc | apply pw_below_drewN | apply below_drew1) | exact HB.out)⟩
  · replace c3 := Bool.eq_false_iff.mpr c3
    subst c3
    have H1 : ((spec_DrawParseInt.f k l0).bind fun t258 => ((impl_ParseInt.f k t258).bind fun bt259 => ((spec_DrawFormatInt.f k l0).bind fun t261 => ((impl_FormatInt.f k t261).bind fun t262 => ((impl_ParseInt.f k t262).bind fun bt263 => ((spec_DrawCeilDiv.f k l0).bind fun bt265 => ((impl_CeilDiv.f bt265.1 bt265.2).bind fun t267 => ((impl_Mod.f k bt265.1 bt265.2).bind fun t268 => (if bt259.2 = true then ((impl_FormatInt.f k bt259.1).bind fun t269 => (if t269.toList = t258.toList then (if t261 ≥ 0 then (if (bt263.2 != (decide (t261 ≤ 1000000000000))) = true then (laws_FnIntegers.j0 k bt265.1 bt265.2 t267 t268 true) else (if bt263.2 = true then (laws_FnIntegers.j0 k bt265.1 bt265.2 t267 t268 (bt263.1 != t261)) else (laws_FnIntegers.j0 k bt265.1 bt265.2 t267 t268 false))) else (if (bt263.2 != false) = true then (laws_FnIntegers.j0 k bt265.1 bt265.2 t267 t268 true) else (if bt263.2 = true then (laws_FnIntegers.j0 k bt265.1 bt265.2 t267 t268 (bt263.1 != t261)) else (laws_FnIntegers.j0 k bt265.1 bt265.2 t267 t268 false)))) else (laws_FnIntegers.j0 k bt265.1 bt265.2 t267 t268 true))) else (if t261 ≥ 0 then (if (bt263.2 != (decide (t261 ≤ 1000000000000))) = true then (laws_FnIntegers.j0 k bt265.1 bt265.2 t267 t268 true) else (if bt263.2 = true then (laws_FnIntegers.j0 k bt265.1 bt265.2 t267 t268 (bt263.1 != t261)) else (laws_FnIntegers.j0 k bt265.1 bt265.2 t267 t268 false))) else (if (bt263.2 != false) = true then (laws_FnIntegers.j0 k bt265.1 bt265.2 t267 t268 true) else (if bt263.2 = true then (laws_FnIntegers.j0 k bt265.1 bt265.2 t267 t268 (bt263.1 != t261)) else (laws_FnIntegers.j0 k bt265.1 bt265.2 t267 t268 false))))))))))))) = some r := by rw [if_neg (show ¬ (false = true) by decide)] at H; exact H
    clear H
    have H := H1
    clear H1
    replace H := Option.bind_eq_some_iff.mp H
    obtain ⟨t258, A40, H⟩ := H
    replace H : ((impl_ParseInt.f k t258).bind fun bt259 => ((spec_DrawFormatInt.f k l0).bind fun t261 => ((impl_FormatInt.f k t261).bind fun t262 => ((impl_ParseInt.f k t262).bind fun bt263 => ((spec_DrawCeilDiv.f k l0).bind fun bt265 => ((impl_CeilDiv.f bt265.1 bt265.2).bind fun t267 => ((impl_Mod.f k bt265.1 bt265.2).bind fun t268 => (if bt259.2 = true then ((impl_FormatInt.f k bt259.1).bind fun t269 => (if t269.toList = t258.toList then (if t261 ≥ 0 then (if (bt263.2 != (decide (t261 ≤ 1000000000000))) = true then (laws_FnIntegers.j0 k bt265.1 bt265.2 t267 t268 true) else (if bt263.2 = true then (laws_FnIntegers.j0 k bt265.1 bt265.2 t267 t268 (bt263.1 != t261)) else (laws_FnIntegers.j0 k bt265.1 bt265.2 t267 t268 false))) else (if (bt263.2 != false) = true then (laws_FnIntegers.j0 k bt265.1 bt265.2 t267 t268 true) else (if bt263.2 = true then (laws_FnIntegers.j0 k bt265.1 bt265.2 t267 t268 (bt263.1 != t261)) else (laws_FnIntegers.j0 k bt265.1 bt265.2 t267 t268 false)))) else (laws_FnIntegers.j0 k bt265.1 bt265.2 t267 t268 true))) else (if t261 ≥ 0 then (if (bt263.2 != (decide (t261 ≤ 1000000000000))) = true then (laws_FnIntegers.j0 k bt265.1 bt265.2 t267 t268 true) else (if bt263.2 = true then (laws_FnIntegers.j0 k bt265.1 bt265.2 t267 t268 (bt263.1 != t261)) else (laws_FnIntegers.j0 k bt265.1 bt265.2 t267 t268 false))) else (if (bt263.2 != false) = true then (laws_FnIntegers.j0 k bt265.1 bt265.2 t267 t268 true) else (if bt263.2 = true then (laws_FnIntegers.j0 k bt265.1 bt265.2 t267 t268 (bt263.1 != t261)) else (laws_FnIntegers.j0 k bt265.1 bt265.2 t267 t268 false)))))))))))) = some r := H
    have A4 := Aside0.mk A40
    clear A40
    replace H := Option.bind_eq_some_iff.mp H
    obtain ⟨⟨t259, t260⟩, A50, H⟩ := H
    replace H : ((spec_DrawFormatInt.f k l0).bind fun t261 => ((impl_FormatInt.f k t261).bind fun t262 => ((impl_ParseInt.f k t262).bind fun bt263 => ((spec_DrawCeilDiv.f k l0).bind fun bt265 => ((impl_CeilDiv.f bt265.1 bt265.2).bind fun t267 => ((impl_Mod.f k bt265.1 bt265.2).bind fun t268 => (if t260 = true then ((impl_FormatInt.f k t259).bind fun t269 => (if t269.toList = t258.toList then (if t261 ≥ 0 then (if (bt263.2 != (decide (t261 ≤ 1000000000000))) = true then (laws_FnIntegers.j0 k bt265.1 bt265.2 t267 t268 true) else (if bt263.2 = true then (laws_FnIntegers.j0 k bt265.1 bt265.2 t267 t268 (bt263.1 != t261)) else (laws_FnIntegers.j0 k bt265.1 bt265.2 t267 t268 false))) else (if (bt263.2 != false) = true then (laws_FnIntegers.j0 k bt265.1 bt265.2 t267 t268 true) else (if bt263.2 = true then (laws_FnIntegers.j0 k bt265.1 bt265.2 t267 t268 (bt263.1 != t261)) else (laws_FnIntegers.j0 k bt265.1 bt265.2 t267 t268 false)))) else (laws_FnIntegers.j0 k bt265.1 bt265.2 t267 t268 true))) else (if t261 ≥ 0 then (if (bt263.2 != (decide (t261 ≤ 1000000000000))) = true then (laws_FnIntegers.j0 k bt265.1 bt265.2 t267 t268 true) else (if bt263.2 = true then (laws_FnIntegers.j0 k bt265.1 bt265.2 t267 t268 (bt263.1 != t261)) else (laws_FnIntegers.j0 k bt265.1 bt265.2 t267 t268 false))) else (if (bt263.2 != false) = true then (laws_FnIntegers.j0 k bt265.1 bt265.2 t267 t268 true) else (if bt263.2 = true then (laws_FnIntegers.j0 k bt265.1 bt265.2 t267 t268 (bt263.1 != t261)) else (laws_FnIntegers.j0 k bt265.1 bt265.2 t267 t268 false))))))))))) = some r := H
    have A5 := Aside0.mk A50
    clear A50
    replace H := Option.bind_eq_some_iff.mp H
    obtain ⟨t261, A60, H⟩ := H
    replace H : ((impl_FormatInt.f k t261).bind fun t262 => ((impl_ParseInt.f k t262).bind fun bt263 => ((spec_DrawCeilDiv.f k l0).bind fun bt265 => ((impl_CeilDiv.f bt265.1 bt265.2).bind fun t267 => ((impl_Mod.f k bt265.1 bt265.2).bind fun t268 => (if t260 = true then ((impl_FormatInt.f k t259).bind fun t269 => (if t269.toList = t258.toList then (if t261 ≥ 0 then (if (bt263.2 != (decide (t261 ≤ 1000000000000))) = true then (laws_FnIntegers.j0 k bt265.1 bt265.2 t267 t268 true) else (if bt263.2 = true then (laws_FnIntegers.j0 k bt265.1 bt265.2 t267 t268 (bt263.1 != t261)) else (laws_FnIntegers.j0 k bt265.1 bt265.2 t267 t268 false))) else (if (bt263.2 != false) = true then (laws_FnIntegers.j0 k bt265.1 bt265.2 t267 t268 true) else (if bt263.2 = true then (laws_FnIntegers.j0 k bt265.1 bt265.2 t267 t268 (bt263.1 != t261)) else (laws_FnIntegers.j0 k bt265.1 bt265.2 t267 t268 false)))) else (laws_FnIntegers.j0 k bt265.1 bt265.2 t267 t268 true))) else (if t261 ≥ 0 then (if (bt263.2 != (decide (t261 ≤ 1000000000000))) = true then (laws_FnIntegers.j0 k bt265.1 bt265.2 t267 t268 true) else (if bt263.2 = true then (laws_FnIntegers.j0 k bt265.1 bt265.2 t267 t268 (bt263.1 != t261)) else (laws_FnIntegers.j0 k bt265.1 bt265.2 t267 t268 false))) else (if (bt263.2 != false) = true then (laws_FnIntegers.j0 k bt265.1 bt265.2 t267 t268 true) else (if bt263.2 = true then (laws_FnIntegers.j0 k bt265.1 bt265.2 t267 t268 (bt263.1 != t261)) else (laws_FnIntegers.j0 k bt265.1 bt265.2 t267 t268 false)))))))))) = some r := H
    have A6 := Aside0.mk A60
    clear A60
    replace H := Option.bind_eq_some_iff.mp H
    obtain ⟨t262, A70, H⟩ := H
    replace H : ((impl_ParseInt.f k t262).bind fun bt263 => ((spec_DrawCeilDiv.f k l0).bind fun bt265 => ((impl_CeilDiv.f bt265.1 bt265.2).bind fun t267 => ((impl_Mod.f k bt265.1 bt265.2).bind fun t268 => (if t260 = true then ((impl_FormatInt.f k t259).bind fun t269 => (if t269.toList = t258.toList then (if t261 ≥ 0 then (if (bt263.2 != (decide (t261 ≤ 1000000000000))) = true then (laws_FnIntegers.j0 k bt265.1 bt265.2 t267 t268 true) else (if bt263.2 = true then (laws_FnIntegers.j0 k bt265.1 bt265.2 t267 t268 (bt263.1 != t261)) else (laws_FnIntegers.j0 k bt265.1 bt265.2 t267 t268 false))) else (if (bt263.2 != false) = true then (laws_FnIntegers.j0 k bt265.1 bt265.2 t267 t268 true) else (if bt263.2 = true then (laws_FnIntegers.j0 k bt265.1 bt265.2 t267 t268 (bt263.1 != t261)) else (laws_FnIntegers.j0 k bt265.1 bt265.2 t267 t268 false)))) else (laws_FnIntegers.j0 k bt265.1 bt265.2 t267 t268 true))) else (if t261 ≥ 0 then (if (bt263.2 != (decide (t261 ≤ 1000000000000))) = true then (laws_FnIntegers.j0 k bt265.1 bt265.2 t267 t268 true) else (if bt263.2 = true then (laws_FnIntegers.j0 k bt265.1 bt265.2 t267 t268 (bt263.1 != t261)) else (laws_FnIntegers.j0 k bt265.1 bt265.2 t267 t268 false))) else (if (bt263.2 != false) = true then (laws_FnIntegers.j0 k bt265.1 bt265.2 t267 t268 true) else (if bt263.2 = true then (laws_FnIntegers.j0 k bt265.1 bt265.2 t267 t268 (bt263.1 != t261)) else (laws_FnIntegers.j0 k bt265.1 bt265.2 t267 t268 false))))))))) = some r := H
    have A7 := Aside0.mk A70
    clear A70
    replace H := Option.bind_eq_some_iff.mp H
    obtain ⟨⟨t263, t264⟩, A80, H⟩ := H
    replace H : ((spec_DrawCeilDiv.f k l0).bind fun bt265 => ((impl_CeilDiv.f bt265.1 bt265.2).bind fun t267 => ((impl_Mod.f k bt265.1 bt265.2).bind fun t268 => (if t260 = true then ((impl_FormatInt.f k t259).bind fun t269 => (if t269.toList = t258.toList then (if t261 ≥ 0 then (if (t264 != (decide (t261 ≤ 1000000000000))) = true then (laws_FnIntegers.j0 k bt265.1 bt265.2 t267 t268 true) else (if t264 = true then (laws_FnIntegers.j0 k bt265.1 bt265.2 t267 t268 (t263 != t261)) else (laws_FnIntegers.j0 k bt265.1 bt265.2 t267 t268 false))) else (if (t264 != false) = true then (laws_FnIntegers.j0 k bt265.1 bt265.2 t267 t268 true) else (if t264 = true then (laws_FnIntegers.j0 k bt265.1 bt265.2 t267 t268 (t263 != t261)) else (laws_FnIntegers.j0 k bt265.1 bt265.2 t267 t268 false)))) else (laws_FnIntegers.j0 k bt265.1 bt265.2 t267 t268 true))) else (if t261 ≥ 0 then (if (t264 != (decide (t261 ≤ 1000000000000))) = true then (laws_FnIntegers.j0 k bt265.1 bt265.2 t267 t268 true) else (if t264 = true then (laws_FnIntegers.j0 k bt265.1 bt265.2 t267 t268 (t263 != t261)) else (laws_FnIntegers.j0 k bt265.1 bt265.2 t267 t268 false))) else (if (t264 != false) = true then (laws_FnIntegers.j0 k bt265.1 bt265.2 t267 t268 true) else (if t264 = true then (laws_FnIntegers.j0 k bt265.1 bt265.2 t267 t268 (t263 != t261)) else (laws_FnIntegers.j0 k bt265.1 bt265.2 t267 t268 false)))))))) = some r := H
    have A8 := Aside0.mk A80
    clear A80
    replace H := Option.bind_eq_some_iff.mp H
    obtain ⟨⟨t265, t266⟩, A90, H⟩ := H
    replace H : ((impl_CeilDiv.f t265 t266).bind fun t267 => ((impl_Mod.f k t265 t266).bind fun t268 => (if t260 = true then ((impl_FormatInt.f k t259).bind fun t269 => (if t269.toList = t258.toList then (if t261 ≥ 0 then (if (t264 != (decide (t261 ≤ 1000000000000))) = true then (laws_FnIntegers.j0 k t265 t266 t267 t268 true) else (if t264 = true then (laws_FnIntegers.j0 k t265 t266 t267 t268 (t263 != t261)) else (laws_FnIntegers.j0 k t265 t266 t267 t268 false))) else (if (t264 != false) = true then (laws_FnIntegers.j0 k t265 t266 t267 t268 true) else (if t264 = true then (laws_FnIntegers.j0 k t265 t266 t267 t268 (t263 != t261)) else (laws_FnIntegers.j0 k t265 t266 t267 t268 false)))) else (laws_FnIntegers.j0 k t265 t266 t267 t268 true))) else (if t261 ≥ 0 then (if (t264 != (decide (t261 ≤ 1000000000000))) = true then (laws_FnIntegers.j0 k t265 t266 t267 t268 true) else (if t264 = true then (laws_FnIntegers.j0 k t265 t266 t267 t268 (t263 != t261)) else (laws_FnIntegers.j0 k t265 t266 t267 t268 false))) else (if (t264 != false) = true then (laws_FnIntegers.j0 k t265 t266 t267 t268 true) else (if t264 = true then (laws_FnIntegers.j0 k t265 t266 t267 t268 (t263 != t261)) else (laws_FnIntegers.j0 k t265 t266 t267 t268 false))))))) = some r := H
    have A9 := Aside0.mk A90
    clear A90
    replace H := Option.bind_eq_some_iff.mp H
    obtain ⟨t267, A100, H⟩ := H
    replace H : ((impl_Mod.f k t265 t266).bind fun t268 => (if t260 = true then ((impl_FormatInt.f k t259).bind fun t269 => (if t269.toList = t258.toList then (if t261 ≥ 0 then (if (t264 != (decide (t261 ≤ 1000000000000))) = true then (laws_FnIntegers.j0 k t265 t266 t267 t268 true) else (if t264 = true then (laws_FnIntegers.j0 k t265 t266 t267 t268 (t263 != t261)) else (laws_FnIntegers.j0 k t265 t266 t267 t268 false))) else (if (t264 != false) = true then (laws_FnIntegers.j0 k t265 t266 t267 t268 true) else (if t264 = true then (laws_FnIntegers.j0 k t265 t266 t267 t268 (t263 != t261)) else (laws_FnIntegers.j0 k t265 t266 t267 t268 false)))) else (laws_FnIntegers.j0 k t265 t266 t267 t268 true))) else (if t261 ≥ 0 then (if (t264 != (decide (t261 ≤ 1000000000000))) = true then (laws_FnIntegers.j0 k t265 t266 t267 t268 true) else (if t264 = true then (laws_FnIntegers.j0 k t265 t266 t267 t268 (t263 != t261)) else (laws_FnIntegers.j0 k t265 t266 t267 t268 false))) else (if (t264 != false) = true then (laws_FnIntegers.j0 k t265 t266 t267 t268 true) else (if t264 = true then (laws_FnIntegers.j0 k t265 t266 t267 t268 (t263 != t261)) else (laws_FnIntegers.j0 k t265 t266 t267 t268 false)))))) = some r := H
    have A10 := Aside0.mk A100
    clear A100
    replace H := Option.bind_eq_some_iff.mp H
    obtain ⟨t268, A110, H⟩ := H
    replace H : (if t260 = true then ((impl_FormatInt.f k t259).bind fun t269 => (if t269.toList = t258.toList then (if t261 ≥ 0 then (if (t264 != (decide (t261 ≤ 1000000000000))) = true then (laws_FnIntegers.j0 k t265 t266 t267 t268 true) else (if t264 = true then (laws_FnIntegers.j0 k t265 t266 t267 t268 (t263 != t261)) else (laws_FnIntegers.j0 k t265 t266 t267 t268 false))) else (if (t264 != false) = true then (laws_FnIntegers.j0 k t265 t266 t267 t268 true) else (if t264 = true then (laws_FnIntegers.j0 k t265 t266 t267 t268 (t263 != t261)) else (laws_FnIntegers.j0 k t265 t266 t267 t268 false)))) else (laws_FnIntegers.j0 k t265 t266 t267 t268 true))) else (if t261 ≥ 0 then (if (t264 != (decide (t261 ≤ 1000000000000))) = true then (laws_FnIntegers.j0 k t265 t266 t267 t268 true) else (if t264 = true then (laws_FnIntegers.j0 k t265 t266 t267 t268 (t263 != t261)) else (laws_FnIntegers.j0 k t265 t266 t267 t268 false))) else (if (t264 != false) = true then (laws_FnIntegers.j0 k t265 t266 t267 t268 true) else (if t264 = true then (laws_FnIntegers.j0 k t265 t266 t267 t268 (t263 != t261)) else (laws_FnIntegers.j0 k t265 t266 t267 t268 false))))) = some r := H
    have A11 := Aside0.mk A110
    clear A110
    have HC12 := Aside0.mk H
    clear H
    go_enter Tryd.func5, Tryd.ntmps5
    go_upto_region 10 with (first | ((with_reducible refine gate_callee (f := 10) rfl ?_); refine goesL_ (some 14) rfl rfl Tryd.func10 (by kernel_rfl) rfl #[.slice A0 l0.length c0] rfl (by (try simp only [List.map_toArray, List.map_cons, List.map_nil]); first | done | rfl | (simp only [List.length_drop, List.length_take]; rfl)) ?_; (with_reducible refine (laws_big.calls _ _ l0 false _ ?side1 ?side2 A2.out).mono ?_); (case side1 => repeat (first | exact HR0.out | (with_reducible refine Kd.C_alloc ?_ _) | (with_reducible refine Kd.C_drewN ?_ _) | (with_reducible refine Kd.C_drew ?_))); (case side2 => exact HC0.out); rintro e w' ⟨rfl, ⟨nd, rfl⟩⟩; refine ⟨_, rfl, ?_⟩) | ((with_reducible refine gate_callee (f := 11) rfl ?_); refine goesL_ (some 16) rfl rfl Tryd.func11 (by kernel_rfl) rfl #[.slice A0 l0.length c0] rfl (by (try simp only [List.map_toArray, List.map_cons, List.map_nil]); first | done | rfl | (simp only [List.length_drop, List.length_take]; rfl)) ?_; (with_reducible refine (spec_DrawParseInt.calls k _ _ l0 t258 _ ?side1 ?side2 A4.out).mono ?_); (case side1 => repeat (first | exact HR0.out | (with_reducible refine Kd.C_alloc ?_ _) | (with_reducible refine Kd.C_drewN ?_ _) | (with_reducible refine Kd.C_drew ?_))); (case side2 => exact HC0.out); rintro e w13 ⟨rfl, hb⟩; refine ⟨_, rfl, ?_⟩; have n0_ := Aside0.mk (below_step (by repeat (first | (with_reducible first | exact HB.out | apply below_alloc | apply pw_below_drewN | apply below_drew1) | exact HB.out)) hb); clear HB; have HB := n0_; clear n0_; (try clear hb); (try clear hb2); (try clear hk); (try clear hi)) | ((with_reducible refine gate_callee (f := 9) rfl ?_); refine goesL_ (some 19) rfl rfl Tryd.func9 (by kernel_rfl) rfl #[.string t258] rfl (by (try simp only [List.map_toArray, List.map_cons, List.map_nil]); first | done | rfl | (simp only [List.length_drop, List.length_take]; rfl)) ?_; (with_reducible refine (impl_ParseInt.calls k t258 t259 t260 _ (HT.out.on (by repeat (first | (with_reducible first | exact HB.out | apply below_alloc | apply pw_below_drewN | apply below_drew1) | exact HB.out)) (Nat.le_refl _)) (HE.out.on (by repeat (first | (with_reducible first | exact HB.out | apply below_alloc | apply pw_below_drewN | apply below_drew1) | exact HB.out)) (Nat.le_refl _)) A5.out).mono ?_); rintro e w14 ⟨rfl, hb⟩; refine ⟨_, rfl, ?_⟩; have n0_ := Aside0.mk (below_step (by repeat (first | (with_reducible first | exact HB.out | apply below_alloc | apply pw_below_drewN | apply below_drew1) | exact HB.out)) hb); clear HB; have HB := n0_; clear n0_; (try clear hb); (try clear hb2); (try clear hk); (try clear hi)) | ((with_reducible refine gate_callee (f := 12) rfl ?_); refine goesL_ (some 23) rfl rfl Tryd.func12 (by kernel_rfl) rfl #[.slice A0 l0.length c0] rfl (by (try simp only [List.map_toArray, List.map_cons, List.map_nil]); first | done | rfl | (simp only [List.length_drop, List.length_take]; rfl)) ?_; (with_reducible refine (spec_DrawFormatInt.calls k _ _ l0 t261 _ ?side1 ?side2 A6.out).mono ?_); (case side1 => repeat (first | exact (Kd.C_below HR0.out HB.out) | (with_reducible refine Kd.C_alloc ?_ _) | (with_reducible refine Kd.C_drewN ?_ _) | (with_reducible refine Kd.C_drew ?_))); (case side2 => exact HC0.out); rintro e w15 ⟨rfl, hb⟩; refine ⟨_, rfl, ?_⟩; have n0_ := Aside0.mk (below_step (by repeat (first | (with_reducible first | exact HB.out | apply below_alloc | apply pw_below_drewN | apply below_drew1) | exact HB.out)) hb); clear HB; have HB := n0_; clear n0_; (try clear hb); (try clear hb2); (try clear hk); (try clear hi)) | ((with_reducible refine gate_callee (f := 7) rfl ?_); refine goesL_ (some 26) rfl rfl Tryd.func7 (by kernel_rfl) rfl #[.int .i64 t261] rfl (by (try simp only [List.map_toArray, List.map_cons, List.map_nil]); first | done | rfl | (simp only [List.length_drop, List.length_take]; rfl)) ?_; (with_reducible refine (impl_FormatInt.calls k t261 t262 _ (HT.out.on (by repeat (first | (with_reducible first | exact HB.out | apply below_alloc | apply pw_below_drewN | apply below_drew1) | exact HB.out)) (Nat.le_refl _)) A7.out).mono ?_); rintro e w16 ⟨rfl, hb⟩; refine ⟨_, rfl, ?_⟩; have n0_ := Aside0.mk (below_step (by repeat (first | (with_reducible first | exact HB.out | apply below_alloc | apply pw_below_drewN | apply below_drew1) | exact HB.out)) hb); clear HB; have HB := n0_; clear n0_; (try clear hb); (try clear hb2); (try clear hk); (try clear hi)) | ((with_reducible refine gate_callee (f := 9) rfl ?_); refine goesL_ (some 27) rfl rfl Tryd.func9 (by kernel_rfl) rfl #[.string t262] rfl (by (try simp only [List.map_toArray, List.map_cons, List.map_nil]); first | done | rfl | (simp only [List.length_drop, List.length_take]; rfl)) ?_; (with_reducible refine (impl_ParseInt.calls k t262 t263 t264 _ (HT.out.on (by repeat (first | (with_reducible first | exact HB.out | apply below_alloc | apply pw_below_drewN | apply below_drew1) | exact HB.out)) (Nat.le_refl _)) (HE.out.on (by repeat (first | (with_reducible first | exact HB.out | apply below_alloc | apply pw_below_drewN | apply below_drew1) | exact HB.out)) (Nat.le_refl _)) A8.out).mono ?_); rintro e w17 ⟨rfl, hb⟩; refine ⟨_, rfl, ?_⟩; have n0_ := Aside0.mk (below_step (by repeat (first | (with_reducible first | exact HB.out | apply below_alloc | apply pw_below_drewN | apply below_drew1) | exact HB.out)) hb); clear HB; have HB := n0_; clear n0_; (try clear hb); (try clear hb2); (try clear hk); (try clear hi)) | ((with_reducible refine gate_callee (f := 13) rfl ?_); refine goesL_ (some 32) rfl rfl Tryd.func13 (by kernel_rfl) rfl #[.slice A0 l0.length c0] rfl (by (try simp only [List.map_toArray, List.map_cons, List.map_nil]); first | done | rfl | (simp only [List.length_drop, List.length_take]; rfl)) ?_; (with_reducible refine (spec_DrawCeilDiv.calls k _ _ l0 t265 t266 _ ?side1 ?side2 A9.out).mono ?_); (case side1 => repeat (first | exact (Kd.C_below HR0.out HB.out) | (with_reducible refine Kd.C_alloc ?_ _) | (with_reducible refine Kd.C_drewN ?_ _) | (with_reducible refine Kd.C_drew ?_))); (case side2 => exact HC0.out); rintro e w18 ⟨rfl, hb⟩; refine ⟨_, rfl, ?_⟩; have n0_ := Aside0.mk (below_step (by repeat (first | (with_reducible first | exact HB.out | apply below_alloc | apply pw_below_drewN | apply below_drew1) | exact HB.out)) hb); clear HB; have HB := n0_; clear n0_; (try clear hb); (try clear hb2); (try clear hk); (try clear hi)) | ((with_reducible refine gate_callee (f := 14) rfl ?_); refine goesL_ (some 37) rfl rfl Tryd.func14 (by kernel_rfl) rfl #[.int .i64 t265, .int .i64 t266] rfl (by (try simp only [List.map_toArray, List.map_cons, List.map_nil]); first | done | rfl | (simp only [List.length_drop, List.length_take]; rfl)) ?_; (with_reducible refine (impl_CeilDiv.calls t265 t266 t267 _ A10.out).mono ?_); rintro e w' ⟨rfl, ⟨nd, rfl⟩⟩; refine ⟨_, rfl, ?_⟩) | ((with_reducible refine gate_callee (f := 15) rfl ?_); refine goesL_ (some 40) rfl rfl Tryd.func15 (by kernel_rfl) rfl #[.int .i64 t265, .int .i64 t266] rfl (by (try simp only [List.map_toArray, List.map_cons, List.map_nil]); first | done | rfl | (simp only [List.length_drop, List.length_take]; rfl)) ?_; (with_reducible refine (impl_Mod.calls k t265 t266 t268 _ A11.out).mono ?_); rintro e w' ⟨rfl, ⟨nd, rfl⟩⟩; refine ⟨_, rfl, ?_⟩))
    (try simp only [Act.put, List.setIfInBounds_toArray, List.set_cons_zero, List.set_cons_succ])
    go_cut [65] (fun v65 wc => ∃ (kq : Nat) (x65_11 : Bool), v65 = .bool x65_11 ∧ Aside0 (laws_FnIntegers.j0 kq t265 t266 t267 t268 x65_11 = some r) ∧ Aside0 (kq ≤ k) ∧ Aside0 (Below w.heap.size w wc))
    case first =>
      have H := HC12.out
      clear HC12
      by_cases c19 : t260 = true
      · subst c19
        have H1 : ((impl_FormatInt.f k t259).bind fun t269 => (if t269.toList = t258.toList then (if t261 ≥ 0 then (if (t264 != (decide (t261 ≤ 1000000000000))) = true then (laws_FnIntegers.j0 k t265 t266 t267 t268 true) else (if t264 = true then (laws_FnIntegers.j0 k t265 t266 t267 t268 (t263 != t261)) else (laws_FnIntegers.j0 k t265 t266 t267 t268 false))) else (if (t264 != false) = true then (laws_FnIntegers.j0 k t265 t266 t267 t268 true) else (if t264 = true then (laws_FnIntegers.j0 k t265 t266 t267 t268 (t263 != t261)) else (laws_FnIntegers.j0 k t265 t266 t267 t268 false)))) else (laws_FnIntegers.j0 k t265 t266 t267 t268 true))) = some r := by rw [if_pos rfl] at H; exact H
        clear H
        have H := H1
        clear H1
        replace H := Option.bind_eq_some_iff.mp H
        obtain ⟨t269, A200, H⟩ := H
        replace H : (if t269.toList = t258.toList then (if t261 ≥ 0 then (if (t264 != (decide (t261 ≤ 1000000000000))) = true then (laws_FnIntegers.j0 k t265 t266 t267 t268 true) else (if t264 = true then (laws_FnIntegers.j0 k t265 t266 t267 t268 (t263 != t261)) else (laws_FnIntegers.j0 k t265 t266 t267 t268 false))) else (if (t264 != false) = true then (laws_FnIntegers.j0 k t265 t266 t267 t268 true) else (if t264 = true then (laws_FnIntegers.j0 k t265 t266 t267 t268 (t263 != t261)) else (laws_FnIntegers.j0 k t265 t266 t267 t268 false)))) else (laws_FnIntegers.j0 k t265 t266 t267 t268 true)) = some r := H
        have A20 := Aside0.mk A200
        clear A200
        by_cases c21 : t269.toList = t258.toList
        · rw [if_pos c21] at H
          have c21b0 : (t269.toList == t258.toList) = true := beq_iff_eq.mpr c21
          have c21b1 : (t269.toList != t258.toList) = false := bne_eq_false_iff_eq.mpr c21
          clear c21
          (first | rw [c21b0] | (simp only [i64_w, i32_w]; rw [c21b0]) | skip)
          by_cases c22 : t261 ≥ 0
          · rw [if_pos c22] at H
            have c22b0 : decide (0 ≤ t261) = true := decide_eq_true c22
            clear c22
            by_cases c23 : (t264 != (decide (t261 ≤ 1000000000000))) = true
            · rw [if_pos c23] at H
              have c23b0 : (t264 != (decide (t261 ≤ 1000000000000))) = true := c23
              (try (have c23b1 : decide (t264 = (decide (t261 ≤ 1000000000000))) = false := by simpa using c23))
              (try (have c23b2 : (t264 == (decide (t261 ≤ 1000000000000))) = false := by simpa using c23))
              (try (have c23b3 : ¬ (t264 = (decide (t261 ≤ 1000000000000))) := by simpa using c23))
              clear c23
              have H' := Aside0.mk H
              clear H
              go_wp2_with (first | (go_at_call 7; (with_reducible refine (impl_FormatInt.calls k t259 t269 _ (HT.out.on (by repeat (first | (with_reducible first | exact HB.out | apply below_alloc | apply pw_below_drewN | apply below_drew1) | exact HB.out)) (Nat.le_refl _)) A20.out).mono ?_); rintro e w24 ⟨rfl, hb⟩; have n0_ := Aside0.mk (below_step (by repeat (first | (with_reducible first | exact HB.out | apply below_alloc | apply pw_below_drewN | apply below_drew1) | exact HB.out)) hb); clear HB; have HB := n0_; clear n0_; (try clear hb); (try clear hb2); (try clear hk); (try clear hi)))
              go_meet
              case rel => exact ⟨_, (true), (by first | rfl | (simp; done) | (simp [*]; done)), H', ⟨by first | omega | exact Nat.le_refl _⟩, ⟨by repeat (first | (with_reducible first | exact HB.out | apply below_alloc | apply pw_below_drewN | apply below_drew1) | exact HB.out)⟩⟩
            · rw [if_neg c23] at H
              have c23b0 : (t264 != (decide (t261 ≤ 1000000000000))) = false := by simpa using c23
              (try (have c23b1 : decide (t264 = (decide (t261 ≤ 1000000000000))) = true := by simpa using c23))
              (try (have c23b2 : (t264 == (decide (t261 ≤ 1000000000000))) = true := by simpa using c23))
              clear c23
              by_cases c25 : t264 = true
              · subst c25
                have H1 : (laws_FnIntegers.j0 k t265 t266 t267 t268 (t263 != t261)) = some r := by rw [if_pos rfl] at H; exact H
                clear H
                have H := H1
                clear H1
                have H' := Aside0.mk H
                clear H
                go_wp2_with (first | (go_at_call 7; (with_reducible refine (impl_FormatInt.calls k t259 t269 _ (HT.out.on (by repeat (first | (with_reducible first | exact HB.out | apply below_alloc | apply pw_below_drewN | apply below_drew1) | exact HB.out)) (Nat.le_refl _)) A20.out).mono ?_); rintro e w26 ⟨rfl, hb⟩; have n0_ := Aside0.mk (below_step (by repeat (first | (with_reducible first | exact HB.out | apply below_alloc | apply pw_below_drewN | apply below_drew1) | exact HB.out)) hb); clear HB; have HB := n0_; clear n0_; (try clear hb); (try clear hb2); (try clear hk); (try clear hi)))
                go_meet
                case rel => exact ⟨_, ((t263 != t261)), (by first | rfl | (simp; done) | (simp [*]; done)), H', ⟨by first | omega | exact Nat.le_refl _⟩, ⟨by repeat (first | (with_reducible first | exact HB.out | apply below_alloc | apply pw_below_drewN | apply below_drew1) | exact HB.out)⟩⟩
              · replace c25 := Bool.eq_false_iff.mpr c25
                subst c25
                have H1 : (laws_FnIntegers.j0 k t265 t266 t267 t268 false) = some r := by rw [if_neg (show ¬ (false = true) by decide)] at H; exact H
                clear H
                have H := H1
                clear H1
                have H' := Aside0.mk H
                clear H
                go_wp2_with (first | (go_at_call 7; (with_reducible refine (impl_FormatInt.calls k t259 t269 _ (HT.out.on (by repeat (first | (with_reducible first | exact HB.out | apply below_alloc | apply pw_below_drewN | apply below_drew1) | exact HB.out)) (Nat.le_refl _)) A20.out).mono ?_); rintro e w27 ⟨rfl, hb⟩; have n0_ := Aside0.mk (below_step (by repeat (first | (with_reducible first | exact HB.out | apply below_alloc | apply pw_below_drewN | apply below_drew1) | exact HB.out)) hb); clear HB; have HB := n0_; clear n0_; (try clear hb); (try clear hb2); (try clear hk); (try clear hi)))
                go_meet
                case rel => exact ⟨_, (false), (by first | rfl | (simp; done) | (simp [*]; done)), H', ⟨by first | omega | exact Nat.le_refl _⟩, ⟨by repeat (first | (with_reducible first | exact HB.out | apply below_alloc | apply pw_below_drewN | apply below_drew1) | exact HB.out)⟩⟩
          · rw [if_neg c22] at H
            have c22b0 : decide (0 ≤ t261) = false := decide_eq_false c22
            clear c22
            by_cases c28 : (t264 != false) = true
            · rw [if_pos c28] at H
              have c28b0 : (t264 != false) = true := c28
              obtain rfl : t264 = true := by simpa using c28
              (try (have c28b1 : decide (t264 = false) = false := by simpa using c28))
              (try (have c28b2 : (t264 == false) = false := by simpa using c28))
              (try (have c28b3 : ¬ (t264 = false) := by simpa using c28))
              clear c28
              have H' := Aside0.mk H
              clear H
              go_wp2_with (first | (go_at_call 7; (with_reducible refine (impl_FormatInt.calls k t259 t269 _ (HT.out.on (by repeat (first | (with_reducible first | exact HB.out | apply below_alloc | apply pw_below_drewN | apply below_drew1) | exact HB.out)) (Nat.le_refl _)) A20.out).mono ?_); rintro e w29 ⟨rfl, hb⟩; have n0_ := Aside0.mk (below_step (by repeat (first | (with_reducible first | exact HB.out | apply below_alloc | apply pw_below_drewN | apply below_drew1) | exact HB.out)) hb); clear HB; have HB := n0_; clear n0_; (try clear hb); (try clear hb2); (try clear hk); (try clear hi)))
              go_meet
              case rel => exact ⟨_, (true), (by first | rfl | (simp; done) | (simp [*]; done)), H', ⟨by first | omega | exact Nat.le_refl _⟩, ⟨by repeat (first | (with_reducible first | exact HB.out | apply below_alloc | apply pw_below_drewN | apply below_drew1) | exact HB.out)⟩⟩
            · rw [if_neg c28] at H
              have c28b0 : (t264 != false) = false := by simpa using c28
              (try (have c28b1 : decide (t264 = false) = true := by simpa using c28))
              (try (have c28b2 : (t264 == false) = true := by simpa using c28))
              clear c28
              by_cases c30 : t264 = true
              · subst c30
                have H1 : (laws_FnIntegers.j0 k t265 t266 t267 t268 (t263 != t261)) = some r := by rw [if_pos rfl] at H; exact H
                clear H
                have H := H1
                clear H1
                have H' := Aside0.mk H
                clear H
                go_wp2_with (first | (go_at_call 7; (with_reducible refine (impl_FormatInt.calls k t259 t269 _ (HT.out.on (by repeat (first | (with_reducible first | exact HB.out | apply below_alloc | apply pw_below_drewN | apply below_drew1) | exact HB.out)) (Nat.le_refl _)) A20.out).mono ?_); rintro e w31 ⟨rfl, hb⟩; have n0_ := Aside0.mk (below_step (by repeat (first | (with_reducible first | exact HB.out | apply below_alloc | apply pw_below_drewN | apply below_drew1) | exact HB.out)) hb); clear HB; have HB := n0_; clear n0_; (try clear hb); (try clear hb2); (try clear hk); (try clear hi)))
                go_meet
                case rel => exact ⟨_, ((t263 != t261)), (by first | rfl | (simp; done) | (simp [*]; done)), H', ⟨by first | omega | exact Nat.le_refl _⟩, ⟨by repeat (first | (with_reducible first | exact HB.out | apply below_alloc | apply pw_below_drewN | apply below_drew1) | exact HB.out)⟩⟩
              · replace c30 := Bool.eq_false_iff.mpr c30
                subst c30
                have H1 : (laws_FnIntegers.j0 k t265 t266 t267 t268 false) = some r := by rw [if_neg (show ¬ (false = true) by decide)] at H; exact H
                clear H
                have H := H1
                clear H1
                have H' := Aside0.mk H
                clear H
                go_wp2_with (first | (go_at_call 7; (with_reducible refine (impl_FormatInt.calls k t259 t269 _ (HT.out.on (by repeat (first | (with_reducible first | exact HB.out | apply below_alloc | apply pw_below_drewN | apply below_drew1) | exact HB.out)) (Nat.le_refl _)) A20.out).mono ?_); rintro e w32 ⟨rfl, hb⟩; have n0_ := Aside0.mk (below_step (by repeat (first | (with_reducible first | exact HB.out | apply below_alloc | apply pw_below_drewN | apply below_drew1) | exact HB.out)) hb); clear HB; have HB := n0_; clear n0_; (try clear hb); (try clear hb2); (try clear hk); (try clear hi)))
                go_meet
                case rel => exact ⟨_, (false), (by first | rfl | (simp; done) | (simp [*]; done)), H', ⟨by first | omega | exact Nat.le_refl _⟩, ⟨by repeat (first | (with_reducible first | exact HB.out | apply below_alloc | apply pw_below_drewN | apply below_drew1) | exact HB.out)⟩⟩
        · rw [if_neg c21] at H
          have c21b0 : (t269.toList == t258.toList) = false := beq_eq_false_iff_ne.mpr c21
          have c21b1 : (t269.toList != t258.toList) = true := bne_iff_ne.mpr c21
          (first | rw [c21b0] | (simp only [i64_w, i32_w]; rw [c21b0]) | skip)
          have H' := Aside0.mk H
          clear H
          go_wp2_with (first | (go_at_call 7; (with_reducible refine (impl_FormatInt.calls k t259 t269 _ (HT.out.on (by repeat (first | (with_reducible first | exact HB.out | apply below_alloc | apply pw_below_drewN | apply below_drew1) | exact HB.out)) (Nat.le_refl _)) A20.out).mono ?_); rintro e w33 ⟨rfl, hb⟩; have n0_ := Aside0.mk (below_step (by repeat (first | (with_reducible first | exact HB.out | apply below_alloc | apply pw_below_drewN | apply below_drew1) | exact HB.out)) hb); clear HB; have HB := n0_; clear n0_; (try clear hb); (try clear hb2); (try clear hk); (try clear hi)))
          go_meet
          case rel => exact ⟨_, (true), (by first | rfl | (simp; done) | (simp [*]; done)), H', ⟨by first | omega | exact Nat.le_refl _⟩, ⟨by repeat (first | (with_reducible first | exact HB.out | apply below_alloc | apply pw_below_drewN | apply below_drew1) | exact HB.out)⟩⟩
      · replace c19 := Bool.eq_false_iff.mpr c19
        subst c19
        have H1 : (if t261 ≥ 0 then (if (t264 != (decide (t261 ≤ 1000000000000))) = true then (laws_FnIntegers.j0 k t265 t266 t267 t268 true) else (if t264 = true then (laws_FnIntegers.j0 k t265 t266 t267 t268 (t263 != t261)) else (laws_FnIntegers.j0 k t265 t266 t267 t268 false))) else (if (t264 != false) = true then (laws_FnIntegers.j0 k t265 t266 t267 t268 true) else (if t264 = true then (laws_FnIntegers.j0 k t265 t266 t267 t268 (t263 != t261)) else (laws_FnIntegers.j0 k t265 t266 t267 t268 false)))) = some r := by rw [if_neg (show ¬ (false = true) by decide)] at H; exact H
        clear H
        have H := H1
        clear H1
        by_cases c34 : t261 ≥ 0
        · rw [if_pos c34] at H
          have c34b0 : decide (0 ≤ t261) = true := decide_eq_true c34
          clear c34
          by_cases c35 : (t264 != (decide (t261 ≤ 1000000000000))) = true
          · rw [if_pos c35] at H
            have c35b0 : (t264 != (decide (t261 ≤ 1000000000000))) = true := c35
            (try (have c35b1 : decide (t264 = (decide (t261 ≤ 1000000000000))) = false := by simpa using c35))
            (try (have c35b2 : (t264 == (decide (t261 ≤ 1000000000000))) = false := by simpa using c35))
            (try (have c35b3 : ¬ (t264 = (decide (t261 ≤ 1000000000000))) := by simpa using c35))
            clear c35
            have H' := Aside0.mk H
            clear H
            go_wp2
            go_meet
            case rel => exact ⟨_, (true), (by first | rfl | (simp; done) | (simp [*]; done)), H', ⟨by first | omega | exact Nat.le_refl _⟩, ⟨by repeat (first | (with_reducible first | exact HB.out | apply below_alloc | apply pw_below_drewN | apply below_drew1) | exact HB.out)⟩⟩
          · rw [if_neg c35] at H
            have c35b0 : (t264 != (decide (t261 ≤ 1000000000000))) = false := by simpa using c35
            (try (have c35b1 : decide (t264 = (decide (t261 ≤ 1000000000000))) = true := by simpa using c35))
            (try (have c35b2 : (t264 == (decide (t261 ≤ 1000000000000))) = true := by simpa using c35))
            clear c35
            by_cases c36 : t264 = true
            · subst c36
              have H1 : (laws_FnIntegers.j0 k t265 t266 t267 t268 (t263 != t261)) = some r := by rw [if_pos rfl] at H; exact H
              clear H
              have H := H1
              clear H1
              have H' := Aside0.mk H
              clear H
              go_wp2
              go_meet
              case rel => exact ⟨_, ((t263 != t261)), (by first | rfl | (simp; done) | (simp [*]; done)), H', ⟨by first | omega | exact Nat.le_refl _⟩, ⟨by repeat (first | (with_reducible first | exact HB.out | apply below_alloc | apply pw_below_drewN | apply below_drew1) | exact HB.out)⟩⟩
            · replace c36 := Bool.eq_false_iff.mpr c36
              subst c36
              have H1 : (laws_FnIntegers.j0 k t265 t266 t267 t268 false) = some r := by rw [if_neg (show ¬ (false = true) by decide)] at H; exact H
              clear H
              have H := H1
              clear H1
              have H' := Aside0.mk H
              clear H
              go_wp2
              go_meet
              case rel => exact ⟨_, (false), (by first | rfl | (simp; done) | (simp [*]; done)), H', ⟨by first | omega | exact Nat.le_refl _⟩, ⟨by repeat (first | (with_reducible first | exact HB.out | apply below_alloc | apply pw_below_drewN | apply below_drew1) | exact HB.out)⟩⟩
        · rw [if_neg c34] at H
          have c34b0 : decide (0 ≤ t261) = false := decide_eq_false c34
          clear c34
          by_cases c37 : (t264 != false) = true
          · rw [if_pos c37] at H
            have c37b0 : (t264 != false) = true := c37
            obtain rfl : t264 = true := by simpa using c37
            (try (have c37b1 : decide (t264 = false) = false := by simpa using c37))
            (try (have c37b2 : (t264 == false) = false := by simpa using c37))
            (try (have c37b3 : ¬ (t264 = false) := by simpa using c37))
            clear c37
            have H' := Aside0.mk H
            clear H
            go_wp2
            go_meet
            case rel => exact ⟨_, (true), (by first | rfl | (simp; done) | (simp [*]; done)), H', ⟨by first | omega | exact Nat.le_refl _⟩, ⟨by repeat (first | (with_reducible first | exact HB.out | apply below_alloc | apply pw_below_drewN | apply below_drew1) | exact HB.out)⟩⟩
          · rw [if_neg c37] at H
            have c37b0 : (t264 != false) = false := by simpa using c37
            (try (have c37b1 : decide (t264 = false) = true := by simpa using c37))
            (try (have c37b2 : (t264 == false) = true := by simpa using c37))
            clear c37
            by_cases c38 : t264 = true
            · subst c38
              have H1 : (laws_FnIntegers.j0 k t265 t266 t267 t268 (t263 != t261)) = some r := by rw [if_pos rfl] at H; exact H
              clear H
              have H := H1
              clear H1
              have H' := Aside0.mk H
              clear H
              go_wp2
              go_meet
              case rel => exact ⟨_, ((t263 != t261)), (by first | rfl | (simp; done) | (simp [*]; done)), H', ⟨by first | omega | exact Nat.le_refl _⟩, ⟨by repeat (first | (with_reducible first | exact HB.out | apply below_alloc | apply pw_below_drewN | apply below_drew1) | exact HB.out)⟩⟩
            · replace c38 := Bool.eq_false_iff.mpr c38
              subst c38
              have H1 : (laws_FnIntegers.j0 k t265 t266 t267 t268 false) = some r := by rw [if_neg (show ¬ (false = true) by decide)] at H; exact H
              clear H
              have H := H1
              clear H1
              have H' := Aside0.mk H
              clear H
              go_wp2
              go_meet
              case rel => exact ⟨_, (false), (by first | rfl | (simp; done) | (simp [*]; done)), H', ⟨by first | omega | exact Nat.le_refl _⟩, ⟨by repeat (first | (with_reducible first | exact HB.out | apply below_alloc | apply pw_below_drewN | apply below_drew1) | exact HB.out)⟩⟩
    case rest =>
      clear HC12
      try clear c1
      try clear c2
      try clear p2
      try clear c3
      try clear c5
      try clear c7
      try clear c9
      try clear c10
      try clear c11
      try clear c12
      try clear c13
      try clear c14
      try clear c15
      try clear c19
      try clear c21
      try clear c21b0
      try clear c21b1
      try clear c22
      try clear c22b0
      try clear c23
      try clear c23b0
      try clear c23b1
      try clear c23b2
      try clear c25
      try clear c28
      try clear c28b0
      try clear c28b1
      try clear c28b2
      try clear c30
      try clear c34
      try clear c34b0
      try clear c35
      try clear c35b0
      try clear c35b1
      try clear c35b2
      try clear c36
      try clear c37
      try clear c37b0
      try clear c37b1
      try clear c37b2
      try clear c38
      obtain ⟨kq, x65_11, rfl, HA, HJ11, HB⟩ := hcut
      cases kq with
      | zero => exact absurd HA.out (by simp [laws_FnIntegers.j0])
      | succ kj11 =>
        have H := HA.out
        clear HA
        simp only [laws_FnIntegers.j0] at H
        by_cases c39 : x65_11 = true
        · subst c39
          have H1 : (some false) = some r := by rw [if_pos rfl] at H; exact H
          clear H
          have H := H1
          clear H1
          obtain rfl := Option.some.inj H
          go_wp2
          go_ret
          exact ⟨by first | rfl | (simp [errW_none, errW_some] <;> rfl) | (simp [*, errW_none, errW_some] <;> rfl), by repeat (first | (with_reducible first | exact HB.out | apply below_alloc | apply pw_below_drewN | apply below_drew1) | exact HB.out)⟩
        · replace c39 := Bool.eq_false_iff.mpr c39
          subst c39
          have H1 : (if t266 < 1 then (laws_FnIntegers.j1 kj11 t265 t266 t267 t268 true) else (laws_FnIntegers.j1 kj11 t265 t266 t267 t268 (decide (t266 > 1000000000000)))) = some r := by rw [if_neg (show ¬ (false = true) by decide)] at H; exact H
          clear H
          have H := H1
          clear H1
          have HC40 := Aside0.mk H
          clear H
          go_upto_region 12 with (fail)
          go_cut [71] (fun v71 wc => ∃ (kq : Nat) (x71_39 : Bool), v71 = .bool x71_39 ∧ Aside0 (laws_FnIntegers.j1 kq t265 t266 t267 t268 x71_39 = some r) ∧ Aside0 (kq ≤ kj11) ∧ Aside0 (Below w.heap.size w wc))
          case first =>
            have H := HC40.out
            clear HC40
            by_cases c41 : t266 < 1
            · rw [if_pos c41] at H
              have c41b0 : decide (t266 < 1) = true := decide_eq_true c41
              clear c41
              (first | rw [c41b0] | (simp only [i64_w, i32_w]; rw [c41b0]) | skip)
              have H' := Aside0.mk H
              clear H
              go_wp2
              go_meet
              case rel => exact ⟨_, (true), (by first | rfl | (simp; done) | (simp [*]; done)), H', ⟨by have := HJ11.out; first | omega | exact Nat.le_refl _⟩, ⟨by repeat (first | (with_reducible first | exact HB.out | apply below_alloc | apply pw_below_drewN | apply below_drew1) | exact HB.out)⟩⟩
            · rw [if_neg c41] at H
              have c41b0 : decide (t266 < 1) = false := decide_eq_false c41
              clear c41
              (first | rw [c41b0] | (simp only [i64_w, i32_w]; rw [c41b0]) | skip)
              have H' := Aside0.mk H
              clear H
              go_wp2
              go_meet
              case rel => exact ⟨_, (decide (t266 > 1000000000000)), (by first | rfl | (simp; done) | (simp [*]; done)), H', ⟨by have := HJ11.out; first | omega | exact Nat.le_refl _⟩, ⟨by repeat (first | (with_reducible first | exact HB.out | apply below_alloc | apply pw_below_drewN | apply below_drew1) | exact HB.out)⟩⟩
          case rest =>
            clear HC40
            try clear c1
            try clear c2
            try clear p2
            try clear c3
            try clear c4
            try clear c5
            try clear c7
            try clear c9
            try clear c10
            try clear c11
            try clear c12
            try clear c13
            try clear c14
            try clear c15
            try clear c19
            try clear c21
            try clear c21b0
            try clear c21b1
            try clear c22
            try clear c22b0
            try clear c23
            try clear c23b0
            try clear c23b1
            try clear c23b2
            try clear c25
            try clear c28
            try clear c28b0
            try clear c28b1
            try clear c28b2
            try clear c30
            try clear c34
            try clear c34b0
            try clear c35
            try clear c35b0
            try clear c35b1
            try clear c35b2
            try clear c36
            try clear c37
            try clear c37b0
            try clear c37b1
            try clear c37b2
            try clear c38
            try clear c39
            try clear c41
            try clear c41b0
            try clear p2
            obtain ⟨kq, x71_39, rfl, HA, HJ39, HB⟩ := hcut
            cases kq with
            | zero => exact absurd HA.out (by simp [laws_FnIntegers.j1])
            | succ kj39 =>
              have H := HA.out
              clear HA
              simp only [laws_FnIntegers.j1] at H
              by_cases c42 : x71_39 = true
              · subst c42
                have H1 : (if t267 = 0 then (some (t268 == 0)) else (some false)) = some r := by rw [if_pos rfl] at H; exact H
                clear H
                have H := H1
                clear H1
                by_cases c43 : t267 = 0
                · rw [if_pos c43] at H
                  have c43b0 : (t267 == 0) = true := beq_iff_eq.mpr c43
                  have c43b1 : (t267 != 0) = false := bne_eq_false_iff_eq.mpr c43
                  clear c43
                  obtain rfl := Option.some.inj H
                  go_wp2
                  go_ret
                  exact ⟨by first | rfl | (simp [errW_none, errW_some] <;> rfl) | (simp [*, errW_none, errW_some] <;> rfl), by repeat (first | (with_reducible first | exact HB.out | apply below_alloc | apply pw_below_drewN | apply below_drew1) | exact HB.out)⟩
                · rw [if_neg c43] at H
                  have c43b0 : (t267 == 0) = false := beq_eq_false_iff_ne.mpr c43
                  have c43b1 : (t267 != 0) = true := bne_iff_ne.mpr c43
                  obtain rfl := Option.some.inj H
                  go_wp2
                  go_ret
                  exact ⟨by first | rfl | (simp [errW_none, errW_some] <;> rfl) | (simp [*, errW_none, errW_some] <;> rfl), by repeat (first | (with_reducible first | exact HB.out | apply below_alloc | apply pw_below_drewN | apply below_drew1) | exact HB.out)⟩
              · replace c42 := Bool.eq_false_iff.mpr c42
                subst c42
                have H1 : (if t268 < 0 then (laws_FnIntegers.j2 kj39 t265 t266 t267 true) else (if t268 ≥ t266 then (laws_FnIntegers.j2 kj39 t265 t266 t267 true) else (if t266 = 0 then (none) else (laws_FnIntegers.j2 kj39 t265 t266 t267 ((Int.tmod (wrap64 ((Int.tmod t265 t266) - t268)) t266) != 0))))) = some r := by rw [if_neg (show ¬ (false = true) by decide)] at H; exact H
                clear H
                have H := H1
                clear H1
                have HC44 := Aside0.mk H
                clear H
                go_upto_region 14 with (fail)
                go_cut [94] (fun v94 wc => ∃ (kq : Nat) (x94_43 : Bool), v94 = .bool x94_43 ∧ Aside0 (laws_FnIntegers.j2 kq t265 t266 t267 x94_43 = some r) ∧ Aside0 (kq ≤ kj39) ∧ Aside0 (Below w.heap.size w wc))
                case first =>
                  have H := HC44.out
                  clear HC44
                  by_cases c45 : t268 < 0
                  · rw [if_pos c45] at H
                    have c45b0 : decide (t268 < 0) = true := decide_eq_true c45
                    clear c45
                    (first | rw [c45b0] | (simp only [i64_w, i32_w]; rw [c45b0]) | skip)
                    have H' := Aside0.mk H
                    clear H
                    go_wp2
                    go_meet
                    case rel => exact ⟨_, (true), (by first | rfl | (simp; done) | (simp [*]; done)), H', ⟨by have := HJ11.out; have := HJ39.out; first | omega | exact Nat.le_refl _⟩, ⟨by repeat (first | (with_reducible first | exact HB.out | apply below_alloc | apply pw_below_drewN | apply below_drew1) | exact HB.out)⟩⟩
                  · rw [if_neg c45] at H
                    have c45b0 : decide (t268 < 0) = false := decide_eq_false c45
                    clear c45
                    (first | rw [c45b0] | (simp only [i64_w, i32_w]; rw [c45b0]) | skip)
                    by_cases c46 : t268 ≥ t266
                    · rw [if_pos c46] at H
                      have c46b0 : decide (t266 ≤ t268) = true := decide_eq_true c46
                      clear c46
                      have H' := Aside0.mk H
                      clear H
                      go_wp2
                      go_meet
                      case rel => exact ⟨_, (true), (by first | rfl | (simp; done) | (simp [*]; done)), H', ⟨by have := HJ11.out; have := HJ39.out; first | omega | exact Nat.le_refl _⟩, ⟨by repeat (first | (with_reducible first | exact HB.out | apply below_alloc | apply pw_below_drewN | apply below_drew1) | exact HB.out)⟩⟩
                    · rw [if_neg c46] at H
                      have c46b0 : decide (t266 ≤ t268) = false := decide_eq_false c46
                      clear c46
                      by_cases c47 : t266 = 0
                      · rw [if_pos c47] at H
                        exact absurd H (by simp)
                      · rw [if_neg c47] at H
                        have c47b0 : (t266 == 0) = false := beq_eq_false_iff_ne.mpr c47
                        have c47b1 : (t266 != 0) = true := bne_iff_ne.mpr c47
                        have H' := Aside0.mk H
                        clear H
                        go_wp2
                        go_meet
                        case rel => exact ⟨_, (((Int.tmod (wrap64 ((Int.tmod t265 t266) - t268)) t266) != 0)), (by first | rfl | (simp; done) | (simp [*]; done)), H', ⟨by have := HJ11.out; have := HJ39.out; first | omega | exact Nat.le_refl _⟩, ⟨by repeat (first | (with_reducible first | exact HB.out | apply below_alloc | apply pw_below_drewN | apply below_drew1) | exact HB.out)⟩⟩
                case rest =>
                  clear HC44
                  try clear c1
                  try clear c2
                  try clear p2
                  try clear c3
                  try clear c4
                  try clear c5
                  try clear p6
                  try clear c7
                  try clear c9
                  try clear c10
                  try clear c11
                  try clear c12
                  try clear c13
                  try clear c14
                  try clear c15
                  try clear c19
                  try clear c21
                  try clear c21b0
                  try clear c21b1
                  try clear c22
                  try clear c22b0
                  try clear c23
                  try clear c23b0
                  try clear c23b1
                  try clear c23b2
                  try clear c25
                  try clear c28
                  try clear c28b0
                  try clear c28b1
                  try clear c28b2
                  try clear c30
                  try clear c34
                  try clear c34b0
                  try clear c35
                  try clear c35b0
                  try clear c35b1
                  try clear c35b2
                  try clear c36
                  try clear c37
                  try clear c37b0
                  try clear c37b1
                  try clear c37b2
                  try clear c38
                  try clear c39
                  try clear c41
                  try clear c41b0
                  try clear c42
                  try clear c43
                  try clear c43b0
                  try clear c43b1
                  try clear c45
                  try clear c45b0
                  try clear c46
                  try clear c46b0
                  try clear c47
                  try clear c47b0
                  try clear c47b1
                  try clear p2
                  obtain ⟨kq, x94_43, rfl, HA, HJ43, HB⟩ := hcut
                  cases kq with
                  | zero => exact absurd HA.out (by simp [laws_FnIntegers.j2])
                  | succ kj43 =>
                    have H := HA.out
                    clear HA
                    simp only [laws_FnIntegers.j2] at H
                    by_cases c48 : x94_43 = true
                    · subst c48
                      have H1 : (some false) = some r := by rw [if_pos rfl] at H; exact H
                      clear H
                      have H := H1
                      clear H1
                      obtain rfl := Option.some.inj H
                      go_wp2
                      go_ret
                      exact ⟨by first | rfl | (simp [errW_none, errW_some] <;> rfl) | (simp [*, errW_none, errW_some] <;> rfl), by repeat (first | (with_reducible first | exact HB.out | apply below_alloc | apply pw_below_drewN | apply below_drew1) | exact HB.out)⟩
                    · replace c48 := Bool.eq_false_iff.mpr c48
                      subst c48
                      have H1 : (if t265 < 0 then (some (t267 == 0)) else (if t265 > 1000000000000 then (some (t267 == 0)) else (if (wrap64 (t267 * t266)) ≥ t265 then (some (decide ((wrap64 ((wrap64 (t267 * t266)) - t265)) < t266))) else (some false)))) = some r := by rw [if_neg (show ¬ (false = true) by decide)] at H; exact H
                      clear H
                      have H := H1
                      clear H1
                      by_cases c49 : t265 < 0
                      · rw [if_pos c49] at H
                        have c49b0 : decide (t265 < 0) = true := decide_eq_true c49
                        clear c49
                        obtain rfl := Option.some.inj H
                        go_wp2
                        go_ret
                        exact ⟨by first | rfl | (simp [errW_none, errW_some] <;> rfl) | (simp [*, errW_none, errW_some] <;> rfl), by repeat (first | (with_reducible first | exact HB.out | apply below_alloc | apply pw_below_drewN | apply below_drew1) | exact HB.out)⟩
                      · rw [if_neg c49] at H
                        have c49b0 : decide (t265 < 0) = false := decide_eq_false c49
                        clear c49
                        by_cases c50 : t265 > 1000000000000
                        · rw [if_pos c50] at H
                          have c50b0 : decide (1000000000000 < t265) = true := decide_eq_true c50
                          clear c50
                          obtain rfl := Option.some.inj H
                          go_wp2
                          go_ret
                          exact ⟨by first | rfl | (simp [errW_none, errW_some] <;> rfl) | (simp [*, errW_none, errW_some] <;> rfl), by repeat (first | (with_reducible first | exact HB.out | apply below_alloc | apply pw_below_drewN | apply below_drew1) | exact HB.out)⟩
                        · rw [if_neg c50] at H
                          have c50b0 : decide (1000000000000 < t265) = false := decide_eq_false c50
                          clear c50
                          by_cases c51 : (wrap64 (t267 * t266)) ≥ t265
                          · rw [if_pos c51] at H
                            have c51b0 : decide (t265 ≤ (wrap64 (t267 * t266))) = true := decide_eq_true c51
                            clear c51
                            obtain rfl := Option.some.inj H
                            go_wp2
                            go_ret
                            exact ⟨by first | rfl | (simp [errW_none, errW_some] <;> rfl) | (simp [*, errW_none, errW_some] <;> rfl), by repeat (first | (with_reducible first | exact HB.out | apply below_alloc | apply pw_below_drewN | apply below_drew1) | exact HB.out)⟩
                          · rw [if_neg c51] at H
                            have c51b0 : decide (t265 ≤ (wrap64 (t267 * t266))) = false := decide_eq_false c51
                            clear c51
                            obtain rfl := Option.some.inj H
                            go_wp2
                            go_ret
                            exact ⟨by first | rfl | (simp [errW_none, errW_some] <;> rfl) | (simp [*, errW_none, errW_some] <;> rfl), by repeat (first | (with_reducible first | exact HB.out | apply below_alloc | apply pw_below_drewN | apply below_drew1) | exact HB.out)⟩

/-- THE ONE PURE STATEMENT of laws_FnIntegers: yours. -/
def laws_FnIntegers.Pure : Prop := ∀ (l0 : List Int), l0.length ≤ maxLen → l0.length * 1 ≤ 140737488351232 → (∀ x ∈ l0, (Lit.int .u8 x).wf = true) → ∃ k, laws_FnIntegers.f k l0 = some true
theorem laws_FnIntegers.walk (P : laws_FnIntegers.Pure) (a0 : Option Addr) (len0 cap0 : Nat) (z0 : List Int) (w : World) (hT : Tab w) (hE : Errs w) (w0 : (a0 = none ∧ len0 = 0 ∧ cap0 = 0 ∧ z0 = []) ∨ ∃ x, a0 = some x ∧ len0 ≤ cap0 ∧ cap0 ≤ maxLen ∧ z0.length = cap0 ∧ (∀ i, i < z0.length → w.cell? (x.add i) = some (.int .u8 (z0.getD i 0))) ∧ ∀ n ∈ z0, (Lit.int .u8 n).wf = true) (y0 : len0 * 1 ≤ 140737488351232) :
    Calls Tryd.prog 5 #[.slice a0 len0 cap0] w fun e w' => e = .returned (.bool true) ∧ Below w.heap.size w w' := by
  obtain ⟨l0, rfl, hr0, hm0, hw0, hc0⟩ := ReadsInt.ofRowC w0
  obtain ⟨k, h⟩ := P l0 hm0 y0 hw0
  refine (laws_FnIntegers.calls k _ _ l0 true w hT hE (Kd.C_of_reads (d := (0 : Int)) (h1 := fun _ => rfl) hr0) hc0 h).mono ?_
  rintro e w' ⟨rfl, hd⟩
  exact ⟨rfl, hd⟩

end Go.Proofs.YthfhejfidmhklaaDoor.PFnIntegers
