/- This text was printed by the kit for one law and then mended by hand at one place: two calls with the same arguments have one answer, and where two bools are compared the four cases are parted ahead of the walk. -/
import Derived.Test.YtgeokjhijihpaaaPFnGroupx0
import Derived.Test.YtgeokjhijihpaaaPFnGroupx1
import Derived.Test.YtgeokjhijihpaaaPFnGroupx2
namespace Go.Proofs.Ytgeokjhijihpaaa.PFnGroup
open Go.RowKit Go.Proofs.YtgeokjhijihpaaaW.PrintWords Go.Proofs.YtgeokjhijihpaaaW.PrintLast Go.Proofs.YtgeokjhijihpaaaW.PrintMore
attribute [local go_sem] max2_int min2_int max_two min_two max_three min_three max_four min_four   -- for this text's walks alone
set_option linter.unusedVariables false
set_option linter.unusedSimpArgs false

/-! ### spec_DrawPowGroup: function 32 -/
def spec_DrawPowGroup.f (k : Nat) (l0 : List Int) : Option (Int × Int) := (spec_l1New.f k l0).bind fun bt195 => ((spec_l4Any.f k bt195.1 bt195.2.1 bt195.2.2).bind fun bt199 => ((spec_l4Number.f bt195.1 bt199.2.1 bt199.2.2).bind fun bt202 => (some (bt199.1, bt202.1))))
theorem spec_DrawPowGroup.mono : ∀ a0 k, LeO (spec_DrawPowGroup.f k a0) (spec_DrawPowGroup.f (k + 1) a0) := by
  intro a0 k
  unfold spec_DrawPowGroup.f
  repeat' first
      | (with_reducible exact spec_l1New.mono _ _)
      | (with_reducible exact spec_l4Any.mono _ _ _ _)
      | (with_reducible exact LeO.refl _)
      | (with_reducible exact LeO.none _)
      | (with_reducible refine LeO.ite ?_ ?_)
      | (with_reducible refine LeO.bind ?_ (fun _ => ?_))
      | exact spec_l1New.mono _ _
      | exact spec_l4Any.mono _ _ _ _
      | exact LeO.none _
      | refine LeO.ite ?_ ?_
      | refine LeO.bind ?_ (fun _ => ?_)
set_option maxHeartbeats 8000000 in
set_option maxRecDepth 100000 in
theorem spec_DrawPowGroup.calls (k : Nat) (A0 : Option Addr) (c0 : Nat) (l0 : List Int) (r1 : Int) (r2 : Int) (w : World) (hr0 : Kd.C (Kd.int .u8) w A0 l0.length l0) (hc0 : l0.length ≤ c0) (h : spec_DrawPowGroup.f k l0 = some (r1, r2)) :
    Calls Try.prog 32 #[.slice A0 l0.length c0] w fun e w' => e = .returned (.tuple #[.int .i64 r1, .int .i64 r2]) ∧ Below w.heap.size w w' := by
  have HR0 := Aside0.mk hr0
  have HC0 := Aside0.mk hc0
  clear hr0 hc0
  have HB := Aside0.mk (Below.refl w.heap.size w)
  have H : ((spec_l1New.f k l0).bind fun bt195 => ((spec_l4Any.f k bt195.1 bt195.2.1 bt195.2.2).bind fun bt199 => ((spec_l4Number.f bt195.1 bt199.2.1 bt199.2.2).bind fun bt202 => (some (bt199.1, bt202.1))))) = some (r1, r2) := h
  clear h
  replace H := Option.bind_eq_some_iff.mp H
  obtain ⟨⟨t195, t196, t197⟩, A20, H⟩ := H
  replace H : ((spec_l4Any.f k t195 t196 t197).bind fun bt199 => ((spec_l4Number.f t195 bt199.2.1 bt199.2.2).bind fun bt202 => (some (bt199.1, bt202.1)))) = some (r1, r2) := H
  have A2 := Aside0.mk A20
  clear A20
  replace H := Option.bind_eq_some_iff.mp H
  obtain ⟨⟨t199, t200, t201⟩, A30, H⟩ := H
  replace H : ((spec_l4Number.f t195 t200 t201).bind fun bt202 => (some (t199, bt202.1))) = some (r1, r2) := H
  have A3 := Aside0.mk A30
  clear A30
  replace H := Option.bind_eq_some_iff.mp H
  obtain ⟨⟨t202, t203, t204⟩, A40, H⟩ := H
  replace H : (some (t199, t202)) = some (r1, r2) := H
  have A4 := Aside0.mk A40
  clear A40
  simp only [Option.some.injEq, Prod.mk.injEq] at H
  obtain ⟨rfl, rfl⟩ := H
  go_enter Try.func32, Try.ntmps32
  go_wp2_with (first | ((with_reducible refine gate_callee (f := 49) rfl ?_); refine goesL_ (some 7) rfl rfl Try.func49 (by kernel_rfl) rfl #[.slice A0 l0.length c0] rfl (by (try simp only [List.map_toArray, List.map_cons, List.map_nil]); first | done | rfl | (simp only [List.length_drop, List.length_take]; rfl)) ?_; (with_reducible refine (spec_l1New.calls k _ _ l0 t195 t196 t197 w _ ?side1 ?side2 ?side3 A2.out).mono ?_); (case side1 => repeat (first | (with_reducible first | exact HB.out | apply below_alloc | apply pw_below_drewN | apply below_drew1) | exact HB.out)); (case side2 => exact HR0.out); (case side3 => exact HC0.out); rintro e w5 ⟨g198, rfl, hi, hb, hb2⟩; refine ⟨_, rfl, ?_⟩; have n0_ := Aside0.mk (hb); have n1_ := Aside0.mk (hi); clear HB; have HB := n0_; have HI198 := n1_; clear n0_ n1_; (try clear hb); (try clear hb2); (try clear hk); (try clear hi)) | ((with_reducible refine gate_callee (f := 50) rfl ?_); refine goesL_ (some 9) rfl rfl Try.func50 (by kernel_rfl) rfl #[.pointer (some ⟨g198, 0, none⟩)] rfl (by (try simp only [List.map_toArray, List.map_cons, List.map_nil]); first | done | rfl | (simp only [List.length_drop, List.length_take]; rfl)) ?_; (with_reducible refine (spec_l4Any.calls k g198 t195 t196 t197 t199 t200 t201 w _ ?side1 ?side2 A3.out).mono ?_); (case side1 => repeat (first | (with_reducible first | exact HI198.out | apply IsS57.alloc | apply IsS57.drewN | apply IsS57.drew | apply IsS57.set_1 | apply IsS57.set_2) | exact HI198.out)); (case side2 => repeat (first | (with_reducible first | exact HB.out | apply below_alloc | apply pw_below_drewN | apply below_drew1 | refine below_set ?_ (IsS57.ge HI198.out)) | exact HB.out)); rintro e w6 ⟨rfl, hi, hb, hk⟩; refine ⟨_, rfl, ?_⟩; have n0_ := Aside0.mk (hb); have n1_ := Aside0.mk (hi); clear HB; clear HI198; have HB := n0_; have HI198 := n1_; clear n0_ n1_; (try clear hb); (try clear hb2); (try clear hk); (try clear hi)) | ((with_reducible refine gate_callee (f := 51) rfl ?_); refine goesL_ (some 12) rfl rfl Try.func51 (by kernel_rfl) rfl #[.pointer (some ⟨g198, 0, none⟩)] rfl (by (try simp only [List.map_toArray, List.map_cons, List.map_nil]); first | done | rfl | (simp only [List.length_drop, List.length_take]; rfl)) ?_; (with_reducible refine (spec_l4Number.calls g198 t195 t200 t201 t202 t203 t204 w _ ?side1 ?side2 A4.out).mono ?_); (case side1 => repeat (first | (with_reducible first | exact HI198.out | apply IsS57.alloc | apply IsS57.drewN | apply IsS57.drew | apply IsS57.set_1 | apply IsS57.set_2) | exact HI198.out)); (case side2 => repeat (first | (with_reducible first | exact HB.out | apply below_alloc | apply pw_below_drewN | apply below_drew1 | refine below_set ?_ (IsS57.ge HI198.out)) | exact HB.out)); rintro e w7 ⟨rfl, hi, hb, hk⟩; refine ⟨_, rfl, ?_⟩; have n0_ := Aside0.mk (hb); have n1_ := Aside0.mk (hi); clear HB; clear HI198; have HB := n0_; have HI198 := n1_; clear n0_ n1_; (try clear hb); (try clear hb2); (try clear hk); (try clear hi)))
  go_ret2
  exact ⟨by first | rfl | (simp [errW_none, errW_some] <;> rfl) | (simp [*, errW_none, errW_some] <;> rfl), by repeat (first | (with_reducible first | exact HB.out | apply below_alloc | apply pw_below_drewN | apply below_drew1 | refine below_set ?_ (IsS57.ge HI198.out)) | exact HB.out)⟩

/-! ### laws_at: function 33 -/
def laws_at.f (l0 : List Int) (a1 : Int) : Option (Int) := if a1 < (l0.length : Int) then (if 0 ≤ a1 then (some (wrap64 (rd l0 a1))) else (none)) else (some (Int.tmod (wrap64 ((wrap64 (a1 * 31)) + (wrap64 ((l0.length : Int) * 7)))) 256))
set_option maxHeartbeats 8000000 in
set_option maxRecDepth 100000 in
theorem laws_at.calls (A0 : Option Addr) (c0 : Nat) (l0 : List Int) (a1 : Int) (r : Int) (w : World) (hr0 : Kd.C (Kd.int .u8) w A0 l0.length l0) (hc0 : l0.length ≤ c0) (h : laws_at.f l0 a1 = some r) :
    Calls Try.prog 33 #[.slice A0 l0.length c0, .int .i64 a1] w fun e w' => e = .returned (.int .i64 r) ∧ Drawn0 w w' := by
  have HR0 := Aside0.mk hr0
  have HC0 := Aside0.mk hc0
  clear hr0 hc0
  have H : (if a1 < (l0.length : Int) then (if 0 ≤ a1 then (some (wrap64 (rd l0 a1))) else (none)) else (some (Int.tmod (wrap64 ((wrap64 (a1 * 31)) + (wrap64 ((l0.length : Int) * 7)))) 256))) = some r := h
  clear h
  by_cases c3 : a1 < (l0.length : Int)
  · rw [if_pos c3] at H
    have c3b0 : decide (a1 < (l0.length : Int)) = true := decide_eq_true c3
    clear c3
    by_cases c4 : 0 ≤ a1
    · rw [if_pos c4] at H
      have c4b0 : decide (0 ≤ a1) = true := decide_eq_true c4
      clear c4
      obtain rfl := Option.some.inj H
      have p205 : 0 ≤ (a1 : Int) := of_decide_eq_true (by first | (with_reducible assumption) | assumption)
      have q205 : a1 < (l0.length : Int) := of_decide_eq_true (by first | (with_reducible assumption) | assumption)
      obtain ⟨ad205, e205, hx205_0⟩ := Kd.at_int HR0.out a1 p205 q205
      cases e205
      replace p205 := eq_true p205
      replace q205 := eq_true q205
      go_enter Try.func33, Try.ntmps33
      go_wp2
      go_ret
      exact ⟨by first | rfl | (simp; done) | (simp [*]; done), by repeat (first | exact Drawn0.refl _ | apply Drawn0.step)⟩
    · rw [if_neg c4] at H
      exact absurd H (by simp)
  · rw [if_neg c3] at H
    have c3b0 : decide (a1 < (l0.length : Int)) = false := decide_eq_false c3
    clear c3
    obtain rfl := Option.some.inj H
    go_enter Try.func33, Try.ntmps33
    go_wp2
    go_ret
    exact ⟨by first | rfl | (simp; done) | (simp [*]; done), by repeat (first | exact Drawn0.refl _ | apply Drawn0.step)⟩

/-! ### spec_Mod: function 34 -/
def spec_Mod.f (a0 : Int) (a1 : Int) : Option (Int) := (spec_l1In.f a1 1 1000000000000).bind fun t206 => (if t206 = true then (if a1 = 0 then (none) else (some (Int.tmod (wrap64 ((Int.tmod a0 a1) + a1)) a1))) else (some 0))
set_option maxHeartbeats 8000000 in
set_option maxRecDepth 100000 in
theorem spec_Mod.calls (a0 : Int) (a1 : Int) (r : Int) (w : World) (h : spec_Mod.f a0 a1 = some r) :
    Calls Try.prog 34 #[.int .i64 a0, .int .i64 a1] w fun e w' => e = .returned (.int .i64 r) ∧ Drawn0 w w' := by
  have H : ((spec_l1In.f a1 1 1000000000000).bind fun t206 => (if t206 = true then (if a1 = 0 then (none) else (some (Int.tmod (wrap64 ((Int.tmod a0 a1) + a1)) a1))) else (some 0))) = some r := h
  clear h
  replace H := Option.bind_eq_some_iff.mp H
  obtain ⟨t206, A30, H⟩ := H
  replace H : (if t206 = true then (if a1 = 0 then (none) else (some (Int.tmod (wrap64 ((Int.tmod a0 a1) + a1)) a1))) else (some 0)) = some r := H
  have A3 := Aside0.mk A30
  clear A30
  by_cases c4 : t206 = true
  · subst c4
    have H1 : (if a1 = 0 then (none) else (some (Int.tmod (wrap64 ((Int.tmod a0 a1) + a1)) a1))) = some r := by rw [if_pos rfl] at H; exact H
    clear H
    have H := H1
    clear H1
    by_cases c5 : a1 = 0
    · rw [if_pos c5] at H
      exact absurd H (by simp)
    · rw [if_neg c5] at H
      have c5b0 : (a1 == 0) = false := beq_eq_false_iff_ne.mpr c5
      have c5b1 : (a1 != 0) = true := bne_iff_ne.mpr c5
      obtain rfl := Option.some.inj H
      go_enter Try.func34, Try.ntmps34
      go_wp2_with (first | ((with_reducible refine gate_callee (f := 41) rfl ?_); refine goesL_ (some 6) rfl rfl Try.func41 (by kernel_rfl) rfl #[.int .i64 a1, .int .i64 1, .int .i64 1000000000000] rfl (by (try simp only [List.map_toArray, List.map_cons, List.map_nil]); first | done | rfl | (simp only [List.length_drop, List.length_take]; rfl)) ?_; (with_reducible refine (spec_l1In.calls a1 1 1000000000000 true _ A3.out).mono ?_); rintro e w' ⟨rfl, ⟨nd, rfl⟩⟩; refine ⟨_, rfl, ?_⟩))
      go_ret
      exact ⟨by first | rfl | (simp; done) | (simp [*]; done), by repeat (first | exact Drawn0.refl _ | apply Drawn0.step)⟩
  · replace c4 := Bool.eq_false_iff.mpr c4
    subst c4
    have H1 : (some 0) = some r := by rw [if_neg (show ¬ (false = true) by decide)] at H; exact H
    clear H
    have H := H1
    clear H1
    obtain rfl := Option.some.inj H
    go_enter Try.func34, Try.ntmps34
    go_wp2_with (first | ((with_reducible refine gate_callee (f := 41) rfl ?_); refine goesL_ (some 6) rfl rfl Try.func41 (by kernel_rfl) rfl #[.int .i64 a1, .int .i64 1, .int .i64 1000000000000] rfl (by (try simp only [List.map_toArray, List.map_cons, List.map_nil]); first | done | rfl | (simp only [List.length_drop, List.length_take]; rfl)) ?_; (with_reducible refine (spec_l1In.calls a1 1 1000000000000 false _ A3.out).mono ?_); rintro e w' ⟨rfl, ⟨nd, rfl⟩⟩; refine ⟨_, rfl, ?_⟩))
    go_ret
    exact ⟨by first | rfl | (simp; done) | (simp [*]; done), by repeat (first | exact Drawn0.refl _ | apply Drawn0.step)⟩

/-! ### laws_FnGroup: function 11 -/
def laws_FnGroup.j0 : Nat → List Int → Int → Int → Int → Int → Bool → Option (Bool)
  | 0, _, _, _, _, _, _ => none
  | k + 1, x0, x3, x4, x5, x6, x71 => if x71 = true then (some false) else ((laws_at.f x0 1).bind fun t223 => ((impl_HashToGroup.f k t223 x5).bind fun t224 => (if x3 = 1 then ((impl_IsGroupElement.f k t224).bind fun t225 => (if t225 = true then (some (t224 != 1)) else (some false))) else ((impl_DiscreteLog.f k x3 x6).bind fun t226 => ((spec_Mod.f x4 1019).bind fun t227 => (if t226 = t227 then ((impl_IsGroupElement.f k t224).bind fun t228 => (if t228 = true then (some (t224 != 1)) else (some false))) else (some false)))))))
def laws_FnGroup.f (k : Nat) (l0 : List Int) : Option (Bool) := (laws_big.f l0).bind fun t207 => (if t207 = true then (some true) else ((spec_DrawPowGroup.f k l0).bind fun bt208 => ((spec_IsGroupElement.f k bt208.1).bind fun t210 => (if t210 = true then ((laws_at.f l0 0).bind fun t213 => ((impl_PowGroup.f k bt208.1 bt208.2).bind fun t214 => ((impl_InverseExponent.f k bt208.2).bind fun t215 => ((impl_IsGroupElement.f k t214).bind fun t216 => (if t216 = true then ((impl_PowGroup.f k bt208.1 (wrap64 (t213 * 5))).bind fun t217 => ((impl_MulGroup.f k t214 t217).bind fun t218 => ((spec_Mod.f bt208.2 1019).bind fun t219 => ((impl_PowGroup.f k bt208.1 (wrap64 (t219 + (wrap64 (t213 * 5))))).bind fun t220 => (if t218 = t220 then ((spec_Mod.f bt208.2 1019).bind fun t221 => (if ((t215 == 0) != (t221 == 0)) = true then (laws_FnGroup.j0 k l0 bt208.1 bt208.2 (wrap64 (t213 * 5)) t214 true) else (if t215 = 0 then (laws_FnGroup.j0 k l0 bt208.1 bt208.2 (wrap64 (t213 * 5)) t214 false) else ((impl_PowGroup.f k t214 t215).bind fun t222 => (laws_FnGroup.j0 k l0 bt208.1 bt208.2 (wrap64 (t213 * 5)) t214 (t222 != bt208.1)))))) else (laws_FnGroup.j0 k l0 bt208.1 bt208.2 (wrap64 (t213 * 5)) t214 true)))))) else (laws_FnGroup.j0 k l0 bt208.1 bt208.2 (wrap64 (t213 * 5)) t214 true)))))) else ((impl_PowGroup.f k bt208.1 bt208.2).bind fun t211 => (if t211 = 0 then ((impl_DiscreteLog.f k bt208.1 4).bind fun t212 => (some (t212 == (-1)))) else (some false)))))))
theorem laws_FnGroup.mono_l : ∀ k, (∀ y0 y1 y2 y3 y4 y5, LeO (laws_FnGroup.j0 k y0 y1 y2 y3 y4 y5) (laws_FnGroup.j0 (k + 1) y0 y1 y2 y3 y4 y5))
  | 0 => fun _ _ _ _ _ _ r h => by simp [laws_FnGroup.j0] at h
  | k + 1 => by
    have ih0 := laws_FnGroup.mono_l k
    · intro y0 y1 y2 y3 y4 y5
      unfold laws_FnGroup.j0
      repeat' first
      | (with_reducible exact ih0 _ _ _ _ _ _)
      | (with_reducible exact impl_DiscreteLog.mono _ _ _)
      | (with_reducible exact impl_HashToGroup.mono _ _ _)
      | (with_reducible exact impl_InverseExponent.mono _ _)
      | (with_reducible exact impl_IsGroupElement.mono _ _)
      | (with_reducible exact impl_MulGroup.mono _ _ _)
      | (with_reducible exact impl_PowGroup.mono _ _ _)
      | (with_reducible exact spec_DrawPowGroup.mono _ _)
      | (with_reducible exact spec_IsGroupElement.mono _ _)
      | (with_reducible exact LeO.refl _)
      | (with_reducible exact LeO.none _)
      | (with_reducible refine LeO.ite ?_ ?_)
      | (with_reducible refine LeO.bind ?_ (fun _ => ?_))
      | exact ih0 _ _ _ _ _ _
      | exact impl_DiscreteLog.mono _ _ _
      | exact impl_HashToGroup.mono _ _ _
      | exact impl_InverseExponent.mono _ _
      | exact impl_IsGroupElement.mono _ _
      | exact impl_MulGroup.mono _ _ _
      | exact impl_PowGroup.mono _ _ _
      | exact spec_DrawPowGroup.mono _ _
      | exact spec_IsGroupElement.mono _ _
      | exact LeO.none _
      | refine LeO.ite ?_ ?_
      | refine LeO.bind ?_ (fun _ => ?_)
theorem laws_FnGroup.mono : ∀ a0 k, LeO (laws_FnGroup.f k a0) (laws_FnGroup.f (k + 1) a0) := by
  intro a0 k
  have ih0 := laws_FnGroup.mono_l k
  unfold laws_FnGroup.f
  repeat' first
      | (with_reducible exact ih0 _ _ _ _ _ _)
      | (with_reducible exact impl_DiscreteLog.mono _ _ _)
      | (with_reducible exact impl_HashToGroup.mono _ _ _)
      | (with_reducible exact impl_InverseExponent.mono _ _)
      | (with_reducible exact impl_IsGroupElement.mono _ _)
      | (with_reducible exact impl_MulGroup.mono _ _ _)
      | (with_reducible exact impl_PowGroup.mono _ _ _)
      | (with_reducible exact spec_DrawPowGroup.mono _ _)
      | (with_reducible exact spec_IsGroupElement.mono _ _)
      | (with_reducible exact LeO.refl _)
      | (with_reducible exact LeO.none _)
      | (with_reducible refine LeO.ite ?_ ?_)
      | (with_reducible refine LeO.bind ?_ (fun _ => ?_))
      | exact ih0 _ _ _ _ _ _
      | exact impl_DiscreteLog.mono _ _ _
      | exact impl_HashToGroup.mono _ _ _
      | exact impl_InverseExponent.mono _ _
      | exact impl_IsGroupElement.mono _ _
      | exact impl_MulGroup.mono _ _ _
      | exact impl_PowGroup.mono _ _ _
      | exact spec_DrawPowGroup.mono _ _
      | exact spec_IsGroupElement.mono _ _
      | exact LeO.none _
      | refine LeO.ite ?_ ?_
      | refine LeO.bind ?_ (fun _ => ?_)
set_option maxHeartbeats 8000000 in
set_option maxRecDepth 100000 in
theorem laws_FnGroup.calls (k : Nat) (A0 : Option Addr) (c0 : Nat) (l0 : List Int) (r : Bool) (w : World) (hr0 : Kd.C (Kd.int .u8) w A0 l0.length l0) (hc0 : l0.length ≤ c0) (h : laws_FnGroup.f k l0 = some r) :
    Calls Try.prog 11 #[.slice A0 l0.length c0] w fun e w' => e = .returned (.bool r) ∧ Below w.heap.size w w' := by
  have HR0 := Aside0.mk hr0
  have HC0 := Aside0.mk hc0
  clear hr0 hc0
  have HB := Aside0.mk (Below.refl w.heap.size w)
  have H : ((laws_big.f l0).bind fun t207 => (if t207 = true then (some true) else ((spec_DrawPowGroup.f k l0).bind fun bt208 => ((spec_IsGroupElement.f k bt208.1).bind fun t210 => (if t210 = true then ((laws_at.f l0 0).bind fun t213 => ((impl_PowGroup.f k bt208.1 bt208.2).bind fun t214 => ((impl_InverseExponent.f k bt208.2).bind fun t215 => ((impl_IsGroupElement.f k t214).bind fun t216 => (if t216 = true then ((impl_PowGroup.f k bt208.1 (wrap64 (t213 * 5))).bind fun t217 => ((impl_MulGroup.f k t214 t217).bind fun t218 => ((spec_Mod.f bt208.2 1019).bind fun t219 => ((impl_PowGroup.f k bt208.1 (wrap64 (t219 + (wrap64 (t213 * 5))))).bind fun t220 => (if t218 = t220 then ((spec_Mod.f bt208.2 1019).bind fun t221 => (if ((t215 == 0) != (t221 == 0)) = true then (laws_FnGroup.j0 k l0 bt208.1 bt208.2 (wrap64 (t213 * 5)) t214 true) else (if t215 = 0 then (laws_FnGroup.j0 k l0 bt208.1 bt208.2 (wrap64 (t213 * 5)) t214 false) else ((impl_PowGroup.f k t214 t215).bind fun t222 => (laws_FnGroup.j0 k l0 bt208.1 bt208.2 (wrap64 (t213 * 5)) t214 (t222 != bt208.1)))))) else (laws_FnGroup.j0 k l0 bt208.1 bt208.2 (wrap64 (t213 * 5)) t214 true)))))) else (laws_FnGroup.j0 k l0 bt208.1 bt208.2 (wrap64 (t213 * 5)) t214 true)))))) else ((impl_PowGroup.f k bt208.1 bt208.2).bind fun t211 => (if t211 = 0 then ((impl_DiscreteLog.f k bt208.1 4).bind fun t212 => (some (t212 == (-1)))) else (some false)))))))) = some r := h
  clear h
  replace H := Option.bind_eq_some_iff.mp H
  obtain ⟨t207, A20, H⟩ := H
  replace H : (if t207 = true then (some true) else ((spec_DrawPowGroup.f k l0).bind fun bt208 => ((spec_IsGroupElement.f k bt208.1).bind fun t210 => (if t210 = true then ((laws_at.f l0 0).bind fun t213 => ((impl_PowGroup.f k bt208.1 bt208.2).bind fun t214 => ((impl_InverseExponent.f k bt208.2).bind fun t215 => ((impl_IsGroupElement.f k t214).bind fun t216 => (if t216 = true then ((impl_PowGroup.f k bt208.1 (wrap64 (t213 * 5))).bind fun t217 => ((impl_MulGroup.f k t214 t217).bind fun t218 => ((spec_Mod.f bt208.2 1019).bind fun t219 => ((impl_PowGroup.f k bt208.1 (wrap64 (t219 + (wrap64 (t213 * 5))))).bind fun t220 => (if t218 = t220 then ((spec_Mod.f bt208.2 1019).bind fun t221 => (if ((t215 == 0) != (t221 == 0)) = true then (laws_FnGroup.j0 k l0 bt208.1 bt208.2 (wrap64 (t213 * 5)) t214 true) else (if t215 = 0 then (laws_FnGroup.j0 k l0 bt208.1 bt208.2 (wrap64 (t213 * 5)) t214 false) else ((impl_PowGroup.f k t214 t215).bind fun t222 => (laws_FnGroup.j0 k l0 bt208.1 bt208.2 (wrap64 (t213 * 5)) t214 (t222 != bt208.1)))))) else (laws_FnGroup.j0 k l0 bt208.1 bt208.2 (wrap64 (t213 * 5)) t214 true)))))) else (laws_FnGroup.j0 k l0 bt208.1 bt208.2 (wrap64 (t213 * 5)) t214 true)))))) else ((impl_PowGroup.f k bt208.1 bt208.2).bind fun t211 => (if t211 = 0 then ((impl_DiscreteLog.f k bt208.1 4).bind fun t212 => (some (t212 == (-1)))) else (some false))))))) = some r := H
  have A2 := Aside0.mk A20
  clear A20
  by_cases c3 : t207 = true
  · subst c3
    have H1 : (some true) = some r := by rw [if_pos rfl] at H; exact H
    clear H
    have H := H1
    clear H1
    obtain rfl := Option.some.inj H
    go_enter Try.func11, Try.ntmps11
    go_wp2_with (first | ((with_reducible refine gate_callee (f := 31) rfl ?_); refine goesL_ (some 10) rfl rfl Try.func31 (by kernel_rfl) rfl #[.slice A0 l0.length c0] rfl (by (try simp only [List.map_toArray, List.map_cons, List.map_nil]); first | done | rfl | (simp only [List.length_drop, List.length_take]; rfl)) ?_; (with_reducible refine (laws_big.calls _ _ l0 true _ ?side1 ?side2 A2.out).mono ?_); (case side1 => repeat (first | exact HR0.out | (with_reducible refine Kd.C_alloc ?_ _) | (with_reducible refine Kd.C_drewN ?_ _) | (with_reducible refine Kd.C_drew ?_))); (case side2 => exact HC0.out); rintro e w' ⟨rfl, ⟨nd, rfl⟩⟩; refine ⟨_, rfl, ?_⟩))
    go_ret
    exact ⟨by first | rfl | (simp [errW_none, errW_some] <;> rfl) | (simp [*, errW_none, errW_some] <;> rfl), by repeat (first | (with_reducible first | exact HB.out | apply below_alloc | apply pw_below_drewN | apply below_drew1) | exact HB.out)⟩
  · replace c3 := Bool.eq_false_iff.mpr c3
    subst c3
    have H1 : ((spec_DrawPowGroup.f k l0).bind fun bt208 => ((spec_IsGroupElement.f k bt208.1).bind fun t210 => (if t210 = true then ((laws_at.f l0 0).bind fun t213 => ((impl_PowGroup.f k bt208.1 bt208.2).bind fun t214 => ((impl_InverseExponent.f k bt208.2).bind fun t215 => ((impl_IsGroupElement.f k t214).bind fun t216 => (if t216 = true then ((impl_PowGroup.f k bt208.1 (wrap64 (t213 * 5))).bind fun t217 => ((impl_MulGroup.f k t214 t217).bind fun t218 => ((spec_Mod.f bt208.2 1019).bind fun t219 => ((impl_PowGroup.f k bt208.1 (wrap64 (t219 + (wrap64 (t213 * 5))))).bind fun t220 => (if t218 = t220 then ((spec_Mod.f bt208.2 1019).bind fun t221 => (if ((t215 == 0) != (t221 == 0)) = true then (laws_FnGroup.j0 k l0 bt208.1 bt208.2 (wrap64 (t213 * 5)) t214 true) else (if t215 = 0 then (laws_FnGroup.j0 k l0 bt208.1 bt208.2 (wrap64 (t213 * 5)) t214 false) else ((impl_PowGroup.f k t214 t215).bind fun t222 => (laws_FnGroup.j0 k l0 bt208.1 bt208.2 (wrap64 (t213 * 5)) t214 (t222 != bt208.1)))))) else (laws_FnGroup.j0 k l0 bt208.1 bt208.2 (wrap64 (t213 * 5)) t214 true)))))) else (laws_FnGroup.j0 k l0 bt208.1 bt208.2 (wrap64 (t213 * 5)) t214 true)))))) else ((impl_PowGroup.f k bt208.1 bt208.2).bind fun t211 => (if t211 = 0 then ((impl_DiscreteLog.f k bt208.1 4).bind fun t212 => (some (t212 == (-1)))) else (some false)))))) = some r := by rw [if_neg (show ¬ (false = true) by decide)] at H; exact H
    clear H
    have H := H1
    clear H1
    replace H := Option.bind_eq_some_iff.mp H
    obtain ⟨⟨t208, t209⟩, A40, H⟩ := H
    replace H : ((spec_IsGroupElement.f k t208).bind fun t210 => (if t210 = true then ((laws_at.f l0 0).bind fun t213 => ((impl_PowGroup.f k t208 t209).bind fun t214 => ((impl_InverseExponent.f k t209).bind fun t215 => ((impl_IsGroupElement.f k t214).bind fun t216 => (if t216 = true then ((impl_PowGroup.f k t208 (wrap64 (t213 * 5))).bind fun t217 => ((impl_MulGroup.f k t214 t217).bind fun t218 => ((spec_Mod.f t209 1019).bind fun t219 => ((impl_PowGroup.f k t208 (wrap64 (t219 + (wrap64 (t213 * 5))))).bind fun t220 => (if t218 = t220 then ((spec_Mod.f t209 1019).bind fun t221 => (if ((t215 == 0) != (t221 == 0)) = true then (laws_FnGroup.j0 k l0 t208 t209 (wrap64 (t213 * 5)) t214 true) else (if t215 = 0 then (laws_FnGroup.j0 k l0 t208 t209 (wrap64 (t213 * 5)) t214 false) else ((impl_PowGroup.f k t214 t215).bind fun t222 => (laws_FnGroup.j0 k l0 t208 t209 (wrap64 (t213 * 5)) t214 (t222 != t208)))))) else (laws_FnGroup.j0 k l0 t208 t209 (wrap64 (t213 * 5)) t214 true)))))) else (laws_FnGroup.j0 k l0 t208 t209 (wrap64 (t213 * 5)) t214 true)))))) else ((impl_PowGroup.f k t208 t209).bind fun t211 => (if t211 = 0 then ((impl_DiscreteLog.f k t208 4).bind fun t212 => (some (t212 == (-1)))) else (some false))))) = some r := H
    have A4 := Aside0.mk A40
    clear A40
    replace H := Option.bind_eq_some_iff.mp H
    obtain ⟨t210, A50, H⟩ := H
    replace H : (if t210 = true then ((laws_at.f l0 0).bind fun t213 => ((impl_PowGroup.f k t208 t209).bind fun t214 => ((impl_InverseExponent.f k t209).bind fun t215 => ((impl_IsGroupElement.f k t214).bind fun t216 => (if t216 = true then ((impl_PowGroup.f k t208 (wrap64 (t213 * 5))).bind fun t217 => ((impl_MulGroup.f k t214 t217).bind fun t218 => ((spec_Mod.f t209 1019).bind fun t219 => ((impl_PowGroup.f k t208 (wrap64 (t219 + (wrap64 (t213 * 5))))).bind fun t220 => (if t218 = t220 then ((spec_Mod.f t209 1019).bind fun t221 => (if ((t215 == 0) != (t221 == 0)) = true then (laws_FnGroup.j0 k l0 t208 t209 (wrap64 (t213 * 5)) t214 true) else (if t215 = 0 then (laws_FnGroup.j0 k l0 t208 t209 (wrap64 (t213 * 5)) t214 false) else ((impl_PowGroup.f k t214 t215).bind fun t222 => (laws_FnGroup.j0 k l0 t208 t209 (wrap64 (t213 * 5)) t214 (t222 != t208)))))) else (laws_FnGroup.j0 k l0 t208 t209 (wrap64 (t213 * 5)) t214 true)))))) else (laws_FnGroup.j0 k l0 t208 t209 (wrap64 (t213 * 5)) t214 true)))))) else ((impl_PowGroup.f k t208 t209).bind fun t211 => (if t211 = 0 then ((impl_DiscreteLog.f k t208 4).bind fun t212 => (some (t212 == (-1)))) else (some false)))) = some r := H
    have A5 := Aside0.mk A50
    clear A50
    by_cases c6 : t210 = true
    · subst c6
      have H1 : ((laws_at.f l0 0).bind fun t213 => ((impl_PowGroup.f k t208 t209).bind fun t214 => ((impl_InverseExponent.f k t209).bind fun t215 => ((impl_IsGroupElement.f k t214).bind fun t216 => (if t216 = true then ((impl_PowGroup.f k t208 (wrap64 (t213 * 5))).bind fun t217 => ((impl_MulGroup.f k t214 t217).bind fun t218 => ((spec_Mod.f t209 1019).bind fun t219 => ((impl_PowGroup.f k t208 (wrap64 (t219 + (wrap64 (t213 * 5))))).bind fun t220 => (if t218 = t220 then ((spec_Mod.f t209 1019).bind fun t221 => (if ((t215 == 0) != (t221 == 0)) = true then (laws_FnGroup.j0 k l0 t208 t209 (wrap64 (t213 * 5)) t214 true) else (if t215 = 0 then (laws_FnGroup.j0 k l0 t208 t209 (wrap64 (t213 * 5)) t214 false) else ((impl_PowGroup.f k t214 t215).bind fun t222 => (laws_FnGroup.j0 k l0 t208 t209 (wrap64 (t213 * 5)) t214 (t222 != t208)))))) else (laws_FnGroup.j0 k l0 t208 t209 (wrap64 (t213 * 5)) t214 true)))))) else (laws_FnGroup.j0 k l0 t208 t209 (wrap64 (t213 * 5)) t214 true)))))) = some r := by rw [if_pos rfl] at H; exact H
      clear H
      have H := H1
      clear H1
      replace H := Option.bind_eq_some_iff.mp H
      obtain ⟨t213, A70, H⟩ := H
      replace H : ((impl_PowGroup.f k t208 t209).bind fun t214 => ((impl_InverseExponent.f k t209).bind fun t215 => ((impl_IsGroupElement.f k t214).bind fun t216 => (if t216 = true then ((impl_PowGroup.f k t208 (wrap64 (t213 * 5))).bind fun t217 => ((impl_MulGroup.f k t214 t217).bind fun t218 => ((spec_Mod.f t209 1019).bind fun t219 => ((impl_PowGroup.f k t208 (wrap64 (t219 + (wrap64 (t213 * 5))))).bind fun t220 => (if t218 = t220 then ((spec_Mod.f t209 1019).bind fun t221 => (if ((t215 == 0) != (t221 == 0)) = true then (laws_FnGroup.j0 k l0 t208 t209 (wrap64 (t213 * 5)) t214 true) else (if t215 = 0 then (laws_FnGroup.j0 k l0 t208 t209 (wrap64 (t213 * 5)) t214 false) else ((impl_PowGroup.f k t214 t215).bind fun t222 => (laws_FnGroup.j0 k l0 t208 t209 (wrap64 (t213 * 5)) t214 (t222 != t208)))))) else (laws_FnGroup.j0 k l0 t208 t209 (wrap64 (t213 * 5)) t214 true)))))) else (laws_FnGroup.j0 k l0 t208 t209 (wrap64 (t213 * 5)) t214 true))))) = some r := H
      have A7 := Aside0.mk A70
      clear A70
      replace H := Option.bind_eq_some_iff.mp H
      obtain ⟨t214, A80, H⟩ := H
      replace H : ((impl_InverseExponent.f k t209).bind fun t215 => ((impl_IsGroupElement.f k t214).bind fun t216 => (if t216 = true then ((impl_PowGroup.f k t208 (wrap64 (t213 * 5))).bind fun t217 => ((impl_MulGroup.f k t214 t217).bind fun t218 => ((spec_Mod.f t209 1019).bind fun t219 => ((impl_PowGroup.f k t208 (wrap64 (t219 + (wrap64 (t213 * 5))))).bind fun t220 => (if t218 = t220 then ((spec_Mod.f t209 1019).bind fun t221 => (if ((t215 == 0) != (t221 == 0)) = true then (laws_FnGroup.j0 k l0 t208 t209 (wrap64 (t213 * 5)) t214 true) else (if t215 = 0 then (laws_FnGroup.j0 k l0 t208 t209 (wrap64 (t213 * 5)) t214 false) else ((impl_PowGroup.f k t214 t215).bind fun t222 => (laws_FnGroup.j0 k l0 t208 t209 (wrap64 (t213 * 5)) t214 (t222 != t208)))))) else (laws_FnGroup.j0 k l0 t208 t209 (wrap64 (t213 * 5)) t214 true)))))) else (laws_FnGroup.j0 k l0 t208 t209 (wrap64 (t213 * 5)) t214 true)))) = some r := H
      have A8 := Aside0.mk A80
      clear A80
      replace H := Option.bind_eq_some_iff.mp H
      obtain ⟨t215, A90, H⟩ := H
      replace H : ((impl_IsGroupElement.f k t214).bind fun t216 => (if t216 = true then ((impl_PowGroup.f k t208 (wrap64 (t213 * 5))).bind fun t217 => ((impl_MulGroup.f k t214 t217).bind fun t218 => ((spec_Mod.f t209 1019).bind fun t219 => ((impl_PowGroup.f k t208 (wrap64 (t219 + (wrap64 (t213 * 5))))).bind fun t220 => (if t218 = t220 then ((spec_Mod.f t209 1019).bind fun t221 => (if ((t215 == 0) != (t221 == 0)) = true then (laws_FnGroup.j0 k l0 t208 t209 (wrap64 (t213 * 5)) t214 true) else (if t215 = 0 then (laws_FnGroup.j0 k l0 t208 t209 (wrap64 (t213 * 5)) t214 false) else ((impl_PowGroup.f k t214 t215).bind fun t222 => (laws_FnGroup.j0 k l0 t208 t209 (wrap64 (t213 * 5)) t214 (t222 != t208)))))) else (laws_FnGroup.j0 k l0 t208 t209 (wrap64 (t213 * 5)) t214 true)))))) else (laws_FnGroup.j0 k l0 t208 t209 (wrap64 (t213 * 5)) t214 true))) = some r := H
      have A9 := Aside0.mk A90
      clear A90
      have HC10 := Aside0.mk H
      clear H
      go_enter Try.func11, Try.ntmps11
      go_upto_region 9 with (first | ((with_reducible refine gate_callee (f := 31) rfl ?_); refine goesL_ (some 10) rfl rfl Try.func31 (by kernel_rfl) rfl #[.slice A0 l0.length c0] rfl (by (try simp only [List.map_toArray, List.map_cons, List.map_nil]); first | done | rfl | (simp only [List.length_drop, List.length_take]; rfl)) ?_; (with_reducible refine (laws_big.calls _ _ l0 false _ ?side1 ?side2 A2.out).mono ?_); (case side1 => repeat (first | exact HR0.out | (with_reducible refine Kd.C_alloc ?_ _) | (with_reducible refine Kd.C_drewN ?_ _) | (with_reducible refine Kd.C_drew ?_))); (case side2 => exact HC0.out); rintro e w' ⟨rfl, ⟨nd, rfl⟩⟩; refine ⟨_, rfl, ?_⟩) | ((with_reducible refine gate_callee (f := 32) rfl ?_); refine goesL_ (some 13) rfl rfl Try.func32 (by kernel_rfl) rfl #[.slice A0 l0.length c0] rfl (by (try simp only [List.map_toArray, List.map_cons, List.map_nil]); first | done | rfl | (simp only [List.length_drop, List.length_take]; rfl)) ?_; (with_reducible refine (spec_DrawPowGroup.calls k _ _ l0 t208 t209 _ ?side1 ?side2 A4.out).mono ?_); (case side1 => repeat (first | exact HR0.out | (with_reducible refine Kd.C_alloc ?_ _) | (with_reducible refine Kd.C_drewN ?_ _) | (with_reducible refine Kd.C_drew ?_))); (case side2 => exact HC0.out); rintro e w11 ⟨rfl, hb⟩; refine ⟨_, rfl, ?_⟩; have n0_ := Aside0.mk (below_step (by repeat (first | (with_reducible first | exact HB.out | apply below_alloc | apply pw_below_drewN | apply below_drew1) | exact HB.out)) hb); clear HB; have HB := n0_; clear n0_; (try clear hb); (try clear hb2); (try clear hk); (try clear hi)) | ((with_reducible refine gate_callee (f := 15) rfl ?_); refine goesL_ (some 17) rfl rfl Try.func15 (by kernel_rfl) rfl #[.int .i64 t208] rfl (by (try simp only [List.map_toArray, List.map_cons, List.map_nil]); first | done | rfl | (simp only [List.length_drop, List.length_take]; rfl)) ?_; (with_reducible refine (spec_IsGroupElement.calls k t208 true _ A5.out).mono ?_); rintro e w' ⟨rfl, ⟨nd, rfl⟩⟩; refine ⟨_, rfl, ?_⟩) | ((with_reducible refine gate_callee (f := 33) rfl ?_); refine goesL_ (some 29) rfl rfl Try.func33 (by kernel_rfl) rfl #[.slice A0 l0.length c0, .int .i64 0] rfl (by (try simp only [List.map_toArray, List.map_cons, List.map_nil]); first | done | rfl | (simp only [List.length_drop, List.length_take]; rfl)) ?_; (with_reducible refine (laws_at.calls _ _ l0 0 t213 _ ?side1 ?side2 A7.out).mono ?_); (case side1 => repeat (first | exact (Kd.C_below HR0.out (by repeat (first | (with_reducible first | exact HB.out | apply below_alloc | apply pw_below_drewN | apply below_drew1) | exact HB.out))) | (with_reducible refine Kd.C_alloc ?_ _) | (with_reducible refine Kd.C_drewN ?_ _) | (with_reducible refine Kd.C_drew ?_))); (case side2 => exact HC0.out); rintro e w' ⟨rfl, ⟨nd, rfl⟩⟩; refine ⟨_, rfl, ?_⟩) | ((with_reducible refine gate_callee (f := 20) rfl ?_); refine goesL_ (some 33) rfl rfl Try.func20 (by kernel_rfl) rfl #[.int .i64 t208, .int .i64 t209] rfl (by (try simp only [List.map_toArray, List.map_cons, List.map_nil]); first | done | rfl | (simp only [List.length_drop, List.length_take]; rfl)) ?_; (with_reducible refine (impl_PowGroup.calls k t208 t209 t214 _ A8.out).mono ?_); rintro e w' ⟨rfl, ⟨nd, rfl⟩⟩; refine ⟨_, rfl, ?_⟩) | ((with_reducible refine gate_callee (f := 22) rfl ?_); refine goesL_ (some 35) rfl rfl Try.func22 (by kernel_rfl) rfl #[.int .i64 t209] rfl (by (try simp only [List.map_toArray, List.map_cons, List.map_nil]); first | done | rfl | (simp only [List.length_drop, List.length_take]; rfl)) ?_; (with_reducible refine (impl_InverseExponent.calls k t209 t215 _ A9.out).mono ?_); rintro e w' ⟨rfl, ⟨nd, rfl⟩⟩; refine ⟨_, rfl, ?_⟩))
      (try simp only [Act.put, List.setIfInBounds_toArray, List.set_cons_zero, List.set_cons_succ])
      go_cut [71] (fun v71 wc => ∃ (kq : Nat) (x71_9 : Bool), v71 = .bool x71_9 ∧ Aside0 (laws_FnGroup.j0 kq l0 t208 t209 (wrap64 (t213 * 5)) t214 x71_9 = some r) ∧ Aside0 (kq ≤ k) ∧ Aside0 (Below w.heap.size w wc))
      case first =>
        have H := HC10.out
        clear HC10
        replace H := Option.bind_eq_some_iff.mp H
        obtain ⟨t216, A120, H⟩ := H
        replace H : (if t216 = true then ((impl_PowGroup.f k t208 (wrap64 (t213 * 5))).bind fun t217 => ((impl_MulGroup.f k t214 t217).bind fun t218 => ((spec_Mod.f t209 1019).bind fun t219 => ((impl_PowGroup.f k t208 (wrap64 (t219 + (wrap64 (t213 * 5))))).bind fun t220 => (if t218 = t220 then ((spec_Mod.f t209 1019).bind fun t221 => (if ((t215 == 0) != (t221 == 0)) = true then (laws_FnGroup.j0 k l0 t208 t209 (wrap64 (t213 * 5)) t214 true) else (if t215 = 0 then (laws_FnGroup.j0 k l0 t208 t209 (wrap64 (t213 * 5)) t214 false) else ((impl_PowGroup.f k t214 t215).bind fun t222 => (laws_FnGroup.j0 k l0 t208 t209 (wrap64 (t213 * 5)) t214 (t222 != t208)))))) else (laws_FnGroup.j0 k l0 t208 t209 (wrap64 (t213 * 5)) t214 true)))))) else (laws_FnGroup.j0 k l0 t208 t209 (wrap64 (t213 * 5)) t214 true)) = some r := H
        have A12 := Aside0.mk A120
        clear A120
        by_cases c13 : t216 = true
        · subst c13
          have H1 : ((impl_PowGroup.f k t208 (wrap64 (t213 * 5))).bind fun t217 => ((impl_MulGroup.f k t214 t217).bind fun t218 => ((spec_Mod.f t209 1019).bind fun t219 => ((impl_PowGroup.f k t208 (wrap64 (t219 + (wrap64 (t213 * 5))))).bind fun t220 => (if t218 = t220 then ((spec_Mod.f t209 1019).bind fun t221 => (if ((t215 == 0) != (t221 == 0)) = true then (laws_FnGroup.j0 k l0 t208 t209 (wrap64 (t213 * 5)) t214 true) else (if t215 = 0 then (laws_FnGroup.j0 k l0 t208 t209 (wrap64 (t213 * 5)) t214 false) else ((impl_PowGroup.f k t214 t215).bind fun t222 => (laws_FnGroup.j0 k l0 t208 t209 (wrap64 (t213 * 5)) t214 (t222 != t208)))))) else (laws_FnGroup.j0 k l0 t208 t209 (wrap64 (t213 * 5)) t214 true)))))) = some r := by rw [if_pos rfl] at H; exact H
          clear H
          have H := H1
          clear H1
          replace H := Option.bind_eq_some_iff.mp H
          obtain ⟨t217, A140, H⟩ := H
          replace H : ((impl_MulGroup.f k t214 t217).bind fun t218 => ((spec_Mod.f t209 1019).bind fun t219 => ((impl_PowGroup.f k t208 (wrap64 (t219 + (wrap64 (t213 * 5))))).bind fun t220 => (if t218 = t220 then ((spec_Mod.f t209 1019).bind fun t221 => (if ((t215 == 0) != (t221 == 0)) = true then (laws_FnGroup.j0 k l0 t208 t209 (wrap64 (t213 * 5)) t214 true) else (if t215 = 0 then (laws_FnGroup.j0 k l0 t208 t209 (wrap64 (t213 * 5)) t214 false) else ((impl_PowGroup.f k t214 t215).bind fun t222 => (laws_FnGroup.j0 k l0 t208 t209 (wrap64 (t213 * 5)) t214 (t222 != t208)))))) else (laws_FnGroup.j0 k l0 t208 t209 (wrap64 (t213 * 5)) t214 true))))) = some r := H
          have A14 := Aside0.mk A140
          clear A140
          replace H := Option.bind_eq_some_iff.mp H
          obtain ⟨t218, A150, H⟩ := H
          replace H : ((spec_Mod.f t209 1019).bind fun t219 => ((impl_PowGroup.f k t208 (wrap64 (t219 + (wrap64 (t213 * 5))))).bind fun t220 => (if t218 = t220 then ((spec_Mod.f t209 1019).bind fun t221 => (if ((t215 == 0) != (t221 == 0)) = true then (laws_FnGroup.j0 k l0 t208 t209 (wrap64 (t213 * 5)) t214 true) else (if t215 = 0 then (laws_FnGroup.j0 k l0 t208 t209 (wrap64 (t213 * 5)) t214 false) else ((impl_PowGroup.f k t214 t215).bind fun t222 => (laws_FnGroup.j0 k l0 t208 t209 (wrap64 (t213 * 5)) t214 (t222 != t208)))))) else (laws_FnGroup.j0 k l0 t208 t209 (wrap64 (t213 * 5)) t214 true)))) = some r := H
          have A15 := Aside0.mk A150
          clear A150
          replace H := Option.bind_eq_some_iff.mp H
          obtain ⟨t219, A160, H⟩ := H
          replace H : ((impl_PowGroup.f k t208 (wrap64 (t219 + (wrap64 (t213 * 5))))).bind fun t220 => (if t218 = t220 then ((spec_Mod.f t209 1019).bind fun t221 => (if ((t215 == 0) != (t221 == 0)) = true then (laws_FnGroup.j0 k l0 t208 t209 (wrap64 (t213 * 5)) t214 true) else (if t215 = 0 then (laws_FnGroup.j0 k l0 t208 t209 (wrap64 (t213 * 5)) t214 false) else ((impl_PowGroup.f k t214 t215).bind fun t222 => (laws_FnGroup.j0 k l0 t208 t209 (wrap64 (t213 * 5)) t214 (t222 != t208)))))) else (laws_FnGroup.j0 k l0 t208 t209 (wrap64 (t213 * 5)) t214 true))) = some r := H
          have A16 := Aside0.mk A160
          clear A160
          replace H := Option.bind_eq_some_iff.mp H
          obtain ⟨t220, A170, H⟩ := H
          replace H : (if t218 = t220 then ((spec_Mod.f t209 1019).bind fun t221 => (if ((t215 == 0) != (t221 == 0)) = true then (laws_FnGroup.j0 k l0 t208 t209 (wrap64 (t213 * 5)) t214 true) else (if t215 = 0 then (laws_FnGroup.j0 k l0 t208 t209 (wrap64 (t213 * 5)) t214 false) else ((impl_PowGroup.f k t214 t215).bind fun t222 => (laws_FnGroup.j0 k l0 t208 t209 (wrap64 (t213 * 5)) t214 (t222 != t208)))))) else (laws_FnGroup.j0 k l0 t208 t209 (wrap64 (t213 * 5)) t214 true)) = some r := H
          have A17 := Aside0.mk A170
          clear A170
          by_cases c18 : t218 = t220
          · rw [if_pos c18] at H
            have c18b0 : (t218 == t220) = true := beq_iff_eq.mpr c18
            have c18b1 : (t218 != t220) = false := bne_eq_false_iff_eq.mpr c18
            clear c18
            (first | rw [c18b0] | (simp only [i64_w, i32_w]; rw [c18b0]) | skip)
            replace H := Option.bind_eq_some_iff.mp H
            obtain ⟨t221, A190, H⟩ := H
            replace H : (if ((t215 == 0) != (t221 == 0)) = true then (laws_FnGroup.j0 k l0 t208 t209 (wrap64 (t213 * 5)) t214 true) else (if t215 = 0 then (laws_FnGroup.j0 k l0 t208 t209 (wrap64 (t213 * 5)) t214 false) else ((impl_PowGroup.f k t214 t215).bind fun t222 => (laws_FnGroup.j0 k l0 t208 t209 (wrap64 (t213 * 5)) t214 (t222 != t208))))) = some r := H
            have A19 := Aside0.mk A190
            clear A190
            have e_same : t219 = t221 := Option.some.inj (A16.out.symm.trans A19.out)
            subst e_same
            cases hz1 : (t215 == 0) with
            | false =>
              have hz1b : (t215 != 0) = true := bne_iff_ne.mpr (beq_eq_false_iff_ne.mp hz1)
              cases hz2 : (t219 == 0) with
              | false =>
                have hz2b : (t219 != 0) = true := bne_iff_ne.mpr (beq_eq_false_iff_ne.mp hz2)
                rw [if_neg (by rw [hz1, hz2]; decide), if_neg (beq_eq_false_iff_ne.mp hz1)] at H
                replace H := Option.bind_eq_some_iff.mp H
                obtain ⟨t222, A220, H⟩ := H
                replace H : (laws_FnGroup.j0 k l0 t208 t209 (wrap64 (t213 * 5)) t214 (t222 != t208)) = some r := H
                have A22 := Aside0.mk A220
                clear A220
                have H' := Aside0.mk H
                clear H
                go_wp2_with (first | ((with_reducible refine gate_callee (f := 16) rfl ?_); refine goesL_ (some 37) rfl rfl Try.func16 (by kernel_rfl) rfl #[.int .i64 t214] rfl (by (try simp only [List.map_toArray, List.map_cons, List.map_nil]); first | done | rfl | (simp only [List.length_drop, List.length_take]; rfl)) ?_; (with_reducible refine (impl_IsGroupElement.calls k t214 true _ A12.out).mono ?_); rintro e w' ⟨rfl, ⟨nd, rfl⟩⟩; refine ⟨_, rfl, ?_⟩) | (go_at_call 20; (with_reducible refine (impl_PowGroup.calls k t208 (wrap64 (t213 * 5)) t217 _ A14.out).mono ?_); rintro e w' ⟨rfl, ⟨nd, rfl⟩⟩) | (go_at_call 18; (with_reducible refine (impl_MulGroup.calls k t214 t217 t218 _ A15.out).mono ?_); rintro e w' ⟨rfl, ⟨nd, rfl⟩⟩) | (go_at_call 34; (with_reducible refine (spec_Mod.calls t209 1019 t219 _ A16.out).mono ?_); rintro e w' ⟨rfl, ⟨nd, rfl⟩⟩) | (go_at_call 20; (with_reducible refine (impl_PowGroup.calls k t208 (wrap64 (t219 + (wrap64 (t213 * 5)))) t220 _ A17.out).mono ?_); rintro e w' ⟨rfl, ⟨nd, rfl⟩⟩) | (go_at_call 34; (with_reducible refine (spec_Mod.calls t209 1019 t219 _ A19.out).mono ?_); rintro e w' ⟨rfl, ⟨nd, rfl⟩⟩) | (go_at_call 20; (with_reducible refine (impl_PowGroup.calls k t214 t215 t222 _ A22.out).mono ?_); rintro e w' ⟨rfl, ⟨nd, rfl⟩⟩))
                go_meet
                case rel => exact ⟨_, ((t222 != t208)), (by first | rfl | (simp; done) | (simp [*]; done)), H', ⟨by first | omega | exact Nat.le_refl _⟩, ⟨by repeat (first | (with_reducible first | exact HB.out | apply below_alloc | apply pw_below_drewN | apply below_drew1) | exact HB.out)⟩⟩
              | true =>
                rw [if_pos (by rw [hz1, hz2]; decide)] at H
                obtain rfl : t219 = 0 := beq_iff_eq.mp hz2
                have Az := A17.out
                rw [Int.zero_add] at Az
                have A17 := Aside0.mk Az
                clear Az
                have H' := Aside0.mk H
                clear H
                go_wp2_with (first | ((with_reducible refine gate_callee (f := 16) rfl ?_); refine goesL_ (some 37) rfl rfl Try.func16 (by kernel_rfl) rfl #[.int .i64 t214] rfl (by (try simp only [List.map_toArray, List.map_cons, List.map_nil]); first | done | rfl | (simp only [List.length_drop, List.length_take]; rfl)) ?_; (with_reducible refine (impl_IsGroupElement.calls k t214 true _ A12.out).mono ?_); rintro e w' ⟨rfl, ⟨nd, rfl⟩⟩; refine ⟨_, rfl, ?_⟩) | (go_at_call 20; (with_reducible refine (impl_PowGroup.calls k t208 (wrap64 (t213 * 5)) t217 _ A14.out).mono ?_); rintro e w' ⟨rfl, ⟨nd, rfl⟩⟩) | (go_at_call 18; (with_reducible refine (impl_MulGroup.calls k t214 t217 t218 _ A15.out).mono ?_); rintro e w' ⟨rfl, ⟨nd, rfl⟩⟩) | (go_at_call 34; (with_reducible refine (spec_Mod.calls t209 1019 0 _ A16.out).mono ?_); rintro e w' ⟨rfl, ⟨nd, rfl⟩⟩) | (go_at_call 20; (with_reducible refine (impl_PowGroup.calls k t208 (wrap64 (wrap64 (t213 * 5))) t220 _ A17.out).mono ?_); rintro e w' ⟨rfl, ⟨nd, rfl⟩⟩) | (go_at_call 34; (with_reducible refine (spec_Mod.calls t209 1019 0 _ A19.out).mono ?_); rintro e w' ⟨rfl, ⟨nd, rfl⟩⟩))
                go_meet
                case rel => exact ⟨_, (true), (by first | rfl | (simp; done) | (simp [*]; done)), H', ⟨by first | omega | exact Nat.le_refl _⟩, ⟨by repeat (first | (with_reducible first | exact HB.out | apply below_alloc | apply pw_below_drewN | apply below_drew1) | exact HB.out)⟩⟩
            | true =>
              cases hz2 : (t219 == 0) with
              | false =>
                have hz2b : (t219 != 0) = true := bne_iff_ne.mpr (beq_eq_false_iff_ne.mp hz2)
                rw [if_pos (by rw [hz1, hz2]; decide)] at H
                obtain rfl : t215 = 0 := beq_iff_eq.mp hz1
                have H' := Aside0.mk H
                clear H
                go_wp2_with (first | ((with_reducible refine gate_callee (f := 16) rfl ?_); refine goesL_ (some 37) rfl rfl Try.func16 (by kernel_rfl) rfl #[.int .i64 t214] rfl (by (try simp only [List.map_toArray, List.map_cons, List.map_nil]); first | done | rfl | (simp only [List.length_drop, List.length_take]; rfl)) ?_; (with_reducible refine (impl_IsGroupElement.calls k t214 true _ A12.out).mono ?_); rintro e w' ⟨rfl, ⟨nd, rfl⟩⟩; refine ⟨_, rfl, ?_⟩) | (go_at_call 20; (with_reducible refine (impl_PowGroup.calls k t208 (wrap64 (t213 * 5)) t217 _ A14.out).mono ?_); rintro e w' ⟨rfl, ⟨nd, rfl⟩⟩) | (go_at_call 18; (with_reducible refine (impl_MulGroup.calls k t214 t217 t218 _ A15.out).mono ?_); rintro e w' ⟨rfl, ⟨nd, rfl⟩⟩) | (go_at_call 34; (with_reducible refine (spec_Mod.calls t209 1019 t219 _ A16.out).mono ?_); rintro e w' ⟨rfl, ⟨nd, rfl⟩⟩) | (go_at_call 20; (with_reducible refine (impl_PowGroup.calls k t208 (wrap64 (t219 + (wrap64 (t213 * 5)))) t220 _ A17.out).mono ?_); rintro e w' ⟨rfl, ⟨nd, rfl⟩⟩) | (go_at_call 34; (with_reducible refine (spec_Mod.calls t209 1019 t219 _ A19.out).mono ?_); rintro e w' ⟨rfl, ⟨nd, rfl⟩⟩))
                go_meet
                case rel => exact ⟨_, (true), (by first | rfl | (simp; done) | (simp [*]; done)), H', ⟨by first | omega | exact Nat.le_refl _⟩, ⟨by repeat (first | (with_reducible first | exact HB.out | apply below_alloc | apply pw_below_drewN | apply below_drew1) | exact HB.out)⟩⟩
              | true =>
                rw [if_neg (by rw [hz1, hz2]; decide), if_pos (beq_iff_eq.mp hz1)] at H
                obtain rfl : t215 = 0 := beq_iff_eq.mp hz1
                obtain rfl : t219 = 0 := beq_iff_eq.mp hz2
                have Az := A17.out
                rw [Int.zero_add] at Az
                have A17 := Aside0.mk Az
                clear Az
                have H' := Aside0.mk H
                clear H
                go_wp2_with (first | ((with_reducible refine gate_callee (f := 16) rfl ?_); refine goesL_ (some 37) rfl rfl Try.func16 (by kernel_rfl) rfl #[.int .i64 t214] rfl (by (try simp only [List.map_toArray, List.map_cons, List.map_nil]); first | done | rfl | (simp only [List.length_drop, List.length_take]; rfl)) ?_; (with_reducible refine (impl_IsGroupElement.calls k t214 true _ A12.out).mono ?_); rintro e w' ⟨rfl, ⟨nd, rfl⟩⟩; refine ⟨_, rfl, ?_⟩) | (go_at_call 20; (with_reducible refine (impl_PowGroup.calls k t208 (wrap64 (t213 * 5)) t217 _ A14.out).mono ?_); rintro e w' ⟨rfl, ⟨nd, rfl⟩⟩) | (go_at_call 18; (with_reducible refine (impl_MulGroup.calls k t214 t217 t218 _ A15.out).mono ?_); rintro e w' ⟨rfl, ⟨nd, rfl⟩⟩) | (go_at_call 34; (with_reducible refine (spec_Mod.calls t209 1019 0 _ A16.out).mono ?_); rintro e w' ⟨rfl, ⟨nd, rfl⟩⟩) | (go_at_call 20; (with_reducible refine (impl_PowGroup.calls k t208 (wrap64 (wrap64 (t213 * 5))) t220 _ A17.out).mono ?_); rintro e w' ⟨rfl, ⟨nd, rfl⟩⟩) | (go_at_call 34; (with_reducible refine (spec_Mod.calls t209 1019 0 _ A19.out).mono ?_); rintro e w' ⟨rfl, ⟨nd, rfl⟩⟩))
                go_meet
                case rel => exact ⟨_, (false), (by first | rfl | (simp; done) | (simp [*]; done)), H', ⟨by first | omega | exact Nat.le_refl _⟩, ⟨by repeat (first | (with_reducible first | exact HB.out | apply below_alloc | apply pw_below_drewN | apply below_drew1) | exact HB.out)⟩⟩
          · rw [if_neg c18] at H
            have c18b0 : (t218 == t220) = false := beq_eq_false_iff_ne.mpr c18
            have c18b1 : (t218 != t220) = true := bne_iff_ne.mpr c18
            (first | rw [c18b0] | (simp only [i64_w, i32_w]; rw [c18b0]) | skip)
            have H' := Aside0.mk H
            clear H
            go_wp2_with (first | ((with_reducible refine gate_callee (f := 16) rfl ?_); refine goesL_ (some 37) rfl rfl Try.func16 (by kernel_rfl) rfl #[.int .i64 t214] rfl (by (try simp only [List.map_toArray, List.map_cons, List.map_nil]); first | done | rfl | (simp only [List.length_drop, List.length_take]; rfl)) ?_; (with_reducible refine (impl_IsGroupElement.calls k t214 true _ A12.out).mono ?_); rintro e w' ⟨rfl, ⟨nd, rfl⟩⟩; refine ⟨_, rfl, ?_⟩) | (go_at_call 20; (with_reducible refine (impl_PowGroup.calls k t208 (wrap64 (t213 * 5)) t217 _ A14.out).mono ?_); rintro e w' ⟨rfl, ⟨nd, rfl⟩⟩) | (go_at_call 18; (with_reducible refine (impl_MulGroup.calls k t214 t217 t218 _ A15.out).mono ?_); rintro e w' ⟨rfl, ⟨nd, rfl⟩⟩) | (go_at_call 34; (with_reducible refine (spec_Mod.calls t209 1019 t219 _ A16.out).mono ?_); rintro e w' ⟨rfl, ⟨nd, rfl⟩⟩) | (go_at_call 20; (with_reducible refine (impl_PowGroup.calls k t208 (wrap64 (t219 + (wrap64 (t213 * 5)))) t220 _ A17.out).mono ?_); rintro e w' ⟨rfl, ⟨nd, rfl⟩⟩))
            go_meet
            case rel => exact ⟨_, (true), (by first | rfl | (simp; done) | (simp [*]; done)), H', ⟨by first | omega | exact Nat.le_refl _⟩, ⟨by repeat (first | (with_reducible first | exact HB.out | apply below_alloc | apply pw_below_drewN | apply below_drew1) | exact HB.out)⟩⟩
        · replace c13 := Bool.eq_false_iff.mpr c13
          subst c13
          have H1 : (laws_FnGroup.j0 k l0 t208 t209 (wrap64 (t213 * 5)) t214 true) = some r := by rw [if_neg (show ¬ (false = true) by decide)] at H; exact H
          clear H
          have H := H1
          clear H1
          have H' := Aside0.mk H
          clear H
          go_wp2_with (first | ((with_reducible refine gate_callee (f := 16) rfl ?_); refine goesL_ (some 37) rfl rfl Try.func16 (by kernel_rfl) rfl #[.int .i64 t214] rfl (by (try simp only [List.map_toArray, List.map_cons, List.map_nil]); first | done | rfl | (simp only [List.length_drop, List.length_take]; rfl)) ?_; (with_reducible refine (impl_IsGroupElement.calls k t214 false _ A12.out).mono ?_); rintro e w' ⟨rfl, ⟨nd, rfl⟩⟩; refine ⟨_, rfl, ?_⟩))
          go_meet
          case rel => exact ⟨_, (true), (by first | rfl | (simp; done) | (simp [*]; done)), H', ⟨by first | omega | exact Nat.le_refl _⟩, ⟨by repeat (first | (with_reducible first | exact HB.out | apply below_alloc | apply pw_below_drewN | apply below_drew1) | exact HB.out)⟩⟩
      case rest =>
        clear HC10
        try clear c1
        try clear c2
        try clear p2
        try clear c3
        try clear c6
        try clear p6
        try clear c11
        try clear c13
        try clear c15
        try clear c16
        try clear c18
        try clear c18b0
        try clear c18b1
        try clear c20
        try clear c20b0
        try clear c20b1
        try clear c20b2
        try clear c21
        try clear c21b0
        try clear c21b1
        try clear c22
        obtain ⟨kq, x71_9, rfl, HA, HJ9, HB⟩ := hcut
        cases kq with
        | zero => exact absurd HA.out (by simp [laws_FnGroup.j0])
        | succ kj9 =>
          have H := HA.out
          clear HA
          simp only [laws_FnGroup.j0] at H
          by_cases c23 : x71_9 = true
          · subst c23
            have H1 : (some false) = some r := by rw [if_pos rfl] at H; exact H
            clear H
            have H := H1
            clear H1
            obtain rfl := Option.some.inj H
            go_wp2
            go_ret
            exact ⟨by first | rfl | (simp [errW_none, errW_some] <;> rfl) | (simp [*, errW_none, errW_some] <;> rfl), by repeat (first | (with_reducible first | exact HB.out | apply below_alloc | apply pw_below_drewN | apply below_drew1) | exact HB.out)⟩
          · replace c23 := Bool.eq_false_iff.mpr c23
            subst c23
            have H1 : ((laws_at.f l0 1).bind fun t223 => ((impl_HashToGroup.f kj9 t223 (wrap64 (t213 * 5))).bind fun t224 => (if t208 = 1 then ((impl_IsGroupElement.f kj9 t224).bind fun t225 => (if t225 = true then (some (t224 != 1)) else (some false))) else ((impl_DiscreteLog.f kj9 t208 t214).bind fun t226 => ((spec_Mod.f t209 1019).bind fun t227 => (if t226 = t227 then ((impl_IsGroupElement.f kj9 t224).bind fun t228 => (if t228 = true then (some (t224 != 1)) else (some false))) else (some false))))))) = some r := by rw [if_neg (show ¬ (false = true) by decide)] at H; exact H
            clear H
            have H := H1
            clear H1
            replace H := Option.bind_eq_some_iff.mp H
            obtain ⟨t223, A240, H⟩ := H
            replace H : ((impl_HashToGroup.f kj9 t223 (wrap64 (t213 * 5))).bind fun t224 => (if t208 = 1 then ((impl_IsGroupElement.f kj9 t224).bind fun t225 => (if t225 = true then (some (t224 != 1)) else (some false))) else ((impl_DiscreteLog.f kj9 t208 t214).bind fun t226 => ((spec_Mod.f t209 1019).bind fun t227 => (if t226 = t227 then ((impl_IsGroupElement.f kj9 t224).bind fun t228 => (if t228 = true then (some (t224 != 1)) else (some false))) else (some false)))))) = some r := H
            have A24 := Aside0.mk A240
            clear A240
            replace H := Option.bind_eq_some_iff.mp H
            obtain ⟨t224, A250, H⟩ := H
            replace H : (if t208 = 1 then ((impl_IsGroupElement.f kj9 t224).bind fun t225 => (if t225 = true then (some (t224 != 1)) else (some false))) else ((impl_DiscreteLog.f kj9 t208 t214).bind fun t226 => ((spec_Mod.f t209 1019).bind fun t227 => (if t226 = t227 then ((impl_IsGroupElement.f kj9 t224).bind fun t228 => (if t228 = true then (some (t224 != 1)) else (some false))) else (some false))))) = some r := H
            have A25 := Aside0.mk A250
            clear A250
            by_cases c26 : t208 = 1
            · rw [if_pos c26] at H
              have c26b0 : (t208 == 1) = true := beq_iff_eq.mpr c26
              have c26b1 : (t208 != 1) = false := bne_eq_false_iff_eq.mpr c26
              clear c26
              replace H := Option.bind_eq_some_iff.mp H
              obtain ⟨t225, A270, H⟩ := H
              replace H : (if t225 = true then (some (t224 != 1)) else (some false)) = some r := H
              have A27 := Aside0.mk A270
              clear A270
              by_cases c28 : t225 = true
              · subst c28
                have H1 : (some (t224 != 1)) = some r := by rw [if_pos rfl] at H; exact H
                clear H
                have H := H1
                clear H1
                obtain rfl := Option.some.inj H
                go_wp2_with (first | ((with_reducible refine gate_callee (f := 33) rfl ?_); refine goesL_ (some 73) rfl rfl Try.func33 (by kernel_rfl) rfl #[.slice A0 l0.length c0, .int .i64 1] rfl (by (try simp only [List.map_toArray, List.map_cons, List.map_nil]); first | done | rfl | (simp only [List.length_drop, List.length_take]; rfl)) ?_; (with_reducible refine (laws_at.calls _ _ l0 1 t223 _ ?side1 ?side2 A24.out).mono ?_); (case side1 => repeat (first | exact (Kd.C_below HR0.out HB.out) | (with_reducible refine Kd.C_alloc ?_ _) | (with_reducible refine Kd.C_drewN ?_ _) | (with_reducible refine Kd.C_drew ?_))); (case side2 => exact HC0.out); rintro e w' ⟨rfl, ⟨nd, rfl⟩⟩; refine ⟨_, rfl, ?_⟩) | ((with_reducible refine gate_callee (f := 26) rfl ?_); refine goesL_ (some 75) rfl rfl Try.func26 (by kernel_rfl) rfl #[.int .i64 t223, .int .i64 (wrap64 (t213 * 5))] rfl (by (try simp only [List.map_toArray, List.map_cons, List.map_nil]); first | done | rfl | (simp only [List.length_drop, List.length_take]; rfl)) ?_; (with_reducible refine (impl_HashToGroup.calls kj9 t223 (wrap64 (t213 * 5)) t224 _ A25.out).mono ?_); rintro e w29 ⟨rfl, hb⟩; refine ⟨_, rfl, ?_⟩; have n0_ := Aside0.mk (below_step (by repeat (first | (with_reducible first | exact HB.out | apply below_alloc | apply pw_below_drewN | apply below_drew1) | exact HB.out)) hb); clear HB; have HB := n0_; clear n0_; (try clear hb); (try clear hb2); (try clear hk); (try clear hi)) | (go_at_call 16; (with_reducible refine (impl_IsGroupElement.calls kj9 t224 true _ A27.out).mono ?_); rintro e w' ⟨rfl, ⟨nd, rfl⟩⟩))
                go_ret
                exact ⟨by first | rfl | (simp [errW_none, errW_some] <;> rfl) | (simp [*, errW_none, errW_some] <;> rfl), by repeat (first | (with_reducible first | exact HB.out | apply below_alloc | apply pw_below_drewN | apply below_drew1) | exact HB.out)⟩
              · replace c28 := Bool.eq_false_iff.mpr c28
                subst c28
                have H1 : (some false) = some r := by rw [if_neg (show ¬ (false = true) by decide)] at H; exact H
                clear H
                have H := H1
                clear H1
                obtain rfl := Option.some.inj H
                go_wp2_with (first | ((with_reducible refine gate_callee (f := 33) rfl ?_); refine goesL_ (some 73) rfl rfl Try.func33 (by kernel_rfl) rfl #[.slice A0 l0.length c0, .int .i64 1] rfl (by (try simp only [List.map_toArray, List.map_cons, List.map_nil]); first | done | rfl | (simp only [List.length_drop, List.length_take]; rfl)) ?_; (with_reducible refine (laws_at.calls _ _ l0 1 t223 _ ?side1 ?side2 A24.out).mono ?_); (case side1 => repeat (first | exact (Kd.C_below HR0.out HB.out) | (with_reducible refine Kd.C_alloc ?_ _) | (with_reducible refine Kd.C_drewN ?_ _) | (with_reducible refine Kd.C_drew ?_))); (case side2 => exact HC0.out); rintro e w' ⟨rfl, ⟨nd, rfl⟩⟩; refine ⟨_, rfl, ?_⟩) | ((with_reducible refine gate_callee (f := 26) rfl ?_); refine goesL_ (some 75) rfl rfl Try.func26 (by kernel_rfl) rfl #[.int .i64 t223, .int .i64 (wrap64 (t213 * 5))] rfl (by (try simp only [List.map_toArray, List.map_cons, List.map_nil]); first | done | rfl | (simp only [List.length_drop, List.length_take]; rfl)) ?_; (with_reducible refine (impl_HashToGroup.calls kj9 t223 (wrap64 (t213 * 5)) t224 _ A25.out).mono ?_); rintro e w30 ⟨rfl, hb⟩; refine ⟨_, rfl, ?_⟩; have n0_ := Aside0.mk (below_step (by repeat (first | (with_reducible first | exact HB.out | apply below_alloc | apply pw_below_drewN | apply below_drew1) | exact HB.out)) hb); clear HB; have HB := n0_; clear n0_; (try clear hb); (try clear hb2); (try clear hk); (try clear hi)) | (go_at_call 16; (with_reducible refine (impl_IsGroupElement.calls kj9 t224 false _ A27.out).mono ?_); rintro e w' ⟨rfl, ⟨nd, rfl⟩⟩))
                go_ret
                exact ⟨by first | rfl | (simp [errW_none, errW_some] <;> rfl) | (simp [*, errW_none, errW_some] <;> rfl), by repeat (first | (with_reducible first | exact HB.out | apply below_alloc | apply pw_below_drewN | apply below_drew1) | exact HB.out)⟩
            · rw [if_neg c26] at H
              have c26b0 : (t208 == 1) = false := beq_eq_false_iff_ne.mpr c26
              have c26b1 : (t208 != 1) = true := bne_iff_ne.mpr c26
              replace H := Option.bind_eq_some_iff.mp H
              obtain ⟨t226, A310, H⟩ := H
              replace H : ((spec_Mod.f t209 1019).bind fun t227 => (if t226 = t227 then ((impl_IsGroupElement.f kj9 t224).bind fun t228 => (if t228 = true then (some (t224 != 1)) else (some false))) else (some false))) = some r := H
              have A31 := Aside0.mk A310
              clear A310
              replace H := Option.bind_eq_some_iff.mp H
              obtain ⟨t227, A320, H⟩ := H
              replace H : (if t226 = t227 then ((impl_IsGroupElement.f kj9 t224).bind fun t228 => (if t228 = true then (some (t224 != 1)) else (some false))) else (some false)) = some r := H
              have A32 := Aside0.mk A320
              clear A320
              by_cases c33 : t226 = t227
              · rw [if_pos c33] at H
                have c33b0 : (t226 == t227) = true := beq_iff_eq.mpr c33
                have c33b1 : (t226 != t227) = false := bne_eq_false_iff_eq.mpr c33
                clear c33
                replace H := Option.bind_eq_some_iff.mp H
                obtain ⟨t228, A340, H⟩ := H
                replace H : (if t228 = true then (some (t224 != 1)) else (some false)) = some r := H
                have A34 := Aside0.mk A340
                clear A340
                by_cases c35 : t228 = true
                · subst c35
                  have H1 : (some (t224 != 1)) = some r := by rw [if_pos rfl] at H; exact H
                  clear H
                  have H := H1
                  clear H1
                  obtain rfl := Option.some.inj H
                  go_wp2_with (first | ((with_reducible refine gate_callee (f := 33) rfl ?_); refine goesL_ (some 73) rfl rfl Try.func33 (by kernel_rfl) rfl #[.slice A0 l0.length c0, .int .i64 1] rfl (by (try simp only [List.map_toArray, List.map_cons, List.map_nil]); first | done | rfl | (simp only [List.length_drop, List.length_take]; rfl)) ?_; (with_reducible refine (laws_at.calls _ _ l0 1 t223 _ ?side1 ?side2 A24.out).mono ?_); (case side1 => repeat (first | exact (Kd.C_below HR0.out HB.out) | (with_reducible refine Kd.C_alloc ?_ _) | (with_reducible refine Kd.C_drewN ?_ _) | (with_reducible refine Kd.C_drew ?_))); (case side2 => exact HC0.out); rintro e w' ⟨rfl, ⟨nd, rfl⟩⟩; refine ⟨_, rfl, ?_⟩) | ((with_reducible refine gate_callee (f := 26) rfl ?_); refine goesL_ (some 75) rfl rfl Try.func26 (by kernel_rfl) rfl #[.int .i64 t223, .int .i64 (wrap64 (t213 * 5))] rfl (by (try simp only [List.map_toArray, List.map_cons, List.map_nil]); first | done | rfl | (simp only [List.length_drop, List.length_take]; rfl)) ?_; (with_reducible refine (impl_HashToGroup.calls kj9 t223 (wrap64 (t213 * 5)) t224 _ A25.out).mono ?_); rintro e w36 ⟨rfl, hb⟩; refine ⟨_, rfl, ?_⟩; have n0_ := Aside0.mk (below_step (by repeat (first | (with_reducible first | exact HB.out | apply below_alloc | apply pw_below_drewN | apply below_drew1) | exact HB.out)) hb); clear HB; have HB := n0_; clear n0_; (try clear hb); (try clear hb2); (try clear hk); (try clear hi)) | (go_at_call 24; (with_reducible refine (impl_DiscreteLog.calls kj9 t208 t214 t226 _ A31.out).mono ?_); rintro e w' ⟨rfl, ⟨nd, rfl⟩⟩) | (go_at_call 34; (with_reducible refine (spec_Mod.calls t209 1019 t227 _ A32.out).mono ?_); rintro e w' ⟨rfl, ⟨nd, rfl⟩⟩) | (go_at_call 16; (with_reducible refine (impl_IsGroupElement.calls kj9 t224 true _ A34.out).mono ?_); rintro e w' ⟨rfl, ⟨nd, rfl⟩⟩))
                  go_ret
                  exact ⟨by first | rfl | (simp [errW_none, errW_some] <;> rfl) | (simp [*, errW_none, errW_some] <;> rfl), by repeat (first | (with_reducible first | exact HB.out | apply below_alloc | apply pw_below_drewN | apply below_drew1) | exact HB.out)⟩
                · replace c35 := Bool.eq_false_iff.mpr c35
                  subst c35
                  have H1 : (some false) = some r := by rw [if_neg (show ¬ (false = true) by decide)] at H; exact H
                  clear H
                  have H := H1
                  clear H1
                  obtain rfl := Option.some.inj H
                  go_wp2_with (first | ((with_reducible refine gate_callee (f := 33) rfl ?_); refine goesL_ (some 73) rfl rfl Try.func33 (by kernel_rfl) rfl #[.slice A0 l0.length c0, .int .i64 1] rfl (by (try simp only [List.map_toArray, List.map_cons, List.map_nil]); first | done | rfl | (simp only [List.length_drop, List.length_take]; rfl)) ?_; (with_reducible refine (laws_at.calls _ _ l0 1 t223 _ ?side1 ?side2 A24.out).mono ?_); (case side1 => repeat (first | exact (Kd.C_below HR0.out HB.out) | (with_reducible refine Kd.C_alloc ?_ _) | (with_reducible refine Kd.C_drewN ?_ _) | (with_reducible refine Kd.C_drew ?_))); (case side2 => exact HC0.out); rintro e w' ⟨rfl, ⟨nd, rfl⟩⟩; refine ⟨_, rfl, ?_⟩) | ((with_reducible refine gate_callee (f := 26) rfl ?_); refine goesL_ (some 75) rfl rfl Try.func26 (by kernel_rfl) rfl #[.int .i64 t223, .int .i64 (wrap64 (t213 * 5))] rfl (by (try simp only [List.map_toArray, List.map_cons, List.map_nil]); first | done | rfl | (simp only [List.length_drop, List.length_take]; rfl)) ?_; (with_reducible refine (impl_HashToGroup.calls kj9 t223 (wrap64 (t213 * 5)) t224 _ A25.out).mono ?_); rintro e w37 ⟨rfl, hb⟩; refine ⟨_, rfl, ?_⟩; have n0_ := Aside0.mk (below_step (by repeat (first | (with_reducible first | exact HB.out | apply below_alloc | apply pw_below_drewN | apply below_drew1) | exact HB.out)) hb); clear HB; have HB := n0_; clear n0_; (try clear hb); (try clear hb2); (try clear hk); (try clear hi)) | (go_at_call 24; (with_reducible refine (impl_DiscreteLog.calls kj9 t208 t214 t226 _ A31.out).mono ?_); rintro e w' ⟨rfl, ⟨nd, rfl⟩⟩) | (go_at_call 34; (with_reducible refine (spec_Mod.calls t209 1019 t227 _ A32.out).mono ?_); rintro e w' ⟨rfl, ⟨nd, rfl⟩⟩) | (go_at_call 16; (with_reducible refine (impl_IsGroupElement.calls kj9 t224 false _ A34.out).mono ?_); rintro e w' ⟨rfl, ⟨nd, rfl⟩⟩))
                  go_ret
                  exact ⟨by first | rfl | (simp [errW_none, errW_some] <;> rfl) | (simp [*, errW_none, errW_some] <;> rfl), by repeat (first | (with_reducible first | exact HB.out | apply below_alloc | apply pw_below_drewN | apply below_drew1) | exact HB.out)⟩
              · rw [if_neg c33] at H
                have c33b0 : (t226 == t227) = false := beq_eq_false_iff_ne.mpr c33
                have c33b1 : (t226 != t227) = true := bne_iff_ne.mpr c33
                obtain rfl := Option.some.inj H
                go_wp2_with (first | ((with_reducible refine gate_callee (f := 33) rfl ?_); refine goesL_ (some 73) rfl rfl Try.func33 (by kernel_rfl) rfl #[.slice A0 l0.length c0, .int .i64 1] rfl (by (try simp only [List.map_toArray, List.map_cons, List.map_nil]); first | done | rfl | (simp only [List.length_drop, List.length_take]; rfl)) ?_; (with_reducible refine (laws_at.calls _ _ l0 1 t223 _ ?side1 ?side2 A24.out).mono ?_); (case side1 => repeat (first | exact (Kd.C_below HR0.out HB.out) | (with_reducible refine Kd.C_alloc ?_ _) | (with_reducible refine Kd.C_drewN ?_ _) | (with_reducible refine Kd.C_drew ?_))); (case side2 => exact HC0.out); rintro e w' ⟨rfl, ⟨nd, rfl⟩⟩; refine ⟨_, rfl, ?_⟩) | ((with_reducible refine gate_callee (f := 26) rfl ?_); refine goesL_ (some 75) rfl rfl Try.func26 (by kernel_rfl) rfl #[.int .i64 t223, .int .i64 (wrap64 (t213 * 5))] rfl (by (try simp only [List.map_toArray, List.map_cons, List.map_nil]); first | done | rfl | (simp only [List.length_drop, List.length_take]; rfl)) ?_; (with_reducible refine (impl_HashToGroup.calls kj9 t223 (wrap64 (t213 * 5)) t224 _ A25.out).mono ?_); rintro e w38 ⟨rfl, hb⟩; refine ⟨_, rfl, ?_⟩; have n0_ := Aside0.mk (below_step (by repeat (first | (with_reducible first | exact HB.out | apply below_alloc | apply pw_below_drewN | apply below_drew1) | exact HB.out)) hb); clear HB; have HB := n0_; clear n0_; (try clear hb); (try clear hb2); (try clear hk); (try clear hi)) | (go_at_call 24; (with_reducible refine (impl_DiscreteLog.calls kj9 t208 t214 t226 _ A31.out).mono ?_); rintro e w' ⟨rfl, ⟨nd, rfl⟩⟩) | (go_at_call 34; (with_reducible refine (spec_Mod.calls t209 1019 t227 _ A32.out).mono ?_); rintro e w' ⟨rfl, ⟨nd, rfl⟩⟩))
                go_ret
                exact ⟨by first | rfl | (simp [errW_none, errW_some] <;> rfl) | (simp [*, errW_none, errW_some] <;> rfl), by repeat (first | (with_reducible first | exact HB.out | apply below_alloc | apply pw_below_drewN | apply below_drew1) | exact HB.out)⟩
    · replace c6 := Bool.eq_false_iff.mpr c6
      subst c6
      have H1 : ((impl_PowGroup.f k t208 t209).bind fun t211 => (if t211 = 0 then ((impl_DiscreteLog.f k t208 4).bind fun t212 => (some (t212 == (-1)))) else (some false))) = some r := by rw [if_neg (show ¬ (false = true) by decide)] at H; exact H
      clear H
      have H := H1
      clear H1
      replace H := Option.bind_eq_some_iff.mp H
      obtain ⟨t211, A390, H⟩ := H
      replace H : (if t211 = 0 then ((impl_DiscreteLog.f k t208 4).bind fun t212 => (some (t212 == (-1)))) else (some false)) = some r := H
      have A39 := Aside0.mk A390
      clear A390
      by_cases c40 : t211 = 0
      · rw [if_pos c40] at H
        have c40b0 : (t211 == 0) = true := beq_iff_eq.mpr c40
        have c40b1 : (t211 != 0) = false := bne_eq_false_iff_eq.mpr c40
        clear c40
        replace H := Option.bind_eq_some_iff.mp H
        obtain ⟨t212, A410, H⟩ := H
        replace H : (some (t212 == (-1))) = some r := H
        have A41 := Aside0.mk A410
        clear A410
        obtain rfl := Option.some.inj H
        go_enter Try.func11, Try.ntmps11
        go_wp2_with (first | ((with_reducible refine gate_callee (f := 31) rfl ?_); refine goesL_ (some 10) rfl rfl Try.func31 (by kernel_rfl) rfl #[.slice A0 l0.length c0] rfl (by (try simp only [List.map_toArray, List.map_cons, List.map_nil]); first | done | rfl | (simp only [List.length_drop, List.length_take]; rfl)) ?_; (with_reducible refine (laws_big.calls _ _ l0 false _ ?side1 ?side2 A2.out).mono ?_); (case side1 => repeat (first | exact HR0.out | (with_reducible refine Kd.C_alloc ?_ _) | (with_reducible refine Kd.C_drewN ?_ _) | (with_reducible refine Kd.C_drew ?_))); (case side2 => exact HC0.out); rintro e w' ⟨rfl, ⟨nd, rfl⟩⟩; refine ⟨_, rfl, ?_⟩) | ((with_reducible refine gate_callee (f := 32) rfl ?_); refine goesL_ (some 13) rfl rfl Try.func32 (by kernel_rfl) rfl #[.slice A0 l0.length c0] rfl (by (try simp only [List.map_toArray, List.map_cons, List.map_nil]); first | done | rfl | (simp only [List.length_drop, List.length_take]; rfl)) ?_; (with_reducible refine (spec_DrawPowGroup.calls k _ _ l0 t208 t209 _ ?side1 ?side2 A4.out).mono ?_); (case side1 => repeat (first | exact HR0.out | (with_reducible refine Kd.C_alloc ?_ _) | (with_reducible refine Kd.C_drewN ?_ _) | (with_reducible refine Kd.C_drew ?_))); (case side2 => exact HC0.out); rintro e w42 ⟨rfl, hb⟩; refine ⟨_, rfl, ?_⟩; have n0_ := Aside0.mk (below_step (by repeat (first | (with_reducible first | exact HB.out | apply below_alloc | apply pw_below_drewN | apply below_drew1) | exact HB.out)) hb); clear HB; have HB := n0_; clear n0_; (try clear hb); (try clear hb2); (try clear hk); (try clear hi)) | ((with_reducible refine gate_callee (f := 15) rfl ?_); refine goesL_ (some 17) rfl rfl Try.func15 (by kernel_rfl) rfl #[.int .i64 t208] rfl (by (try simp only [List.map_toArray, List.map_cons, List.map_nil]); first | done | rfl | (simp only [List.length_drop, List.length_take]; rfl)) ?_; (with_reducible refine (spec_IsGroupElement.calls k t208 false _ A5.out).mono ?_); rintro e w' ⟨rfl, ⟨nd, rfl⟩⟩; refine ⟨_, rfl, ?_⟩) | ((with_reducible refine gate_callee (f := 20) rfl ?_); refine goesL_ (some 21) rfl rfl Try.func20 (by kernel_rfl) rfl #[.int .i64 t208, .int .i64 t209] rfl (by (try simp only [List.map_toArray, List.map_cons, List.map_nil]); first | done | rfl | (simp only [List.length_drop, List.length_take]; rfl)) ?_; (with_reducible refine (impl_PowGroup.calls k t208 t209 t211 _ A39.out).mono ?_); rintro e w' ⟨rfl, ⟨nd, rfl⟩⟩; refine ⟨_, rfl, ?_⟩) | (go_at_call 24; (with_reducible refine (impl_DiscreteLog.calls k t208 4 t212 _ A41.out).mono ?_); rintro e w' ⟨rfl, ⟨nd, rfl⟩⟩))
        go_ret
        exact ⟨by first | rfl | (simp [errW_none, errW_some] <;> rfl) | (simp [*, errW_none, errW_some] <;> rfl), by repeat (first | (with_reducible first | exact HB.out | apply below_alloc | apply pw_below_drewN | apply below_drew1) | exact HB.out)⟩
      · rw [if_neg c40] at H
        have c40b0 : (t211 == 0) = false := beq_eq_false_iff_ne.mpr c40
        have c40b1 : (t211 != 0) = true := bne_iff_ne.mpr c40
        obtain rfl := Option.some.inj H
        go_enter Try.func11, Try.ntmps11
        go_wp2_with (first | ((with_reducible refine gate_callee (f := 31) rfl ?_); refine goesL_ (some 10) rfl rfl Try.func31 (by kernel_rfl) rfl #[.slice A0 l0.length c0] rfl (by (try simp only [List.map_toArray, List.map_cons, List.map_nil]); first | done | rfl | (simp only [List.length_drop, List.length_take]; rfl)) ?_; (with_reducible refine (laws_big.calls _ _ l0 false _ ?side1 ?side2 A2.out).mono ?_); (case side1 => repeat (first | exact HR0.out | (with_reducible refine Kd.C_alloc ?_ _) | (with_reducible refine Kd.C_drewN ?_ _) | (with_reducible refine Kd.C_drew ?_))); (case side2 => exact HC0.out); rintro e w' ⟨rfl, ⟨nd, rfl⟩⟩; refine ⟨_, rfl, ?_⟩) | ((with_reducible refine gate_callee (f := 32) rfl ?_); refine goesL_ (some 13) rfl rfl Try.func32 (by kernel_rfl) rfl #[.slice A0 l0.length c0] rfl (by (try simp only [List.map_toArray, List.map_cons, List.map_nil]); first | done | rfl | (simp only [List.length_drop, List.length_take]; rfl)) ?_; (with_reducible refine (spec_DrawPowGroup.calls k _ _ l0 t208 t209 _ ?side1 ?side2 A4.out).mono ?_); (case side1 => repeat (first | exact HR0.out | (with_reducible refine Kd.C_alloc ?_ _) | (with_reducible refine Kd.C_drewN ?_ _) | (with_reducible refine Kd.C_drew ?_))); (case side2 => exact HC0.out); rintro e w43 ⟨rfl, hb⟩; refine ⟨_, rfl, ?_⟩; have n0_ := Aside0.mk (below_step (by repeat (first | (with_reducible first | exact HB.out | apply below_alloc | apply pw_below_drewN | apply below_drew1) | exact HB.out)) hb); clear HB; have HB := n0_; clear n0_; (try clear hb); (try clear hb2); (try clear hk); (try clear hi)) | ((with_reducible refine gate_callee (f := 15) rfl ?_); refine goesL_ (some 17) rfl rfl Try.func15 (by kernel_rfl) rfl #[.int .i64 t208] rfl (by (try simp only [List.map_toArray, List.map_cons, List.map_nil]); first | done | rfl | (simp only [List.length_drop, List.length_take]; rfl)) ?_; (with_reducible refine (spec_IsGroupElement.calls k t208 false _ A5.out).mono ?_); rintro e w' ⟨rfl, ⟨nd, rfl⟩⟩; refine ⟨_, rfl, ?_⟩) | ((with_reducible refine gate_callee (f := 20) rfl ?_); refine goesL_ (some 21) rfl rfl Try.func20 (by kernel_rfl) rfl #[.int .i64 t208, .int .i64 t209] rfl (by (try simp only [List.map_toArray, List.map_cons, List.map_nil]); first | done | rfl | (simp only [List.length_drop, List.length_take]; rfl)) ?_; (with_reducible refine (impl_PowGroup.calls k t208 t209 t211 _ A39.out).mono ?_); rintro e w' ⟨rfl, ⟨nd, rfl⟩⟩; refine ⟨_, rfl, ?_⟩))
        go_ret
        exact ⟨by first | rfl | (simp [errW_none, errW_some] <;> rfl) | (simp [*, errW_none, errW_some] <;> rfl), by repeat (first | (with_reducible first | exact HB.out | apply below_alloc | apply pw_below_drewN | apply below_drew1) | exact HB.out)⟩

/-- THE ONE PURE STATEMENT of laws_FnGroup: yours. -/
def laws_FnGroup.Pure : Prop := ∀ (l0 : List Int), l0.length ≤ maxLen → l0.length * 1 ≤ 140737488351232 → (∀ x ∈ l0, (Lit.int .u8 x).wf = true) → ∃ k, laws_FnGroup.f k l0 = some true
theorem laws_FnGroup.walk (P : laws_FnGroup.Pure) (a0 : Option Addr) (len0 cap0 : Nat) (z0 : List Int) (w : World) (w0 : (a0 = none ∧ len0 = 0 ∧ cap0 = 0 ∧ z0 = []) ∨ ∃ x, a0 = some x ∧ len0 ≤ cap0 ∧ cap0 ≤ maxLen ∧ z0.length = cap0 ∧ (∀ i, i < z0.length → w.cell? (x.add i) = some (.int .u8 (z0.getD i 0))) ∧ ∀ n ∈ z0, (Lit.int .u8 n).wf = true) (y0 : len0 * 1 ≤ 140737488351232) :
    Calls Try.prog 11 #[.slice a0 len0 cap0] w fun e w' => e = .returned (.bool true) ∧ Below w.heap.size w w' := by
  obtain ⟨l0, rfl, hr0, hm0, hw0, hc0⟩ := ReadsInt.ofRowC w0
  obtain ⟨k, h⟩ := P l0 hm0 y0 hw0
  refine (laws_FnGroup.calls k _ _ l0 true w (Kd.C_of_reads (d := (0 : Int)) (h1 := fun _ => rfl) hr0) hc0 h).mono ?_
  rintro e w' ⟨rfl, hd⟩
  exact ⟨rfl, hd⟩

end Go.Proofs.Ytgeokjhijihpaaa.PFnGroup
