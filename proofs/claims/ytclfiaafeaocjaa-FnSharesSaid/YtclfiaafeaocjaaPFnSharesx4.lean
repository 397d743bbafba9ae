/- This text was printed by the kit's printer, run by a program of this claim with a stand-in for the one function that it does not cover; that function (impl.AreShares) and its contract are written by hand. -/
import Derived.Test.YtclfiaafeaocjaaPFnSharesx0
import Derived.Test.YtclfiaafeaocjaaPFnSharesx1
import Derived.Test.YtclfiaafeaocjaaPFnSharesx2
import Derived.Test.YtclfiaafeaocjaaPFnSharesx3
namespace Go.Proofs.Ytclfiaafeaocjaa.PFnShares
open Go.RowKit Go.Proofs.YtclfiaafeaocjaaW.PrintWords Go.Proofs.YtclfiaafeaocjaaW.PrintLast Go.Proofs.YtclfiaafeaocjaaW.PrintMore
attribute [local go_sem] max2_int min2_int max_two min_two max_three min_three max_four min_four   -- for this text's walks alone
set_option linter.unusedVariables false
set_option linter.unusedSimpArgs false

/-! ### laws_FnShares: function 9 -/
mutual
def laws_FnShares.l0 : Nat → List Int → Int → Int → List Int → Int → Option (Bool)
  | 0, _, _, _, _, _ => none
  | k + 1, x0, x3, x4, x5, x6 => if x6 < x3 then ((laws_at.f x0 (wrap64 (x6 + 2))).bind fun t160 => (if x5.length < 17592186044416 then (laws_FnShares.l0 k x0 x3 x4 (x5 ++ [wrap64 (t160 * 4)]) (wrap64 (x6 + 1))) else (none))) else ((laws_at.f x0 7).bind fun t164 => ((impl_ShareSecret.f k (wrap64 (t164 * 3)) x5 x4).bind fun t165 => (if (t165.length : Int) = x4 then ((impl_AreShares.f k t165).bind fun t168 => (laws_FnShares.j1 k x0 x3 x4 (wrap64 (t164 * 3)) t165 (!t168))) else (laws_FnShares.j1 k x0 x3 x4 (wrap64 (t164 * 3)) t165 true))))
def laws_FnShares.j1 : Nat → List Int → Int → Int → Int → List (S44) → Bool → Option (Bool)
  | 0, _, _, _, _, _, _ => none
  | k + 1, x0, x3, x4, x7, x8, x61 => if x61 = true then (some false) else ((laws_at.f x0 8).bind fun t169 => ((laws_at.f x0 9).bind fun t170 => ((some (([t169, t170] : List Int) : List Int)).bind fun y171 => ((spec_Min.f x3 2).bind fun t174 => (if 0 ≤ t174 then (if t174 ≤ (y171.length : Int) then ((impl_RefreshShares.f k x8 (y171.take (t174 : Int).toNat)).bind fun t179 => (if (t179.length : Int) = x4 then ((laws_at.f x0 10).bind fun t182 => (if (wrap64 (x4 - x3)) = 0 then (none) else (if 0 ≤ (Int.tmod t182 (wrap64 (x4 - x3))) then (if (Int.tmod t182 (wrap64 (x4 - x3))) ≤ (wrap64 ((wrap64 ((Int.tmod t182 (wrap64 (x4 - x3))) + x3)) + 1)) then (if (wrap64 ((wrap64 ((Int.tmod t182 (wrap64 (x4 - x3))) + x3)) + 1)) ≤ (x8.length : Int) then ((impl_Interpolate.f k ((x8.take ((wrap64 ((wrap64 ((Int.tmod t182 (wrap64 (x4 - x3))) + x3)) + 1)) : Int).toNat).drop ((Int.tmod t182 (wrap64 (x4 - x3))) : Int).toNat) 0).bind fun bt187 => ((impl_Interpolate.f k x8 0).bind fun bt189 => (if (wrap64 ((wrap64 ((Int.tmod t182 (wrap64 (x4 - x3))) + x3)) + 1)) ≤ (t179.length : Int) then ((impl_Interpolate.f k ((t179.take ((wrap64 ((wrap64 ((Int.tmod t182 (wrap64 (x4 - x3))) + x3)) + 1)) : Int).toNat).drop ((Int.tmod t182 (wrap64 (x4 - x3))) : Int).toNat) 0).bind fun bt195 => (if 0 ≤ (wrap64 (x3 + 1)) then (if (wrap64 (x3 + 1)) ≤ (x8.length : Int) then (if 0 ≤ (wrap64 (x4 - 1)) then (if (wrap64 (x4 - 1)) < (x8.length : Int) then ((impl_Interpolate.f k (x8.take ((wrap64 (x3 + 1)) : Int).toNat) ((rd_T44 x8 (wrap64 (x4 - 1))).f0)).bind fun bt202 => (if bt187.2 = true then (if bt187.1 = x7 then (if bt189.2 = true then (if bt189.1 = x7 then (if bt195.2 = true then (if bt195.1 = x7 then (if bt202.2 = true then (if bt202.1 = ((rd_T44 x8 (wrap64 (x4 - 1))).f1) then ((impl_AreShares.f k t179).bind fun t205 => (some t205)) else (some false)) else (some false)) else (some false)) else (some false)) else (some false)) else (some false)) else (some false)) else (some false))) else (none)) else (none)) else (none)) else (none))) else (none)))) else (none)) else (none)) else (none)))) else (some false))) else (none)) else (none))))))
end
def laws_FnShares.f (k : Nat) (l0 : List Int) : Option (Bool) := (laws_big.f l0).bind fun t154 => (if t154 = true then (some true) else ((laws_at.f l0 0).bind fun t155 => ((laws_at.f l0 1).bind fun t156 => (if (wrap64 (7 - (Int.tmod t155 4))) = 0 then (none) else (laws_FnShares.l0 k l0 (Int.tmod t155 4) (wrap64 ((wrap64 ((Int.tmod t155 4) + 1)) + (Int.tmod t156 (wrap64 (7 - (Int.tmod t155 4)))))) (([] : List Int)) 0)))))
theorem laws_FnShares.mono_l : ∀ k, (∀ y0 y1 y2 y3 y4, LeO (laws_FnShares.l0 k y0 y1 y2 y3 y4) (laws_FnShares.l0 (k + 1) y0 y1 y2 y3 y4)) ∧ (∀ y0 y1 y2 y3 y4 y5, LeO (laws_FnShares.j1 k y0 y1 y2 y3 y4 y5) (laws_FnShares.j1 (k + 1) y0 y1 y2 y3 y4 y5))
  | 0 => ⟨fun _ _ _ _ _ r h => by simp [laws_FnShares.l0] at h, fun _ _ _ _ _ _ r h => by simp [laws_FnShares.j1] at h⟩
  | k + 1 => by
    obtain ⟨ih0, ih1⟩ := laws_FnShares.mono_l k
    refine ⟨?_, ?_⟩
    · intro y0 y1 y2 y3 y4
      unfold laws_FnShares.l0
      repeat' first
      | (with_reducible exact ih0 _ _ _ _ _)
      | (with_reducible exact ih1 _ _ _ _ _ _)
      | (with_reducible exact impl_AreShares.mono _ _)
      | (with_reducible exact impl_Interpolate.mono _ _ _)
      | (with_reducible exact impl_RefreshShares.mono _ _ _)
      | (with_reducible exact impl_ShareSecret.mono _ _ _ _)
      | (with_reducible exact LeO.refl _)
      | (with_reducible exact LeO.none _)
      | (with_reducible refine LeO.ite ?_ ?_)
      | (with_reducible refine LeO.bind ?_ (fun _ => ?_))
      | exact ih0 _ _ _ _ _
      | exact ih1 _ _ _ _ _ _
      | exact impl_AreShares.mono _ _
      | exact impl_Interpolate.mono _ _ _
      | exact impl_RefreshShares.mono _ _ _
      | exact impl_ShareSecret.mono _ _ _ _
      | exact LeO.none _
      | refine LeO.ite ?_ ?_
      | refine LeO.bind ?_ (fun _ => ?_)
    · intro y0 y1 y2 y3 y4 y5
      unfold laws_FnShares.j1
      repeat' first
      | (with_reducible exact ih0 _ _ _ _ _)
      | (with_reducible exact ih1 _ _ _ _ _ _)
      | (with_reducible exact impl_AreShares.mono _ _)
      | (with_reducible exact impl_Interpolate.mono _ _ _)
      | (with_reducible exact impl_RefreshShares.mono _ _ _)
      | (with_reducible exact impl_ShareSecret.mono _ _ _ _)
      | (with_reducible exact LeO.refl _)
      | (with_reducible exact LeO.none _)
      | (with_reducible refine LeO.ite ?_ ?_)
      | (with_reducible refine LeO.bind ?_ (fun _ => ?_))
      | exact ih0 _ _ _ _ _
      | exact ih1 _ _ _ _ _ _
      | exact impl_AreShares.mono _ _
      | exact impl_Interpolate.mono _ _ _
      | exact impl_RefreshShares.mono _ _ _
      | exact impl_ShareSecret.mono _ _ _ _
      | exact LeO.none _
      | refine LeO.ite ?_ ?_
      | refine LeO.bind ?_ (fun _ => ?_)
theorem laws_FnShares.mono : ∀ a0 k, LeO (laws_FnShares.f k a0) (laws_FnShares.f (k + 1) a0) := by
  intro a0 k
  obtain ⟨ih0, ih1⟩ := laws_FnShares.mono_l k
  unfold laws_FnShares.f
  repeat' first
      | (with_reducible exact ih0 _ _ _ _ _)
      | (with_reducible exact ih1 _ _ _ _ _ _)
      | (with_reducible exact impl_AreShares.mono _ _)
      | (with_reducible exact impl_Interpolate.mono _ _ _)
      | (with_reducible exact impl_RefreshShares.mono _ _ _)
      | (with_reducible exact impl_ShareSecret.mono _ _ _ _)
      | (with_reducible exact LeO.refl _)
      | (with_reducible exact LeO.none _)
      | (with_reducible refine LeO.ite ?_ ?_)
      | (with_reducible refine LeO.bind ?_ (fun _ => ?_))
      | exact ih0 _ _ _ _ _
      | exact ih1 _ _ _ _ _ _
      | exact impl_AreShares.mono _ _
      | exact impl_Interpolate.mono _ _ _
      | exact impl_RefreshShares.mono _ _ _
      | exact impl_ShareSecret.mono _ _ _ _
      | exact LeO.none _
      | refine LeO.ite ?_ ?_
      | refine LeO.bind ?_ (fun _ => ?_)
def laws_FnShares.T21 : Bool × List (List Nat × List Nat) := (true, [([], []), ([], []), ([1], [1]), ([0, 2], [0, 2]), ([], []), ([], []), ([5], [5]), ([4, 6], [4, 6]), ([7], [7]), ([8], [8]), ([3, 9], [3, 9]), ([10], [10]), ([11], [11]), ([11], [11]), ([12, 10, 0, 1, 2, 3, 4, 5, 6, 7, 8, 9, 10, 11, 12], [12]), ([13, 14, 0, 1, 2, 3, 4, 5, 6, 7, 8, 9, 10, 11, 12, 13, 14], [13])])
def laws_FnShares.B21 : List Nat := [0, 0, 2, 7, 0, 0, 32, 112, 240, 496, 1023, 2047, 4095, 4095, 8191, 32767]
theorem laws_FnShares.tab21 : rtab .any (opsOf Try.f9 21) = laws_FnShares.T21 := by kernel_rfl
theorem laws_FnShares.bits21 : waitsOk laws_FnShares.T21.2 laws_FnShares.B21 = true := by kernel_rfl
set_option maxHeartbeats 8000000 in
set_option maxRecDepth 100000 in
theorem laws_FnShares.calls (k : Nat) (A0 : Option Addr) (c0 : Nat) (l0 : List Int) (r : Bool) (w : World) (hr0 : Kd.C (Kd.int .u8) w A0 l0.length l0) (hc0 : l0.length ≤ c0) (h : laws_FnShares.f k l0 = some r) (hrt : r = true) :
    Calls Try.prog 9 #[.slice A0 l0.length c0] w fun e w' => e = .returned (.bool r) ∧ Below w.heap.size w w' := by
  have HR0 := Aside0.mk hr0
  have HC0 := Aside0.mk hc0
  clear hr0 hc0
  have HB := Aside0.mk (Below.refl w.heap.size w)
  have H : ((laws_big.f l0).bind fun t154 => (if t154 = true then (some true) else ((laws_at.f l0 0).bind fun t155 => ((laws_at.f l0 1).bind fun t156 => (if (wrap64 (7 - (Int.tmod t155 4))) = 0 then (none) else (laws_FnShares.l0 k l0 (Int.tmod t155 4) (wrap64 ((wrap64 ((Int.tmod t155 4) + 1)) + (Int.tmod t156 (wrap64 (7 - (Int.tmod t155 4)))))) (([] : List Int)) 0)))))) = some r := h
  clear h
  replace H := Option.bind_eq_some_iff.mp H
  obtain ⟨t154, A20, H⟩ := H
  replace H : (if t154 = true then (some true) else ((laws_at.f l0 0).bind fun t155 => ((laws_at.f l0 1).bind fun t156 => (if (wrap64 (7 - (Int.tmod t155 4))) = 0 then (none) else (laws_FnShares.l0 k l0 (Int.tmod t155 4) (wrap64 ((wrap64 ((Int.tmod t155 4) + 1)) + (Int.tmod t156 (wrap64 (7 - (Int.tmod t155 4)))))) (([] : List Int)) 0))))) = some r := H
  have A2 := Aside0.mk A20
  clear A20
  by_cases c3 : t154 = true
  · subst c3
    have H1 : (some true) = some r := by rw [if_pos rfl] at H; exact H
    clear H
    have H := H1
    clear H1
    obtain rfl := Option.some.inj H
    go_enter Try.func9, Try.ntmps9
    go_wp2_with (first | ((with_reducible refine gate_callee (f := 32) rfl ?_); refine goesL_ (some 20) rfl rfl Try.func32 (by kernel_rfl) rfl #[.slice A0 l0.length c0] rfl (by (try simp only [List.map_toArray, List.map_cons, List.map_nil]); first | done | rfl | (simp only [List.length_drop, List.length_take]; rfl)) ?_; (with_reducible refine (laws_big.calls _ _ l0 true _ ?side1 ?side2 A2.out).mono ?_); (case side1 => repeat (first | exact HR0.out | (with_reducible refine Kd.C_alloc ?_ _) | (with_reducible refine Kd.C_drewN ?_ _) | (with_reducible refine Kd.C_drew ?_))); (case side2 => exact HC0.out); rintro e w' ⟨rfl, ⟨nd, rfl⟩⟩; refine ⟨_, rfl, ?_⟩))
    go_ret
    exact ⟨by first | rfl | (simp [errW_none, errW_some] <;> rfl) | (simp [*, errW_none, errW_some] <;> rfl), by repeat (first | (with_reducible first | exact HB.out | apply below_alloc | apply pw_below_drewN | apply below_drew1) | exact HB.out)⟩
  · replace c3 := Bool.eq_false_iff.mpr c3
    subst c3
    have H1 : ((laws_at.f l0 0).bind fun t155 => ((laws_at.f l0 1).bind fun t156 => (if (wrap64 (7 - (Int.tmod t155 4))) = 0 then (none) else (laws_FnShares.l0 k l0 (Int.tmod t155 4) (wrap64 ((wrap64 ((Int.tmod t155 4) + 1)) + (Int.tmod t156 (wrap64 (7 - (Int.tmod t155 4)))))) (([] : List Int)) 0)))) = some r := by rw [if_neg (show ¬ (false = true) by decide)] at H; exact H
    clear H
    have H := H1
    clear H1
    replace H := Option.bind_eq_some_iff.mp H
    obtain ⟨t155, A40, H⟩ := H
    replace H : ((laws_at.f l0 1).bind fun t156 => (if (wrap64 (7 - (Int.tmod t155 4))) = 0 then (none) else (laws_FnShares.l0 k l0 (Int.tmod t155 4) (wrap64 ((wrap64 ((Int.tmod t155 4) + 1)) + (Int.tmod t156 (wrap64 (7 - (Int.tmod t155 4)))))) (([] : List Int)) 0))) = some r := H
    have A4 := Aside0.mk A40
    clear A40
    replace H := Option.bind_eq_some_iff.mp H
    obtain ⟨t156, A50, H⟩ := H
    replace H : (if (wrap64 (7 - (Int.tmod t155 4))) = 0 then (none) else (laws_FnShares.l0 k l0 (Int.tmod t155 4) (wrap64 ((wrap64 ((Int.tmod t155 4) + 1)) + (Int.tmod t156 (wrap64 (7 - (Int.tmod t155 4)))))) (([] : List Int)) 0)) = some r := H
    have A5 := Aside0.mk A50
    clear A50
    by_cases c6 : (wrap64 (7 - (Int.tmod t155 4))) = 0
    · rw [if_pos c6] at H
      exact absurd H (by simp)
    · rw [if_neg c6] at H
      have c6b0 : ((wrap64 (7 - (Int.tmod t155 4))) == 0) = false := beq_eq_false_iff_ne.mpr c6
      have c6b1 : ((wrap64 (7 - (Int.tmod t155 4))) != 0) = true := bne_iff_ne.mpr c6
      obtain ⟨y157, hy157⟩ : ∃ y_ : List Int, y_ = (([] : List Int)) := ⟨_, rfl⟩
      replace H : (laws_FnShares.l0 k l0 (Int.tmod t155 4) (wrap64 ((wrap64 ((Int.tmod t155 4) + 1)) + (Int.tmod t156 (wrap64 (7 - (Int.tmod t155 4)))))) y157 0) = some r := by first | (rw [hy157]; with_reducible exact H) | (have H2_ := (Option.bind_some _ _).symm.trans H; rw [hy157]; with_reducible exact H2_) | (have H2_ := (Option.bind_some _ _).symm.trans H; with_reducible exact H2_) | with_reducible exact H | (rw [hy157]; exact H) | exact H
      have Ny157 := Aside0.mk hy157
      clear hy157
      have H' := Aside0.mk H
      clear H
      go_enter Try.func9, Try.ntmps9
      go_wp2_with (first | ((with_reducible refine gate_callee (f := 32) rfl ?_); refine goesL_ (some 20) rfl rfl Try.func32 (by kernel_rfl) rfl #[.slice A0 l0.length c0] rfl (by (try simp only [List.map_toArray, List.map_cons, List.map_nil]); first | done | rfl | (simp only [List.length_drop, List.length_take]; rfl)) ?_; (with_reducible refine (laws_big.calls _ _ l0 false _ ?side1 ?side2 A2.out).mono ?_); (case side1 => repeat (first | exact HR0.out | (with_reducible refine Kd.C_alloc ?_ _) | (with_reducible refine Kd.C_drewN ?_ _) | (with_reducible refine Kd.C_drew ?_))); (case side2 => exact HC0.out); rintro e w' ⟨rfl, ⟨nd, rfl⟩⟩; refine ⟨_, rfl, ?_⟩) | ((with_reducible refine gate_callee (f := 33) rfl ?_); refine goesL_ (some 22) rfl rfl Try.func33 (by kernel_rfl) rfl #[.slice A0 l0.length c0, .int .i64 0] rfl (by (try simp only [List.map_toArray, List.map_cons, List.map_nil]); first | done | rfl | (simp only [List.length_drop, List.length_take]; rfl)) ?_; (with_reducible refine (laws_at.calls _ _ l0 0 t155 _ ?side1 ?side2 A4.out).mono ?_); (case side1 => repeat (first | exact HR0.out | (with_reducible refine Kd.C_alloc ?_ _) | (with_reducible refine Kd.C_drewN ?_ _) | (with_reducible refine Kd.C_drew ?_))); (case side2 => exact HC0.out); rintro e w' ⟨rfl, ⟨nd, rfl⟩⟩; refine ⟨_, rfl, ?_⟩) | ((with_reducible refine gate_callee (f := 33) rfl ?_); refine goesL_ (some 27) rfl rfl Try.func33 (by kernel_rfl) rfl #[.slice A0 l0.length c0, .int .i64 1] rfl (by (try simp only [List.map_toArray, List.map_cons, List.map_nil]); first | done | rfl | (simp only [List.length_drop, List.length_take]; rfl)) ?_; (with_reducible refine (laws_at.calls _ _ l0 1 t156 _ ?side1 ?side2 A5.out).mono ?_); (case side1 => repeat (first | exact HR0.out | (with_reducible refine Kd.C_alloc ?_ _) | (with_reducible refine Kd.C_drewN ?_ _) | (with_reducible refine Kd.C_drew ?_))); (case side2 => exact HC0.out); rintro e w' ⟨rfl, ⟨nd, rfl⟩⟩; refine ⟨_, rfl, ?_⟩) | ((with_reducible refine gate_dst (N := 32) rfl ?_); refine Kd.R_lit (Kd.int .i64) _ 3 ?hg (N := 32) ?hd (xs := ([] : List Int)) (inner := []) (ok := fun _ => True) (okp := fun _ => True) ?hr ?hp (fun _ hk => hk) trivial (Below.refl _ _) (Nat.le_refl _) (by simp) ?_; (case hd => rfl); (case hg => rfl); (case hr => first | (go_simp; done) | (go_simp; rfl)); (case hp => exact (Reps.none _ _)); intro v158 w7 ho8 hb hg_ hnew_; clear hg_ hnew_; (first | rw [← Ny157.out] at ho8 | (simp only [Int.reduceToNat] at ho8; rw [← Ny157.out] at ho8)); have n0_ := Aside0.mk (Kd.R_lower ho8 (below_size (by repeat (first | (with_reducible first | exact HB.out | apply below_alloc | apply pw_below_drewN | apply below_drew1) | exact HB.out)))); have n1_ := Aside0.mk (below_step (by repeat (first | (with_reducible first | exact HB.out | apply below_alloc | apply pw_below_drewN | apply below_drew1) | exact HB.out)) hb); clear HB; have HO159 := n0_; have HB := n1_; clear n0_ n1_; clear hb ho8))
      go_loopg [5, 6] k (fun kq v5 v6 w' => ∃ (x5_1 : List Int) (x6_1 : Int), v6 = .int .i64 x6_1 ∧ Aside0 (laws_FnShares.l0 kq l0 (Int.tmod t155 4) (wrap64 ((wrap64 ((Int.tmod t155 4) + 1)) + (Int.tmod t156 (wrap64 (7 - (Int.tmod t155 4)))))) x5_1 x6_1 = some r) ∧ Aside0 (kq ≤ k) ∧ Aside0 (Kd.R (Kd.int .i64) 3 w' w.heap.size (fun _ => True) v5 x5_1) ∧ Aside0 (Below w.heap.size w w'))
      case atStart => exact ⟨(y157), (0), (by first | rfl | (simp; done) | (simp [*]; done)), H', ⟨Nat.le_refl _⟩, ⟨by (with_reducible repeat (first | apply Kd.R_alloc | apply Kd.R_drewN | apply Kd.R_drew)); exact HO159.out⟩, ⟨by repeat (first | (with_reducible first | exact HB.out | apply below_alloc | apply pw_below_drewN | apply below_drew1) | exact HB.out)⟩⟩
      case round =>
        clear H'
        try clear p2
        try clear c3
        try clear c6
        try clear c6b0
        try clear c6b1
        try clear p6
        obtain ⟨x5_1, x6_1, rfl, HA, HK1, HO_5, HB⟩ := hrel
        cases gk with
        | zero => exact absurd HA.out (by simp [laws_FnShares.l0])
        | succ k1 =>
          have H := HA.out
          clear HA
          simp only [laws_FnShares.l0] at H
          by_cases c9 : x6_1 < (Int.tmod t155 4)
          · rw [if_pos c9] at H
            have c9b0 : decide (x6_1 < (Int.tmod t155 4)) = true := decide_eq_true c9
            clear c9
            replace H := Option.bind_eq_some_iff.mp H
            obtain ⟨t160, A100, H⟩ := H
            replace H : (if x5_1.length < 17592186044416 then (laws_FnShares.l0 k1 l0 (Int.tmod t155 4) (wrap64 ((wrap64 ((Int.tmod t155 4) + 1)) + (Int.tmod t156 (wrap64 (7 - (Int.tmod t155 4)))))) (x5_1 ++ [wrap64 (t160 * 4)]) (wrap64 (x6_1 + 1))) else (none)) = some r := H
            have A10 := Aside0.mk A100
            clear A100
            by_cases c11 : x5_1.length < 17592186044416
            · rw [if_pos c11] at H
              have LMc11 := Aside0.mk c11
              clear c11
              obtain ⟨y161, hy161⟩ : ∃ y_ : List Int, y_ = (x5_1 ++ [wrap64 (t160 * 4)]) := ⟨_, rfl⟩
              replace H : (laws_FnShares.l0 k1 l0 (Int.tmod t155 4) (wrap64 ((wrap64 ((Int.tmod t155 4) + 1)) + (Int.tmod t156 (wrap64 (7 - (Int.tmod t155 4)))))) y161 (wrap64 (x6_1 + 1))) = some r := by first | (rw [hy161]; with_reducible exact H) | (have H2_ := (Option.bind_some _ _).symm.trans H; rw [hy161]; with_reducible exact H2_) | (have H2_ := (Option.bind_some _ _).symm.trans H; with_reducible exact H2_) | with_reducible exact H | (rw [hy161]; exact H) | exact H
              have Ny161 := Aside0.mk hy161
              clear hy161
              have H' := Aside0.mk H
              clear H
              go_wp2_with (first | ((with_reducible refine gate_callee (f := 33) rfl ?_); refine goesL_ (some 42) rfl rfl Try.func33 (by kernel_rfl) rfl #[.slice A0 l0.length c0, .int .i64 (wrap64 (x6_1 + 2))] rfl (by (try simp only [List.map_toArray, List.map_cons, List.map_nil]); first | done | rfl | (simp only [List.length_drop, List.length_take]; rfl)) ?_; (with_reducible refine (laws_at.calls _ _ l0 (wrap64 (x6_1 + 2)) t160 _ ?side1 ?side2 A10.out).mono ?_); (case side1 => repeat (first | exact (Kd.C_below HR0.out HB.out) | (with_reducible refine Kd.C_alloc ?_ _) | (with_reducible refine Kd.C_drewN ?_ _) | (with_reducible refine Kd.C_drew ?_))); (case side2 => exact HC0.out); rintro e w' ⟨rfl, ⟨nd, rfl⟩⟩; refine ⟨_, rfl, ?_⟩) | ((with_reducible refine gate_builtin (b := .append) (xs := #[.tmp 38, .tmp 44]) rfl ?_); at_builtin; refine Kd.R_append (Kd.int .i64) (w0 := w) w.heap.size rfl (.tmp 38) (.tmp 44) 29 3 (.int .i64 0) 8 rfl Try.underlying29 info3 rfl (by decide) (by omega) u5 x5_1 (wrap64 (t160 * 4)) [.int .i64 (wrap64 (t160 * 4))] (fun _ => True) (fun _ => False) rfl rfl ?aP (fun _ hk => hk.elim) ?aF ?aO ?aB ?aS ?aL ?_; (case aP => exact rfl); (case aB => exact (by repeat (first | (with_reducible first | exact HB.out | apply below_alloc | apply pw_below_drewN | apply below_drew1) | exact HB.out))); (case aF => exact (fun _ _ => trivial)); (case aO => exact (by (with_reducible repeat (first | apply Kd.R_alloc | apply Kd.R_drewN | apply Kd.R_drew)); exact HO_5.out)); (case aS => exact (below_size (by repeat (first | (with_reducible first | exact HB.out | apply below_alloc | apply pw_below_drewN | apply below_drew1) | exact HB.out)))); (case aL => have := LMc11.out; omega); intro v162 w12 ho hb hg hat; rw [← Ny161.out] at ho; have n0_ := Aside0.mk (hb); have n1_ := Aside0.mk (ho); clear HB; clear HO_5; have HB := n0_; have HO163 := n1_; clear n0_ n1_; clear ho hb hg hat))
              go_roundg k1
              case measure => have := HK1.out; omega
              case rel => exact ⟨(y161), (wrap64 (x6_1 + 1)), (by first | rfl | (simp; done) | (simp [*]; done)), H', ⟨by have := HK1.out; omega⟩, ⟨by (with_reducible repeat (first | apply Kd.R_alloc | apply Kd.R_drewN | apply Kd.R_drew)); exact HO163.out⟩, ⟨by repeat (first | (with_reducible first | exact HB.out | apply below_alloc | apply pw_below_drewN | apply below_drew1) | exact HB.out)⟩⟩
            · rw [if_neg c11] at H
              exact absurd H (by simp)
          · rw [if_neg c9] at H
            have c9b0 : decide (x6_1 < (Int.tmod t155 4)) = false := decide_eq_false c9
            clear c9
            replace H := Option.bind_eq_some_iff.mp H
            obtain ⟨t164, A130, H⟩ := H
            replace H : ((impl_ShareSecret.f k1 (wrap64 (t164 * 3)) x5_1 (wrap64 ((wrap64 ((Int.tmod t155 4) + 1)) + (Int.tmod t156 (wrap64 (7 - (Int.tmod t155 4))))))).bind fun t165 => (if (t165.length : Int) = (wrap64 ((wrap64 ((Int.tmod t155 4) + 1)) + (Int.tmod t156 (wrap64 (7 - (Int.tmod t155 4)))))) then ((impl_AreShares.f k1 t165).bind fun t168 => (laws_FnShares.j1 k1 l0 (Int.tmod t155 4) (wrap64 ((wrap64 ((Int.tmod t155 4) + 1)) + (Int.tmod t156 (wrap64 (7 - (Int.tmod t155 4)))))) (wrap64 (t164 * 3)) t165 (!t168))) else (laws_FnShares.j1 k1 l0 (Int.tmod t155 4) (wrap64 ((wrap64 ((Int.tmod t155 4) + 1)) + (Int.tmod t156 (wrap64 (7 - (Int.tmod t155 4)))))) (wrap64 (t164 * 3)) t165 true))) = some r := H
            have A13 := Aside0.mk A130
            clear A130
            replace H := Option.bind_eq_some_iff.mp H
            obtain ⟨t165, A140, H⟩ := H
            replace H : (if (t165.length : Int) = (wrap64 ((wrap64 ((Int.tmod t155 4) + 1)) + (Int.tmod t156 (wrap64 (7 - (Int.tmod t155 4)))))) then ((impl_AreShares.f k1 t165).bind fun t168 => (laws_FnShares.j1 k1 l0 (Int.tmod t155 4) (wrap64 ((wrap64 ((Int.tmod t155 4) + 1)) + (Int.tmod t156 (wrap64 (7 - (Int.tmod t155 4)))))) (wrap64 (t164 * 3)) t165 (!t168))) else (laws_FnShares.j1 k1 l0 (Int.tmod t155 4) (wrap64 ((wrap64 ((Int.tmod t155 4) + 1)) + (Int.tmod t156 (wrap64 (7 - (Int.tmod t155 4)))))) (wrap64 (t164 * 3)) t165 true)) = some r := H
            have A14 := Aside0.mk A140
            clear A140
            have HC15 := Aside0.mk H
            clear H
            go_upto_region 12 with (first | ((with_reducible refine gate_callee (f := 33) rfl ?_); refine goesL_ (some 47) rfl rfl Try.func33 (by kernel_rfl) rfl #[.slice A0 l0.length c0, .int .i64 7] rfl (by (try simp only [List.map_toArray, List.map_cons, List.map_nil]); first | done | rfl | (simp only [List.length_drop, List.length_take]; rfl)) ?_; (with_reducible refine (laws_at.calls _ _ l0 7 t164 _ ?side1 ?side2 A13.out).mono ?_); (case side1 => repeat (first | exact (Kd.C_below HR0.out HB.out) | (with_reducible refine Kd.C_alloc ?_ _) | (with_reducible refine Kd.C_drewN ?_ _) | (with_reducible refine Kd.C_drew ?_))); (case side2 => exact HC0.out); rintro e w' ⟨rfl, ⟨nd, rfl⟩⟩; refine ⟨_, rfl, ?_⟩; obtain ⟨Ao16, co16, eo16⟩ := Kd.R_slice HO_5.out; subst eo16) | ((with_reducible refine gate_callee (f := 21) rfl ?_); refine goesL_ (some 52) rfl rfl Try.func21 (by kernel_rfl) rfl #[.int .i64 (wrap64 (t164 * 3)), .slice Ao16 x5_1.length co16, .int .i64 (wrap64 ((wrap64 ((Int.tmod t155 4) + 1)) + (Int.tmod t156 (wrap64 (7 - (Int.tmod t155 4))))))] rfl (by (try simp only [List.map_toArray, List.map_cons, List.map_nil]); first | done | rfl | (simp only [List.length_drop, List.length_take]; rfl)) ?_; (with_reducible refine (impl_ShareSecret.calls k1 (wrap64 (t164 * 3)) _ _ x5_1 (wrap64 ((wrap64 ((Int.tmod t155 4) + 1)) + (Int.tmod t156 (wrap64 (7 - (Int.tmod t155 4)))))) t165 _ ?side1 ?side2 A14.out).mono ?_); (case side1 => repeat (first | exact (Kd.R_reads' HO_5.out).2.2 | (with_reducible refine Kd.C_alloc ?_ _) | (with_reducible refine Kd.C_drewN ?_ _) | (with_reducible refine Kd.C_drew ?_))); (case side2 => exact (Kd.R_reads' HO_5.out).2.1); rintro e w17 ⟨v166, rfl, ho0, hb⟩; refine ⟨_, rfl, ?_⟩; have n0_ := Aside0.mk (Kd.R_below (by (with_reducible repeat (first | apply Kd.R_alloc | apply Kd.R_drewN | apply Kd.R_drew)); exact HO_5.out) hb); have n1_ := Aside0.mk (Kd.R_lower ho0 (below_size (by repeat (first | (with_reducible first | exact HB.out | apply below_alloc | apply pw_below_drewN | apply below_drew1) | exact HB.out)))); have n2_ := Aside0.mk (below_step (by repeat (first | (with_reducible first | exact HB.out | apply below_alloc | apply pw_below_drewN | apply below_drew1) | exact HB.out)) hb); clear HO_5; clear HB; have HO_5 := n0_; have HO167 := n1_; have HB := n2_; clear n0_ n1_ n2_; (try clear hb); (try clear hb2); (try clear hk); (try clear hi); (try clear ho0)))
            (try simp only [Act.put, List.setIfInBounds_toArray, List.set_cons_zero, List.set_cons_succ])
            go_cut [61] (fun v61 wc => ∃ (kq : Nat) (x61_14 : Bool), v61 = .bool x61_14 ∧ Aside0 (laws_FnShares.j1 kq l0 (Int.tmod t155 4) (wrap64 ((wrap64 ((Int.tmod t155 4) + 1)) + (Int.tmod t156 (wrap64 (7 - (Int.tmod t155 4)))))) (wrap64 (t164 * 3)) t165 x61_14 = some r) ∧ Aside0 (kq ≤ k1) ∧ Aside0 (Kd.R k44 44 wc w.heap.size (fun _ => True) v166 t165) ∧ Aside0 (Below w.heap.size w wc))
            case first =>
              have H := HC15.out
              clear HC15
              by_cases c18 : (t165.length : Int) = (wrap64 ((wrap64 ((Int.tmod t155 4) + 1)) + (Int.tmod t156 (wrap64 (7 - (Int.tmod t155 4))))))
              · rw [if_pos c18] at H
                have c18b0 : ((t165.length : Int) == (wrap64 ((wrap64 ((Int.tmod t155 4) + 1)) + (Int.tmod t156 (wrap64 (7 - (Int.tmod t155 4))))))) = true := beq_iff_eq.mpr c18
                have c18b1 : ((t165.length : Int) != (wrap64 ((wrap64 ((Int.tmod t155 4) + 1)) + (Int.tmod t156 (wrap64 (7 - (Int.tmod t155 4))))))) = false := bne_eq_false_iff_eq.mpr c18
                clear c18
                (first | rw [c18b0] | (simp only [i64_w, i32_w]; rw [c18b0]) | skip)
                replace H := Option.bind_eq_some_iff.mp H
                obtain ⟨t168, A190, H⟩ := H
                replace H : (laws_FnShares.j1 k1 l0 (Int.tmod t155 4) (wrap64 ((wrap64 ((Int.tmod t155 4) + 1)) + (Int.tmod t156 (wrap64 (7 - (Int.tmod t155 4)))))) (wrap64 (t164 * 3)) t165 (!t168)) = some r := H
                have A19 := Aside0.mk A190
                clear A190
                have H' := Aside0.mk H
                clear H
                obtain ⟨Ao20, co20, eo20⟩ := Kd.R_slice HO167.out
                subst eo20
                go_wp2_with (first | (go_at_call 14; (with_reducible refine (impl_AreShares.calls k1 _ _ t165 t168 _ ?side1 ?side2 A19.out).mono ?_); (case side1 => repeat (first | exact (Kd.R_reads' HO167.out).2.2 | (with_reducible refine Kd.C_alloc ?_ _) | (with_reducible refine Kd.C_drewN ?_ _) | (with_reducible refine Kd.C_drew ?_))); (case side2 => exact (Kd.R_reads' HO167.out).2.1); rintro e w21 ⟨rfl, hb⟩; have n0_ := Aside0.mk (Kd.R_below (by (with_reducible repeat (first | apply Kd.R_alloc | apply Kd.R_drewN | apply Kd.R_drew)); exact HO_5.out) hb); have n1_ := Aside0.mk (Kd.R_below (by (with_reducible repeat (first | apply Kd.R_alloc | apply Kd.R_drewN | apply Kd.R_drew)); exact HO167.out) hb); have n2_ := Aside0.mk (below_step (by repeat (first | (with_reducible first | exact HB.out | apply below_alloc | apply pw_below_drewN | apply below_drew1) | exact HB.out)) hb); clear HO_5; clear HO167; clear HB; have HO_5 := n0_; have HO167 := n1_; have HB := n2_; clear n0_ n1_ n2_; (try clear hb); (try clear hb2); (try clear hk); (try clear hi)))
                go_meet
                case rel => exact ⟨_, (!t168), (by first | rfl | (simp; done) | (simp [*]; done)), H', ⟨by have := HK1.out; first | omega | exact Nat.le_refl _⟩, ⟨by (with_reducible repeat (first | apply Kd.R_alloc | apply Kd.R_drewN | apply Kd.R_drew)); exact HO167.out⟩, ⟨by repeat (first | (with_reducible first | exact HB.out | apply below_alloc | apply pw_below_drewN | apply below_drew1) | exact HB.out)⟩⟩
              · rw [if_neg c18] at H
                have c18b0 : ((t165.length : Int) == (wrap64 ((wrap64 ((Int.tmod t155 4) + 1)) + (Int.tmod t156 (wrap64 (7 - (Int.tmod t155 4))))))) = false := beq_eq_false_iff_ne.mpr c18
                have c18b1 : ((t165.length : Int) != (wrap64 ((wrap64 ((Int.tmod t155 4) + 1)) + (Int.tmod t156 (wrap64 (7 - (Int.tmod t155 4))))))) = true := bne_iff_ne.mpr c18
                (first | rw [c18b0] | (simp only [i64_w, i32_w]; rw [c18b0]) | skip)
                have H' := Aside0.mk H
                clear H
                obtain ⟨Ao22, co22, eo22⟩ := Kd.R_slice HO167.out
                subst eo22
                go_wp2
                go_meet
                case rel => exact ⟨_, (true), (by first | rfl | (simp; done) | (simp [*]; done)), H', ⟨by have := HK1.out; first | omega | exact Nat.le_refl _⟩, ⟨by (with_reducible repeat (first | apply Kd.R_alloc | apply Kd.R_drewN | apply Kd.R_drew)); exact HO167.out⟩, ⟨by repeat (first | (with_reducible first | exact HB.out | apply below_alloc | apply pw_below_drewN | apply below_drew1) | exact HB.out)⟩⟩
            case rest =>
              clear HC15
              try clear c1
              try clear c2
              try clear p2
              try clear c3
              try clear c6
              try clear c6b0
              try clear c6b1
              try clear p6
              try clear c9
              try clear c9b0
              try clear c11
              try clear c18
              try clear c18b0
              try clear c18b1
              try clear c21
              try clear p2
              try clear p6
              obtain ⟨kq, x61_14, rfl, HA, HJ14, HO_8, HB⟩ := hcut
              cases kq with
              | zero => exact absurd HA.out (by simp [laws_FnShares.j1])
              | succ kj14 =>
                have H := HA.out
                clear HA
                simp only [laws_FnShares.j1] at H
                by_cases c23 : x61_14 = true
                · subst c23
                  have H1 : (some false) = some r := by rw [if_pos rfl] at H; exact H
                  clear H
                  have H := H1
                  clear H1
                  obtain rfl := Option.some.inj H
                  exact absurd hrt (by decide)
                · replace c23 := Bool.eq_false_iff.mpr c23
                  subst c23
                  have H1 : ((laws_at.f l0 8).bind fun t169 => ((laws_at.f l0 9).bind fun t170 => ((some (([t169, t170] : List Int) : List Int)).bind fun y171 => ((spec_Min.f (Int.tmod t155 4) 2).bind fun t174 => (if 0 ≤ t174 then (if t174 ≤ (y171.length : Int) then ((impl_RefreshShares.f kj14 t165 (y171.take (t174 : Int).toNat)).bind fun t179 => (if (t179.length : Int) = (wrap64 ((wrap64 ((Int.tmod t155 4) + 1)) + (Int.tmod t156 (wrap64 (7 - (Int.tmod t155 4)))))) then ((laws_at.f l0 10).bind fun t182 => (if (wrap64 ((wrap64 ((wrap64 ((Int.tmod t155 4) + 1)) + (Int.tmod t156 (wrap64 (7 - (Int.tmod t155 4)))))) - (Int.tmod t155 4))) = 0 then (none) else (if 0 ≤ (Int.tmod t182 (wrap64 ((wrap64 ((wrap64 ((Int.tmod t155 4) + 1)) + (Int.tmod t156 (wrap64 (7 - (Int.tmod t155 4)))))) - (Int.tmod t155 4)))) then (if (Int.tmod t182 (wrap64 ((wrap64 ((wrap64 ((Int.tmod t155 4) + 1)) + (Int.tmod t156 (wrap64 (7 - (Int.tmod t155 4)))))) - (Int.tmod t155 4)))) ≤ (wrap64 ((wrap64 ((Int.tmod t182 (wrap64 ((wrap64 ((wrap64 ((Int.tmod t155 4) + 1)) + (Int.tmod t156 (wrap64 (7 - (Int.tmod t155 4)))))) - (Int.tmod t155 4)))) + (Int.tmod t155 4))) + 1)) then (if (wrap64 ((wrap64 ((Int.tmod t182 (wrap64 ((wrap64 ((wrap64 ((Int.tmod t155 4) + 1)) + (Int.tmod t156 (wrap64 (7 - (Int.tmod t155 4)))))) - (Int.tmod t155 4)))) + (Int.tmod t155 4))) + 1)) ≤ (t165.length : Int) then ((impl_Interpolate.f kj14 ((t165.take ((wrap64 ((wrap64 ((Int.tmod t182 (wrap64 ((wrap64 ((wrap64 ((Int.tmod t155 4) + 1)) + (Int.tmod t156 (wrap64 (7 - (Int.tmod t155 4)))))) - (Int.tmod t155 4)))) + (Int.tmod t155 4))) + 1)) : Int).toNat).drop ((Int.tmod t182 (wrap64 ((wrap64 ((wrap64 ((Int.tmod t155 4) + 1)) + (Int.tmod t156 (wrap64 (7 - (Int.tmod t155 4)))))) - (Int.tmod t155 4)))) : Int).toNat) 0).bind fun bt187 => ((impl_Interpolate.f kj14 t165 0).bind fun bt189 => (if (wrap64 ((wrap64 ((Int.tmod t182 (wrap64 ((wrap64 ((wrap64 ((Int.tmod t155 4) + 1)) + (Int.tmod t156 (wrap64 (7 - (Int.tmod t155 4)))))) - (Int.tmod t155 4)))) + (Int.tmod t155 4))) + 1)) ≤ (t179.length : Int) then ((impl_Interpolate.f kj14 ((t179.take ((wrap64 ((wrap64 ((Int.tmod t182 (wrap64 ((wrap64 ((wrap64 ((Int.tmod t155 4) + 1)) + (Int.tmod t156 (wrap64 (7 - (Int.tmod t155 4)))))) - (Int.tmod t155 4)))) + (Int.tmod t155 4))) + 1)) : Int).toNat).drop ((Int.tmod t182 (wrap64 ((wrap64 ((wrap64 ((Int.tmod t155 4) + 1)) + (Int.tmod t156 (wrap64 (7 - (Int.tmod t155 4)))))) - (Int.tmod t155 4)))) : Int).toNat) 0).bind fun bt195 => (if 0 ≤ (wrap64 ((Int.tmod t155 4) + 1)) then (if (wrap64 ((Int.tmod t155 4) + 1)) ≤ (t165.length : Int) then (if 0 ≤ (wrap64 ((wrap64 ((wrap64 ((Int.tmod t155 4) + 1)) + (Int.tmod t156 (wrap64 (7 - (Int.tmod t155 4)))))) - 1)) then (if (wrap64 ((wrap64 ((wrap64 ((Int.tmod t155 4) + 1)) + (Int.tmod t156 (wrap64 (7 - (Int.tmod t155 4)))))) - 1)) < (t165.length : Int) then ((impl_Interpolate.f kj14 (t165.take ((wrap64 ((Int.tmod t155 4) + 1)) : Int).toNat) ((rd_T44 t165 (wrap64 ((wrap64 ((wrap64 ((Int.tmod t155 4) + 1)) + (Int.tmod t156 (wrap64 (7 - (Int.tmod t155 4)))))) - 1))).f0)).bind fun bt202 => (if bt187.2 = true then (if bt187.1 = (wrap64 (t164 * 3)) then (if bt189.2 = true then (if bt189.1 = (wrap64 (t164 * 3)) then (if bt195.2 = true then (if bt195.1 = (wrap64 (t164 * 3)) then (if bt202.2 = true then (if bt202.1 = ((rd_T44 t165 (wrap64 ((wrap64 ((wrap64 ((Int.tmod t155 4) + 1)) + (Int.tmod t156 (wrap64 (7 - (Int.tmod t155 4)))))) - 1))).f1) then ((impl_AreShares.f kj14 t179).bind fun t205 => (some t205)) else (some false)) else (some false)) else (some false)) else (some false)) else (some false)) else (some false)) else (some false)) else (some false))) else (none)) else (none)) else (none)) else (none))) else (none)))) else (none)) else (none)) else (none)))) else (some false))) else (none)) else (none)))))) = some r := by rw [if_neg (show ¬ (false = true) by decide)] at H; exact H
                  clear H
                  have H := H1
                  clear H1
                  replace H := Option.bind_eq_some_iff.mp H
                  obtain ⟨t169, A240, H⟩ := H
                  replace H : ((laws_at.f l0 9).bind fun t170 => ((some (([t169, t170] : List Int) : List Int)).bind fun y171 => ((spec_Min.f (Int.tmod t155 4) 2).bind fun t174 => (if 0 ≤ t174 then (if t174 ≤ (y171.length : Int) then ((impl_RefreshShares.f kj14 t165 (y171.take (t174 : Int).toNat)).bind fun t179 => (if (t179.length : Int) = (wrap64 ((wrap64 ((Int.tmod t155 4) + 1)) + (Int.tmod t156 (wrap64 (7 - (Int.tmod t155 4)))))) then ((laws_at.f l0 10).bind fun t182 => (if (wrap64 ((wrap64 ((wrap64 ((Int.tmod t155 4) + 1)) + (Int.tmod t156 (wrap64 (7 - (Int.tmod t155 4)))))) - (Int.tmod t155 4))) = 0 then (none) else (if 0 ≤ (Int.tmod t182 (wrap64 ((wrap64 ((wrap64 ((Int.tmod t155 4) + 1)) + (Int.tmod t156 (wrap64 (7 - (Int.tmod t155 4)))))) - (Int.tmod t155 4)))) then (if (Int.tmod t182 (wrap64 ((wrap64 ((wrap64 ((Int.tmod t155 4) + 1)) + (Int.tmod t156 (wrap64 (7 - (Int.tmod t155 4)))))) - (Int.tmod t155 4)))) ≤ (wrap64 ((wrap64 ((Int.tmod t182 (wrap64 ((wrap64 ((wrap64 ((Int.tmod t155 4) + 1)) + (Int.tmod t156 (wrap64 (7 - (Int.tmod t155 4)))))) - (Int.tmod t155 4)))) + (Int.tmod t155 4))) + 1)) then (if (wrap64 ((wrap64 ((Int.tmod t182 (wrap64 ((wrap64 ((wrap64 ((Int.tmod t155 4) + 1)) + (Int.tmod t156 (wrap64 (7 - (Int.tmod t155 4)))))) - (Int.tmod t155 4)))) + (Int.tmod t155 4))) + 1)) ≤ (t165.length : Int) then ((impl_Interpolate.f kj14 ((t165.take ((wrap64 ((wrap64 ((Int.tmod t182 (wrap64 ((wrap64 ((wrap64 ((Int.tmod t155 4) + 1)) + (Int.tmod t156 (wrap64 (7 - (Int.tmod t155 4)))))) - (Int.tmod t155 4)))) + (Int.tmod t155 4))) + 1)) : Int).toNat).drop ((Int.tmod t182 (wrap64 ((wrap64 ((wrap64 ((Int.tmod t155 4) + 1)) + (Int.tmod t156 (wrap64 (7 - (Int.tmod t155 4)))))) - (Int.tmod t155 4)))) : Int).toNat) 0).bind fun bt187 => ((impl_Interpolate.f kj14 t165 0).bind fun bt189 => (if (wrap64 ((wrap64 ((Int.tmod t182 (wrap64 ((wrap64 ((wrap64 ((Int.tmod t155 4) + 1)) + (Int.tmod t156 (wrap64 (7 - (Int.tmod t155 4)))))) - (Int.tmod t155 4)))) + (Int.tmod t155 4))) + 1)) ≤ (t179.length : Int) then ((impl_Interpolate.f kj14 ((t179.take ((wrap64 ((wrap64 ((Int.tmod t182 (wrap64 ((wrap64 ((wrap64 ((Int.tmod t155 4) + 1)) + (Int.tmod t156 (wrap64 (7 - (Int.tmod t155 4)))))) - (Int.tmod t155 4)))) + (Int.tmod t155 4))) + 1)) : Int).toNat).drop ((Int.tmod t182 (wrap64 ((wrap64 ((wrap64 ((Int.tmod t155 4) + 1)) + (Int.tmod t156 (wrap64 (7 - (Int.tmod t155 4)))))) - (Int.tmod t155 4)))) : Int).toNat) 0).bind fun bt195 => (if 0 ≤ (wrap64 ((Int.tmod t155 4) + 1)) then (if (wrap64 ((Int.tmod t155 4) + 1)) ≤ (t165.length : Int) then (if 0 ≤ (wrap64 ((wrap64 ((wrap64 ((Int.tmod t155 4) + 1)) + (Int.tmod t156 (wrap64 (7 - (Int.tmod t155 4)))))) - 1)) then (if (wrap64 ((wrap64 ((wrap64 ((Int.tmod t155 4) + 1)) + (Int.tmod t156 (wrap64 (7 - (Int.tmod t155 4)))))) - 1)) < (t165.length : Int) then ((impl_Interpolate.f kj14 (t165.take ((wrap64 ((Int.tmod t155 4) + 1)) : Int).toNat) ((rd_T44 t165 (wrap64 ((wrap64 ((wrap64 ((Int.tmod t155 4) + 1)) + (Int.tmod t156 (wrap64 (7 - (Int.tmod t155 4)))))) - 1))).f0)).bind fun bt202 => (if bt187.2 = true then (if bt187.1 = (wrap64 (t164 * 3)) then (if bt189.2 = true then (if bt189.1 = (wrap64 (t164 * 3)) then (if bt195.2 = true then (if bt195.1 = (wrap64 (t164 * 3)) then (if bt202.2 = true then (if bt202.1 = ((rd_T44 t165 (wrap64 ((wrap64 ((wrap64 ((Int.tmod t155 4) + 1)) + (Int.tmod t156 (wrap64 (7 - (Int.tmod t155 4)))))) - 1))).f1) then ((impl_AreShares.f kj14 t179).bind fun t205 => (some t205)) else (some false)) else (some false)) else (some false)) else (some false)) else (some false)) else (some false)) else (some false)) else (some false))) else (none)) else (none)) else (none)) else (none))) else (none)))) else (none)) else (none)) else (none)))) else (some false))) else (none)) else (none))))) = some r := H
                  have A24 := Aside0.mk A240
                  clear A240
                  replace H := Option.bind_eq_some_iff.mp H
                  obtain ⟨t170, A250, H⟩ := H
                  replace H : ((some (([t169, t170] : List Int) : List Int)).bind fun y171 => ((spec_Min.f (Int.tmod t155 4) 2).bind fun t174 => (if 0 ≤ t174 then (if t174 ≤ (y171.length : Int) then ((impl_RefreshShares.f kj14 t165 (y171.take (t174 : Int).toNat)).bind fun t179 => (if (t179.length : Int) = (wrap64 ((wrap64 ((Int.tmod t155 4) + 1)) + (Int.tmod t156 (wrap64 (7 - (Int.tmod t155 4)))))) then ((laws_at.f l0 10).bind fun t182 => (if (wrap64 ((wrap64 ((wrap64 ((Int.tmod t155 4) + 1)) + (Int.tmod t156 (wrap64 (7 - (Int.tmod t155 4)))))) - (Int.tmod t155 4))) = 0 then (none) else (if 0 ≤ (Int.tmod t182 (wrap64 ((wrap64 ((wrap64 ((Int.tmod t155 4) + 1)) + (Int.tmod t156 (wrap64 (7 - (Int.tmod t155 4)))))) - (Int.tmod t155 4)))) then (if (Int.tmod t182 (wrap64 ((wrap64 ((wrap64 ((Int.tmod t155 4) + 1)) + (Int.tmod t156 (wrap64 (7 - (Int.tmod t155 4)))))) - (Int.tmod t155 4)))) ≤ (wrap64 ((wrap64 ((Int.tmod t182 (wrap64 ((wrap64 ((wrap64 ((Int.tmod t155 4) + 1)) + (Int.tmod t156 (wrap64 (7 - (Int.tmod t155 4)))))) - (Int.tmod t155 4)))) + (Int.tmod t155 4))) + 1)) then (if (wrap64 ((wrap64 ((Int.tmod t182 (wrap64 ((wrap64 ((wrap64 ((Int.tmod t155 4) + 1)) + (Int.tmod t156 (wrap64 (7 - (Int.tmod t155 4)))))) - (Int.tmod t155 4)))) + (Int.tmod t155 4))) + 1)) ≤ (t165.length : Int) then ((impl_Interpolate.f kj14 ((t165.take ((wrap64 ((wrap64 ((Int.tmod t182 (wrap64 ((wrap64 ((wrap64 ((Int.tmod t155 4) + 1)) + (Int.tmod t156 (wrap64 (7 - (Int.tmod t155 4)))))) - (Int.tmod t155 4)))) + (Int.tmod t155 4))) + 1)) : Int).toNat).drop ((Int.tmod t182 (wrap64 ((wrap64 ((wrap64 ((Int.tmod t155 4) + 1)) + (Int.tmod t156 (wrap64 (7 - (Int.tmod t155 4)))))) - (Int.tmod t155 4)))) : Int).toNat) 0).bind fun bt187 => ((impl_Interpolate.f kj14 t165 0).bind fun bt189 => (if (wrap64 ((wrap64 ((Int.tmod t182 (wrap64 ((wrap64 ((wrap64 ((Int.tmod t155 4) + 1)) + (Int.tmod t156 (wrap64 (7 - (Int.tmod t155 4)))))) - (Int.tmod t155 4)))) + (Int.tmod t155 4))) + 1)) ≤ (t179.length : Int) then ((impl_Interpolate.f kj14 ((t179.take ((wrap64 ((wrap64 ((Int.tmod t182 (wrap64 ((wrap64 ((wrap64 ((Int.tmod t155 4) + 1)) + (Int.tmod t156 (wrap64 (7 - (Int.tmod t155 4)))))) - (Int.tmod t155 4)))) + (Int.tmod t155 4))) + 1)) : Int).toNat).drop ((Int.tmod t182 (wrap64 ((wrap64 ((wrap64 ((Int.tmod t155 4) + 1)) + (Int.tmod t156 (wrap64 (7 - (Int.tmod t155 4)))))) - (Int.tmod t155 4)))) : Int).toNat) 0).bind fun bt195 => (if 0 ≤ (wrap64 ((Int.tmod t155 4) + 1)) then (if (wrap64 ((Int.tmod t155 4) + 1)) ≤ (t165.length : Int) then (if 0 ≤ (wrap64 ((wrap64 ((wrap64 ((Int.tmod t155 4) + 1)) + (Int.tmod t156 (wrap64 (7 - (Int.tmod t155 4)))))) - 1)) then (if (wrap64 ((wrap64 ((wrap64 ((Int.tmod t155 4) + 1)) + (Int.tmod t156 (wrap64 (7 - (Int.tmod t155 4)))))) - 1)) < (t165.length : Int) then ((impl_Interpolate.f kj14 (t165.take ((wrap64 ((Int.tmod t155 4) + 1)) : Int).toNat) ((rd_T44 t165 (wrap64 ((wrap64 ((wrap64 ((Int.tmod t155 4) + 1)) + (Int.tmod t156 (wrap64 (7 - (Int.tmod t155 4)))))) - 1))).f0)).bind fun bt202 => (if bt187.2 = true then (if bt187.1 = (wrap64 (t164 * 3)) then (if bt189.2 = true then (if bt189.1 = (wrap64 (t164 * 3)) then (if bt195.2 = true then (if bt195.1 = (wrap64 (t164 * 3)) then (if bt202.2 = true then (if bt202.1 = ((rd_T44 t165 (wrap64 ((wrap64 ((wrap64 ((Int.tmod t155 4) + 1)) + (Int.tmod t156 (wrap64 (7 - (Int.tmod t155 4)))))) - 1))).f1) then ((impl_AreShares.f kj14 t179).bind fun t205 => (some t205)) else (some false)) else (some false)) else (some false)) else (some false)) else (some false)) else (some false)) else (some false)) else (some false))) else (none)) else (none)) else (none)) else (none))) else (none)))) else (none)) else (none)) else (none)))) else (some false))) else (none)) else (none)))) = some r := H
                  have A25 := Aside0.mk A250
                  clear A250
                  obtain ⟨y171, hy171⟩ : ∃ y_ : List Int, y_ = (([t169, t170] : List Int)) := ⟨_, rfl⟩
                  replace H : ((spec_Min.f (Int.tmod t155 4) 2).bind fun t174 => (if 0 ≤ t174 then (if t174 ≤ (y171.length : Int) then ((impl_RefreshShares.f kj14 t165 (y171.take (t174 : Int).toNat)).bind fun t179 => (if (t179.length : Int) = (wrap64 ((wrap64 ((Int.tmod t155 4) + 1)) + (Int.tmod t156 (wrap64 (7 - (Int.tmod t155 4)))))) then ((laws_at.f l0 10).bind fun t182 => (if (wrap64 ((wrap64 ((wrap64 ((Int.tmod t155 4) + 1)) + (Int.tmod t156 (wrap64 (7 - (Int.tmod t155 4)))))) - (Int.tmod t155 4))) = 0 then (none) else (if 0 ≤ (Int.tmod t182 (wrap64 ((wrap64 ((wrap64 ((Int.tmod t155 4) + 1)) + (Int.tmod t156 (wrap64 (7 - (Int.tmod t155 4)))))) - (Int.tmod t155 4)))) then (if (Int.tmod t182 (wrap64 ((wrap64 ((wrap64 ((Int.tmod t155 4) + 1)) + (Int.tmod t156 (wrap64 (7 - (Int.tmod t155 4)))))) - (Int.tmod t155 4)))) ≤ (wrap64 ((wrap64 ((Int.tmod t182 (wrap64 ((wrap64 ((wrap64 ((Int.tmod t155 4) + 1)) + (Int.tmod t156 (wrap64 (7 - (Int.tmod t155 4)))))) - (Int.tmod t155 4)))) + (Int.tmod t155 4))) + 1)) then (if (wrap64 ((wrap64 ((Int.tmod t182 (wrap64 ((wrap64 ((wrap64 ((Int.tmod t155 4) + 1)) + (Int.tmod t156 (wrap64 (7 - (Int.tmod t155 4)))))) - (Int.tmod t155 4)))) + (Int.tmod t155 4))) + 1)) ≤ (t165.length : Int) then ((impl_Interpolate.f kj14 ((t165.take ((wrap64 ((wrap64 ((Int.tmod t182 (wrap64 ((wrap64 ((wrap64 ((Int.tmod t155 4) + 1)) + (Int.tmod t156 (wrap64 (7 - (Int.tmod t155 4)))))) - (Int.tmod t155 4)))) + (Int.tmod t155 4))) + 1)) : Int).toNat).drop ((Int.tmod t182 (wrap64 ((wrap64 ((wrap64 ((Int.tmod t155 4) + 1)) + (Int.tmod t156 (wrap64 (7 - (Int.tmod t155 4)))))) - (Int.tmod t155 4)))) : Int).toNat) 0).bind fun bt187 => ((impl_Interpolate.f kj14 t165 0).bind fun bt189 => (if (wrap64 ((wrap64 ((Int.tmod t182 (wrap64 ((wrap64 ((wrap64 ((Int.tmod t155 4) + 1)) + (Int.tmod t156 (wrap64 (7 - (Int.tmod t155 4)))))) - (Int.tmod t155 4)))) + (Int.tmod t155 4))) + 1)) ≤ (t179.length : Int) then ((impl_Interpolate.f kj14 ((t179.take ((wrap64 ((wrap64 ((Int.tmod t182 (wrap64 ((wrap64 ((wrap64 ((Int.tmod t155 4) + 1)) + (Int.tmod t156 (wrap64 (7 - (Int.tmod t155 4)))))) - (Int.tmod t155 4)))) + (Int.tmod t155 4))) + 1)) : Int).toNat).drop ((Int.tmod t182 (wrap64 ((wrap64 ((wrap64 ((Int.tmod t155 4) + 1)) + (Int.tmod t156 (wrap64 (7 - (Int.tmod t155 4)))))) - (Int.tmod t155 4)))) : Int).toNat) 0).bind fun bt195 => (if 0 ≤ (wrap64 ((Int.tmod t155 4) + 1)) then (if (wrap64 ((Int.tmod t155 4) + 1)) ≤ (t165.length : Int) then (if 0 ≤ (wrap64 ((wrap64 ((wrap64 ((Int.tmod t155 4) + 1)) + (Int.tmod t156 (wrap64 (7 - (Int.tmod t155 4)))))) - 1)) then (if (wrap64 ((wrap64 ((wrap64 ((Int.tmod t155 4) + 1)) + (Int.tmod t156 (wrap64 (7 - (Int.tmod t155 4)))))) - 1)) < (t165.length : Int) then ((impl_Interpolate.f kj14 (t165.take ((wrap64 ((Int.tmod t155 4) + 1)) : Int).toNat) ((rd_T44 t165 (wrap64 ((wrap64 ((wrap64 ((Int.tmod t155 4) + 1)) + (Int.tmod t156 (wrap64 (7 - (Int.tmod t155 4)))))) - 1))).f0)).bind fun bt202 => (if bt187.2 = true then (if bt187.1 = (wrap64 (t164 * 3)) then (if bt189.2 = true then (if bt189.1 = (wrap64 (t164 * 3)) then (if bt195.2 = true then (if bt195.1 = (wrap64 (t164 * 3)) then (if bt202.2 = true then (if bt202.1 = ((rd_T44 t165 (wrap64 ((wrap64 ((wrap64 ((Int.tmod t155 4) + 1)) + (Int.tmod t156 (wrap64 (7 - (Int.tmod t155 4)))))) - 1))).f1) then ((impl_AreShares.f kj14 t179).bind fun t205 => (some t205)) else (some false)) else (some false)) else (some false)) else (some false)) else (some false)) else (some false)) else (some false)) else (some false))) else (none)) else (none)) else (none)) else (none))) else (none)))) else (none)) else (none)) else (none)))) else (some false))) else (none)) else (none))) = some r := by first | (rw [hy171]; with_reducible exact H) | (have H2_ := (Option.bind_some _ _).symm.trans H; rw [hy171]; with_reducible exact H2_) | (have H2_ := (Option.bind_some _ _).symm.trans H; with_reducible exact H2_) | with_reducible exact H | (rw [hy171]; exact H) | exact H
                  have Ny171 := Aside0.mk hy171
                  clear hy171
                  replace H := Option.bind_eq_some_iff.mp H
                  obtain ⟨t174, A260, H⟩ := H
                  replace H : (if 0 ≤ t174 then (if t174 ≤ (y171.length : Int) then ((impl_RefreshShares.f kj14 t165 (y171.take (t174 : Int).toNat)).bind fun t179 => (if (t179.length : Int) = (wrap64 ((wrap64 ((Int.tmod t155 4) + 1)) + (Int.tmod t156 (wrap64 (7 - (Int.tmod t155 4)))))) then ((laws_at.f l0 10).bind fun t182 => (if (wrap64 ((wrap64 ((wrap64 ((Int.tmod t155 4) + 1)) + (Int.tmod t156 (wrap64 (7 - (Int.tmod t155 4)))))) - (Int.tmod t155 4))) = 0 then (none) else (if 0 ≤ (Int.tmod t182 (wrap64 ((wrap64 ((wrap64 ((Int.tmod t155 4) + 1)) + (Int.tmod t156 (wrap64 (7 - (Int.tmod t155 4)))))) - (Int.tmod t155 4)))) then (if (Int.tmod t182 (wrap64 ((wrap64 ((wrap64 ((Int.tmod t155 4) + 1)) + (Int.tmod t156 (wrap64 (7 - (Int.tmod t155 4)))))) - (Int.tmod t155 4)))) ≤ (wrap64 ((wrap64 ((Int.tmod t182 (wrap64 ((wrap64 ((wrap64 ((Int.tmod t155 4) + 1)) + (Int.tmod t156 (wrap64 (7 - (Int.tmod t155 4)))))) - (Int.tmod t155 4)))) + (Int.tmod t155 4))) + 1)) then (if (wrap64 ((wrap64 ((Int.tmod t182 (wrap64 ((wrap64 ((wrap64 ((Int.tmod t155 4) + 1)) + (Int.tmod t156 (wrap64 (7 - (Int.tmod t155 4)))))) - (Int.tmod t155 4)))) + (Int.tmod t155 4))) + 1)) ≤ (t165.length : Int) then ((impl_Interpolate.f kj14 ((t165.take ((wrap64 ((wrap64 ((Int.tmod t182 (wrap64 ((wrap64 ((wrap64 ((Int.tmod t155 4) + 1)) + (Int.tmod t156 (wrap64 (7 - (Int.tmod t155 4)))))) - (Int.tmod t155 4)))) + (Int.tmod t155 4))) + 1)) : Int).toNat).drop ((Int.tmod t182 (wrap64 ((wrap64 ((wrap64 ((Int.tmod t155 4) + 1)) + (Int.tmod t156 (wrap64 (7 - (Int.tmod t155 4)))))) - (Int.tmod t155 4)))) : Int).toNat) 0).bind fun bt187 => ((impl_Interpolate.f kj14 t165 0).bind fun bt189 => (if (wrap64 ((wrap64 ((Int.tmod t182 (wrap64 ((wrap64 ((wrap64 ((Int.tmod t155 4) + 1)) + (Int.tmod t156 (wrap64 (7 - (Int.tmod t155 4)))))) - (Int.tmod t155 4)))) + (Int.tmod t155 4))) + 1)) ≤ (t179.length : Int) then ((impl_Interpolate.f kj14 ((t179.take ((wrap64 ((wrap64 ((Int.tmod t182 (wrap64 ((wrap64 ((wrap64 ((Int.tmod t155 4) + 1)) + (Int.tmod t156 (wrap64 (7 - (Int.tmod t155 4)))))) - (Int.tmod t155 4)))) + (Int.tmod t155 4))) + 1)) : Int).toNat).drop ((Int.tmod t182 (wrap64 ((wrap64 ((wrap64 ((Int.tmod t155 4) + 1)) + (Int.tmod t156 (wrap64 (7 - (Int.tmod t155 4)))))) - (Int.tmod t155 4)))) : Int).toNat) 0).bind fun bt195 => (if 0 ≤ (wrap64 ((Int.tmod t155 4) + 1)) then (if (wrap64 ((Int.tmod t155 4) + 1)) ≤ (t165.length : Int) then (if 0 ≤ (wrap64 ((wrap64 ((wrap64 ((Int.tmod t155 4) + 1)) + (Int.tmod t156 (wrap64 (7 - (Int.tmod t155 4)))))) - 1)) then (if (wrap64 ((wrap64 ((wrap64 ((Int.tmod t155 4) + 1)) + (Int.tmod t156 (wrap64 (7 - (Int.tmod t155 4)))))) - 1)) < (t165.length : Int) then ((impl_Interpolate.f kj14 (t165.take ((wrap64 ((Int.tmod t155 4) + 1)) : Int).toNat) ((rd_T44 t165 (wrap64 ((wrap64 ((wrap64 ((Int.tmod t155 4) + 1)) + (Int.tmod t156 (wrap64 (7 - (Int.tmod t155 4)))))) - 1))).f0)).bind fun bt202 => (if bt187.2 = true then (if bt187.1 = (wrap64 (t164 * 3)) then (if bt189.2 = true then (if bt189.1 = (wrap64 (t164 * 3)) then (if bt195.2 = true then (if bt195.1 = (wrap64 (t164 * 3)) then (if bt202.2 = true then (if bt202.1 = ((rd_T44 t165 (wrap64 ((wrap64 ((wrap64 ((Int.tmod t155 4) + 1)) + (Int.tmod t156 (wrap64 (7 - (Int.tmod t155 4)))))) - 1))).f1) then ((impl_AreShares.f kj14 t179).bind fun t205 => (some t205)) else (some false)) else (some false)) else (some false)) else (some false)) else (some false)) else (some false)) else (some false)) else (some false))) else (none)) else (none)) else (none)) else (none))) else (none)))) else (none)) else (none)) else (none)))) else (some false))) else (none)) else (none)) = some r := H
                  have A26 := Aside0.mk A260
                  clear A260
                  by_cases c27 : 0 ≤ t174
                  · rw [if_pos c27] at H
                    have c27b0 := eq_true c27
                    have c27b1 : decide (0 ≤ t174) = true := decide_eq_true c27
                    clear c27
                    by_cases c28 : t174 ≤ (y171.length : Int)
                    · rw [if_pos c28] at H
                      have c28b0 := eq_true c28
                      have c28b1 : decide (t174 ≤ (y171.length : Int)) = true := decide_eq_true c28
                      clear c28
                      obtain ⟨y175, hy175⟩ : ∃ y_ : List Int, y_ = (y171.take (t174 : Int).toNat) := ⟨_, rfl⟩
                      replace H : ((impl_RefreshShares.f kj14 t165 y175).bind fun t179 => (if (t179.length : Int) = (wrap64 ((wrap64 ((Int.tmod t155 4) + 1)) + (Int.tmod t156 (wrap64 (7 - (Int.tmod t155 4)))))) then ((laws_at.f l0 10).bind fun t182 => (if (wrap64 ((wrap64 ((wrap64 ((Int.tmod t155 4) + 1)) + (Int.tmod t156 (wrap64 (7 - (Int.tmod t155 4)))))) - (Int.tmod t155 4))) = 0 then (none) else (if 0 ≤ (Int.tmod t182 (wrap64 ((wrap64 ((wrap64 ((Int.tmod t155 4) + 1)) + (Int.tmod t156 (wrap64 (7 - (Int.tmod t155 4)))))) - (Int.tmod t155 4)))) then (if (Int.tmod t182 (wrap64 ((wrap64 ((wrap64 ((Int.tmod t155 4) + 1)) + (Int.tmod t156 (wrap64 (7 - (Int.tmod t155 4)))))) - (Int.tmod t155 4)))) ≤ (wrap64 ((wrap64 ((Int.tmod t182 (wrap64 ((wrap64 ((wrap64 ((Int.tmod t155 4) + 1)) + (Int.tmod t156 (wrap64 (7 - (Int.tmod t155 4)))))) - (Int.tmod t155 4)))) + (Int.tmod t155 4))) + 1)) then (if (wrap64 ((wrap64 ((Int.tmod t182 (wrap64 ((wrap64 ((wrap64 ((Int.tmod t155 4) + 1)) + (Int.tmod t156 (wrap64 (7 - (Int.tmod t155 4)))))) - (Int.tmod t155 4)))) + (Int.tmod t155 4))) + 1)) ≤ (t165.length : Int) then ((impl_Interpolate.f kj14 ((t165.take ((wrap64 ((wrap64 ((Int.tmod t182 (wrap64 ((wrap64 ((wrap64 ((Int.tmod t155 4) + 1)) + (Int.tmod t156 (wrap64 (7 - (Int.tmod t155 4)))))) - (Int.tmod t155 4)))) + (Int.tmod t155 4))) + 1)) : Int).toNat).drop ((Int.tmod t182 (wrap64 ((wrap64 ((wrap64 ((Int.tmod t155 4) + 1)) + (Int.tmod t156 (wrap64 (7 - (Int.tmod t155 4)))))) - (Int.tmod t155 4)))) : Int).toNat) 0).bind fun bt187 => ((impl_Interpolate.f kj14 t165 0).bind fun bt189 => (if (wrap64 ((wrap64 ((Int.tmod t182 (wrap64 ((wrap64 ((wrap64 ((Int.tmod t155 4) + 1)) + (Int.tmod t156 (wrap64 (7 - (Int.tmod t155 4)))))) - (Int.tmod t155 4)))) + (Int.tmod t155 4))) + 1)) ≤ (t179.length : Int) then ((impl_Interpolate.f kj14 ((t179.take ((wrap64 ((wrap64 ((Int.tmod t182 (wrap64 ((wrap64 ((wrap64 ((Int.tmod t155 4) + 1)) + (Int.tmod t156 (wrap64 (7 - (Int.tmod t155 4)))))) - (Int.tmod t155 4)))) + (Int.tmod t155 4))) + 1)) : Int).toNat).drop ((Int.tmod t182 (wrap64 ((wrap64 ((wrap64 ((Int.tmod t155 4) + 1)) + (Int.tmod t156 (wrap64 (7 - (Int.tmod t155 4)))))) - (Int.tmod t155 4)))) : Int).toNat) 0).bind fun bt195 => (if 0 ≤ (wrap64 ((Int.tmod t155 4) + 1)) then (if (wrap64 ((Int.tmod t155 4) + 1)) ≤ (t165.length : Int) then (if 0 ≤ (wrap64 ((wrap64 ((wrap64 ((Int.tmod t155 4) + 1)) + (Int.tmod t156 (wrap64 (7 - (Int.tmod t155 4)))))) - 1)) then (if (wrap64 ((wrap64 ((wrap64 ((Int.tmod t155 4) + 1)) + (Int.tmod t156 (wrap64 (7 - (Int.tmod t155 4)))))) - 1)) < (t165.length : Int) then ((impl_Interpolate.f kj14 (t165.take ((wrap64 ((Int.tmod t155 4) + 1)) : Int).toNat) ((rd_T44 t165 (wrap64 ((wrap64 ((wrap64 ((Int.tmod t155 4) + 1)) + (Int.tmod t156 (wrap64 (7 - (Int.tmod t155 4)))))) - 1))).f0)).bind fun bt202 => (if bt187.2 = true then (if bt187.1 = (wrap64 (t164 * 3)) then (if bt189.2 = true then (if bt189.1 = (wrap64 (t164 * 3)) then (if bt195.2 = true then (if bt195.1 = (wrap64 (t164 * 3)) then (if bt202.2 = true then (if bt202.1 = ((rd_T44 t165 (wrap64 ((wrap64 ((wrap64 ((Int.tmod t155 4) + 1)) + (Int.tmod t156 (wrap64 (7 - (Int.tmod t155 4)))))) - 1))).f1) then ((impl_AreShares.f kj14 t179).bind fun t205 => (some t205)) else (some false)) else (some false)) else (some false)) else (some false)) else (some false)) else (some false)) else (some false)) else (some false))) else (none)) else (none)) else (none)) else (none))) else (none)))) else (none)) else (none)) else (none)))) else (some false))) = some r := by first | (rw [hy175]; with_reducible exact H) | (have H2_ := (Option.bind_some _ _).symm.trans H; rw [hy175]; with_reducible exact H2_) | (have H2_ := (Option.bind_some _ _).symm.trans H; with_reducible exact H2_) | with_reducible exact H | (rw [hy175]; exact H) | exact H
                      have Ny175 := Aside0.mk hy175
                      clear hy175
                      replace H := Option.bind_eq_some_iff.mp H
                      obtain ⟨t179, A290, H⟩ := H
                      replace H : (if (t179.length : Int) = (wrap64 ((wrap64 ((Int.tmod t155 4) + 1)) + (Int.tmod t156 (wrap64 (7 - (Int.tmod t155 4)))))) then ((laws_at.f l0 10).bind fun t182 => (if (wrap64 ((wrap64 ((wrap64 ((Int.tmod t155 4) + 1)) + (Int.tmod t156 (wrap64 (7 - (Int.tmod t155 4)))))) - (Int.tmod t155 4))) = 0 then (none) else (if 0 ≤ (Int.tmod t182 (wrap64 ((wrap64 ((wrap64 ((Int.tmod t155 4) + 1)) + (Int.tmod t156 (wrap64 (7 - (Int.tmod t155 4)))))) - (Int.tmod t155 4)))) then (if (Int.tmod t182 (wrap64 ((wrap64 ((wrap64 ((Int.tmod t155 4) + 1)) + (Int.tmod t156 (wrap64 (7 - (Int.tmod t155 4)))))) - (Int.tmod t155 4)))) ≤ (wrap64 ((wrap64 ((Int.tmod t182 (wrap64 ((wrap64 ((wrap64 ((Int.tmod t155 4) + 1)) + (Int.tmod t156 (wrap64 (7 - (Int.tmod t155 4)))))) - (Int.tmod t155 4)))) + (Int.tmod t155 4))) + 1)) then (if (wrap64 ((wrap64 ((Int.tmod t182 (wrap64 ((wrap64 ((wrap64 ((Int.tmod t155 4) + 1)) + (Int.tmod t156 (wrap64 (7 - (Int.tmod t155 4)))))) - (Int.tmod t155 4)))) + (Int.tmod t155 4))) + 1)) ≤ (t165.length : Int) then ((impl_Interpolate.f kj14 ((t165.take ((wrap64 ((wrap64 ((Int.tmod t182 (wrap64 ((wrap64 ((wrap64 ((Int.tmod t155 4) + 1)) + (Int.tmod t156 (wrap64 (7 - (Int.tmod t155 4)))))) - (Int.tmod t155 4)))) + (Int.tmod t155 4))) + 1)) : Int).toNat).drop ((Int.tmod t182 (wrap64 ((wrap64 ((wrap64 ((Int.tmod t155 4) + 1)) + (Int.tmod t156 (wrap64 (7 - (Int.tmod t155 4)))))) - (Int.tmod t155 4)))) : Int).toNat) 0).bind fun bt187 => ((impl_Interpolate.f kj14 t165 0).bind fun bt189 => (if (wrap64 ((wrap64 ((Int.tmod t182 (wrap64 ((wrap64 ((wrap64 ((Int.tmod t155 4) + 1)) + (Int.tmod t156 (wrap64 (7 - (Int.tmod t155 4)))))) - (Int.tmod t155 4)))) + (Int.tmod t155 4))) + 1)) ≤ (t179.length : Int) then ((impl_Interpolate.f kj14 ((t179.take ((wrap64 ((wrap64 ((Int.tmod t182 (wrap64 ((wrap64 ((wrap64 ((Int.tmod t155 4) + 1)) + (Int.tmod t156 (wrap64 (7 - (Int.tmod t155 4)))))) - (Int.tmod t155 4)))) + (Int.tmod t155 4))) + 1)) : Int).toNat).drop ((Int.tmod t182 (wrap64 ((wrap64 ((wrap64 ((Int.tmod t155 4) + 1)) + (Int.tmod t156 (wrap64 (7 - (Int.tmod t155 4)))))) - (Int.tmod t155 4)))) : Int).toNat) 0).bind fun bt195 => (if 0 ≤ (wrap64 ((Int.tmod t155 4) + 1)) then (if (wrap64 ((Int.tmod t155 4) + 1)) ≤ (t165.length : Int) then (if 0 ≤ (wrap64 ((wrap64 ((wrap64 ((Int.tmod t155 4) + 1)) + (Int.tmod t156 (wrap64 (7 - (Int.tmod t155 4)))))) - 1)) then (if (wrap64 ((wrap64 ((wrap64 ((Int.tmod t155 4) + 1)) + (Int.tmod t156 (wrap64 (7 - (Int.tmod t155 4)))))) - 1)) < (t165.length : Int) then ((impl_Interpolate.f kj14 (t165.take ((wrap64 ((Int.tmod t155 4) + 1)) : Int).toNat) ((rd_T44 t165 (wrap64 ((wrap64 ((wrap64 ((Int.tmod t155 4) + 1)) + (Int.tmod t156 (wrap64 (7 - (Int.tmod t155 4)))))) - 1))).f0)).bind fun bt202 => (if bt187.2 = true then (if bt187.1 = (wrap64 (t164 * 3)) then (if bt189.2 = true then (if bt189.1 = (wrap64 (t164 * 3)) then (if bt195.2 = true then (if bt195.1 = (wrap64 (t164 * 3)) then (if bt202.2 = true then (if bt202.1 = ((rd_T44 t165 (wrap64 ((wrap64 ((wrap64 ((Int.tmod t155 4) + 1)) + (Int.tmod t156 (wrap64 (7 - (Int.tmod t155 4)))))) - 1))).f1) then ((impl_AreShares.f kj14 t179).bind fun t205 => (some t205)) else (some false)) else (some false)) else (some false)) else (some false)) else (some false)) else (some false)) else (some false)) else (some false))) else (none)) else (none)) else (none)) else (none))) else (none)))) else (none)) else (none)) else (none)))) else (some false)) = some r := H
                      have A29 := Aside0.mk A290
                      clear A290
                      by_cases c30 : (t179.length : Int) = (wrap64 ((wrap64 ((Int.tmod t155 4) + 1)) + (Int.tmod t156 (wrap64 (7 - (Int.tmod t155 4))))))
                      · rw [if_pos c30] at H
                        have c30b0 : ((t179.length : Int) == (wrap64 ((wrap64 ((Int.tmod t155 4) + 1)) + (Int.tmod t156 (wrap64 (7 - (Int.tmod t155 4))))))) = true := beq_iff_eq.mpr c30
                        have c30b1 : ((t179.length : Int) != (wrap64 ((wrap64 ((Int.tmod t155 4) + 1)) + (Int.tmod t156 (wrap64 (7 - (Int.tmod t155 4))))))) = false := bne_eq_false_iff_eq.mpr c30
                        clear c30
                        replace H := Option.bind_eq_some_iff.mp H
                        obtain ⟨t182, A310, H⟩ := H
                        replace H : (if (wrap64 ((wrap64 ((wrap64 ((Int.tmod t155 4) + 1)) + (Int.tmod t156 (wrap64 (7 - (Int.tmod t155 4)))))) - (Int.tmod t155 4))) = 0 then (none) else (if 0 ≤ (Int.tmod t182 (wrap64 ((wrap64 ((wrap64 ((Int.tmod t155 4) + 1)) + (Int.tmod t156 (wrap64 (7 - (Int.tmod t155 4)))))) - (Int.tmod t155 4)))) then (if (Int.tmod t182 (wrap64 ((wrap64 ((wrap64 ((Int.tmod t155 4) + 1)) + (Int.tmod t156 (wrap64 (7 - (Int.tmod t155 4)))))) - (Int.tmod t155 4)))) ≤ (wrap64 ((wrap64 ((Int.tmod t182 (wrap64 ((wrap64 ((wrap64 ((Int.tmod t155 4) + 1)) + (Int.tmod t156 (wrap64 (7 - (Int.tmod t155 4)))))) - (Int.tmod t155 4)))) + (Int.tmod t155 4))) + 1)) then (if (wrap64 ((wrap64 ((Int.tmod t182 (wrap64 ((wrap64 ((wrap64 ((Int.tmod t155 4) + 1)) + (Int.tmod t156 (wrap64 (7 - (Int.tmod t155 4)))))) - (Int.tmod t155 4)))) + (Int.tmod t155 4))) + 1)) ≤ (t165.length : Int) then ((impl_Interpolate.f kj14 ((t165.take ((wrap64 ((wrap64 ((Int.tmod t182 (wrap64 ((wrap64 ((wrap64 ((Int.tmod t155 4) + 1)) + (Int.tmod t156 (wrap64 (7 - (Int.tmod t155 4)))))) - (Int.tmod t155 4)))) + (Int.tmod t155 4))) + 1)) : Int).toNat).drop ((Int.tmod t182 (wrap64 ((wrap64 ((wrap64 ((Int.tmod t155 4) + 1)) + (Int.tmod t156 (wrap64 (7 - (Int.tmod t155 4)))))) - (Int.tmod t155 4)))) : Int).toNat) 0).bind fun bt187 => ((impl_Interpolate.f kj14 t165 0).bind fun bt189 => (if (wrap64 ((wrap64 ((Int.tmod t182 (wrap64 ((wrap64 ((wrap64 ((Int.tmod t155 4) + 1)) + (Int.tmod t156 (wrap64 (7 - (Int.tmod t155 4)))))) - (Int.tmod t155 4)))) + (Int.tmod t155 4))) + 1)) ≤ (t179.length : Int) then ((impl_Interpolate.f kj14 ((t179.take ((wrap64 ((wrap64 ((Int.tmod t182 (wrap64 ((wrap64 ((wrap64 ((Int.tmod t155 4) + 1)) + (Int.tmod t156 (wrap64 (7 - (Int.tmod t155 4)))))) - (Int.tmod t155 4)))) + (Int.tmod t155 4))) + 1)) : Int).toNat).drop ((Int.tmod t182 (wrap64 ((wrap64 ((wrap64 ((Int.tmod t155 4) + 1)) + (Int.tmod t156 (wrap64 (7 - (Int.tmod t155 4)))))) - (Int.tmod t155 4)))) : Int).toNat) 0).bind fun bt195 => (if 0 ≤ (wrap64 ((Int.tmod t155 4) + 1)) then (if (wrap64 ((Int.tmod t155 4) + 1)) ≤ (t165.length : Int) then (if 0 ≤ (wrap64 ((wrap64 ((wrap64 ((Int.tmod t155 4) + 1)) + (Int.tmod t156 (wrap64 (7 - (Int.tmod t155 4)))))) - 1)) then (if (wrap64 ((wrap64 ((wrap64 ((Int.tmod t155 4) + 1)) + (Int.tmod t156 (wrap64 (7 - (Int.tmod t155 4)))))) - 1)) < (t165.length : Int) then ((impl_Interpolate.f kj14 (t165.take ((wrap64 ((Int.tmod t155 4) + 1)) : Int).toNat) ((rd_T44 t165 (wrap64 ((wrap64 ((wrap64 ((Int.tmod t155 4) + 1)) + (Int.tmod t156 (wrap64 (7 - (Int.tmod t155 4)))))) - 1))).f0)).bind fun bt202 => (if bt187.2 = true then (if bt187.1 = (wrap64 (t164 * 3)) then (if bt189.2 = true then (if bt189.1 = (wrap64 (t164 * 3)) then (if bt195.2 = true then (if bt195.1 = (wrap64 (t164 * 3)) then (if bt202.2 = true then (if bt202.1 = ((rd_T44 t165 (wrap64 ((wrap64 ((wrap64 ((Int.tmod t155 4) + 1)) + (Int.tmod t156 (wrap64 (7 - (Int.tmod t155 4)))))) - 1))).f1) then ((impl_AreShares.f kj14 t179).bind fun t205 => (some t205)) else (some false)) else (some false)) else (some false)) else (some false)) else (some false)) else (some false)) else (some false)) else (some false))) else (none)) else (none)) else (none)) else (none))) else (none)))) else (none)) else (none)) else (none))) = some r := H
                        have A31 := Aside0.mk A310
                        clear A310
                        by_cases c32 : (wrap64 ((wrap64 ((wrap64 ((Int.tmod t155 4) + 1)) + (Int.tmod t156 (wrap64 (7 - (Int.tmod t155 4)))))) - (Int.tmod t155 4))) = 0
                        · rw [if_pos c32] at H
                          exact absurd H (by simp)
                        · rw [if_neg c32] at H
                          have c32b0 : ((wrap64 ((wrap64 ((wrap64 ((Int.tmod t155 4) + 1)) + (Int.tmod t156 (wrap64 (7 - (Int.tmod t155 4)))))) - (Int.tmod t155 4))) == 0) = false := beq_eq_false_iff_ne.mpr c32
                          have c32b1 : ((wrap64 ((wrap64 ((wrap64 ((Int.tmod t155 4) + 1)) + (Int.tmod t156 (wrap64 (7 - (Int.tmod t155 4)))))) - (Int.tmod t155 4))) != 0) = true := bne_iff_ne.mpr c32
                          obtain ⟨ji33, hji33⟩ : ∃ j_ : Int, (Int.tmod t182 (wrap64 ((wrap64 ((wrap64 ((Int.tmod t155 4) + 1)) + (Int.tmod t156 (wrap64 (7 - (Int.tmod t155 4)))))) - (Int.tmod t155 4)))) = j_ := ⟨_, rfl⟩
                          replace H : (if 0 ≤ (ji33) then (if (ji33) ≤ (wrap64 ((wrap64 ((ji33) + (Int.tmod t155 4))) + 1)) then (if (wrap64 ((wrap64 ((ji33) + (Int.tmod t155 4))) + 1)) ≤ (t165.length : Int) then ((impl_Interpolate.f kj14 ((t165.take ((wrap64 ((wrap64 ((ji33) + (Int.tmod t155 4))) + 1)) : Int).toNat).drop ((ji33) : Int).toNat) 0).bind fun bt187 => ((impl_Interpolate.f kj14 t165 0).bind fun bt189 => (if (wrap64 ((wrap64 ((ji33) + (Int.tmod t155 4))) + 1)) ≤ (t179.length : Int) then ((impl_Interpolate.f kj14 ((t179.take ((wrap64 ((wrap64 ((ji33) + (Int.tmod t155 4))) + 1)) : Int).toNat).drop ((ji33) : Int).toNat) 0).bind fun bt195 => (if 0 ≤ (wrap64 ((Int.tmod t155 4) + 1)) then (if (wrap64 ((Int.tmod t155 4) + 1)) ≤ (t165.length : Int) then (if 0 ≤ (wrap64 ((wrap64 ((wrap64 ((Int.tmod t155 4) + 1)) + (Int.tmod t156 (wrap64 (7 - (Int.tmod t155 4)))))) - 1)) then (if (wrap64 ((wrap64 ((wrap64 ((Int.tmod t155 4) + 1)) + (Int.tmod t156 (wrap64 (7 - (Int.tmod t155 4)))))) - 1)) < (t165.length : Int) then ((impl_Interpolate.f kj14 (t165.take ((wrap64 ((Int.tmod t155 4) + 1)) : Int).toNat) ((rd_T44 t165 (wrap64 ((wrap64 ((wrap64 ((Int.tmod t155 4) + 1)) + (Int.tmod t156 (wrap64 (7 - (Int.tmod t155 4)))))) - 1))).f0)).bind fun bt202 => (if bt187.2 = true then (if bt187.1 = (wrap64 (t164 * 3)) then (if bt189.2 = true then (if bt189.1 = (wrap64 (t164 * 3)) then (if bt195.2 = true then (if bt195.1 = (wrap64 (t164 * 3)) then (if bt202.2 = true then (if bt202.1 = ((rd_T44 t165 (wrap64 ((wrap64 ((wrap64 ((Int.tmod t155 4) + 1)) + (Int.tmod t156 (wrap64 (7 - (Int.tmod t155 4)))))) - 1))).f1) then ((impl_AreShares.f kj14 t179).bind fun t205 => (some t205)) else (some false)) else (some false)) else (some false)) else (some false)) else (some false)) else (some false)) else (some false)) else (some false))) else (none)) else (none)) else (none)) else (none))) else (none)))) else (none)) else (none)) else (none)) = some r := by first | (rw [hji33] at H; exact H) | (simp only [hji33] at H ⊢; exact H)
                          (try rw [hji33] at A24)
                          (try rw [hji33] at A25)
                          (try rw [hji33] at A26)
                          (try rw [hji33] at A29)
                          (try rw [hji33] at A31)
                          by_cases c34 : 0 ≤ (ji33)
                          · rw [if_pos c34] at H
                            have c34b0 := eq_true c34
                            have c34b1 : decide (0 ≤ (ji33)) = true := decide_eq_true c34
                            clear c34
                            by_cases c35 : (ji33) ≤ (wrap64 ((wrap64 ((ji33) + (Int.tmod t155 4))) + 1))
                            · rw [if_pos c35] at H
                              have c35b0 := eq_true c35
                              have c35b1 : decide ((ji33) ≤ (wrap64 ((wrap64 ((ji33) + (Int.tmod t155 4))) + 1))) = true := decide_eq_true c35
                              by_cases c36 : (wrap64 ((wrap64 ((ji33) + (Int.tmod t155 4))) + 1)) ≤ (t165.length : Int)
                              · rw [if_pos c36] at H
                                have c36b0 := eq_true c36
                                have c36b1 : decide ((wrap64 ((wrap64 ((ji33) + (Int.tmod t155 4))) + 1)) ≤ (t165.length : Int)) = true := decide_eq_true c36
                                obtain ⟨y183, hy183⟩ : ∃ y_ : List (S44), y_ = ((t165.take ((wrap64 ((wrap64 ((ji33) + (Int.tmod t155 4))) + 1)) : Int).toNat).drop ((ji33) : Int).toNat) := ⟨_, rfl⟩
                                replace H : ((impl_Interpolate.f kj14 y183 0).bind fun bt187 => ((impl_Interpolate.f kj14 t165 0).bind fun bt189 => (if (wrap64 ((wrap64 ((ji33) + (Int.tmod t155 4))) + 1)) ≤ (t179.length : Int) then ((impl_Interpolate.f kj14 ((t179.take ((wrap64 ((wrap64 ((ji33) + (Int.tmod t155 4))) + 1)) : Int).toNat).drop ((ji33) : Int).toNat) 0).bind fun bt195 => (if 0 ≤ (wrap64 ((Int.tmod t155 4) + 1)) then (if (wrap64 ((Int.tmod t155 4) + 1)) ≤ (t165.length : Int) then (if 0 ≤ (wrap64 ((wrap64 ((wrap64 ((Int.tmod t155 4) + 1)) + (Int.tmod t156 (wrap64 (7 - (Int.tmod t155 4)))))) - 1)) then (if (wrap64 ((wrap64 ((wrap64 ((Int.tmod t155 4) + 1)) + (Int.tmod t156 (wrap64 (7 - (Int.tmod t155 4)))))) - 1)) < (t165.length : Int) then ((impl_Interpolate.f kj14 (t165.take ((wrap64 ((Int.tmod t155 4) + 1)) : Int).toNat) ((rd_T44 t165 (wrap64 ((wrap64 ((wrap64 ((Int.tmod t155 4) + 1)) + (Int.tmod t156 (wrap64 (7 - (Int.tmod t155 4)))))) - 1))).f0)).bind fun bt202 => (if bt187.2 = true then (if bt187.1 = (wrap64 (t164 * 3)) then (if bt189.2 = true then (if bt189.1 = (wrap64 (t164 * 3)) then (if bt195.2 = true then (if bt195.1 = (wrap64 (t164 * 3)) then (if bt202.2 = true then (if bt202.1 = ((rd_T44 t165 (wrap64 ((wrap64 ((wrap64 ((Int.tmod t155 4) + 1)) + (Int.tmod t156 (wrap64 (7 - (Int.tmod t155 4)))))) - 1))).f1) then ((impl_AreShares.f kj14 t179).bind fun t205 => (some t205)) else (some false)) else (some false)) else (some false)) else (some false)) else (some false)) else (some false)) else (some false)) else (some false))) else (none)) else (none)) else (none)) else (none))) else (none)))) = some r := by first | (rw [hy183]; with_reducible exact H) | (have H2_ := (Option.bind_some _ _).symm.trans H; rw [hy183]; with_reducible exact H2_) | (have H2_ := (Option.bind_some _ _).symm.trans H; with_reducible exact H2_) | with_reducible exact H | (rw [hy183]; exact H) | exact H
                                have Ny183 := Aside0.mk hy183
                                clear hy183
                                replace H := Option.bind_eq_some_iff.mp H
                                obtain ⟨⟨t187, t188⟩, A370, H⟩ := H
                                replace H : ((impl_Interpolate.f kj14 t165 0).bind fun bt189 => (if (wrap64 ((wrap64 ((ji33) + (Int.tmod t155 4))) + 1)) ≤ (t179.length : Int) then ((impl_Interpolate.f kj14 ((t179.take ((wrap64 ((wrap64 ((ji33) + (Int.tmod t155 4))) + 1)) : Int).toNat).drop ((ji33) : Int).toNat) 0).bind fun bt195 => (if 0 ≤ (wrap64 ((Int.tmod t155 4) + 1)) then (if (wrap64 ((Int.tmod t155 4) + 1)) ≤ (t165.length : Int) then (if 0 ≤ (wrap64 ((wrap64 ((wrap64 ((Int.tmod t155 4) + 1)) + (Int.tmod t156 (wrap64 (7 - (Int.tmod t155 4)))))) - 1)) then (if (wrap64 ((wrap64 ((wrap64 ((Int.tmod t155 4) + 1)) + (Int.tmod t156 (wrap64 (7 - (Int.tmod t155 4)))))) - 1)) < (t165.length : Int) then ((impl_Interpolate.f kj14 (t165.take ((wrap64 ((Int.tmod t155 4) + 1)) : Int).toNat) ((rd_T44 t165 (wrap64 ((wrap64 ((wrap64 ((Int.tmod t155 4) + 1)) + (Int.tmod t156 (wrap64 (7 - (Int.tmod t155 4)))))) - 1))).f0)).bind fun bt202 => (if t188 = true then (if t187 = (wrap64 (t164 * 3)) then (if bt189.2 = true then (if bt189.1 = (wrap64 (t164 * 3)) then (if bt195.2 = true then (if bt195.1 = (wrap64 (t164 * 3)) then (if bt202.2 = true then (if bt202.1 = ((rd_T44 t165 (wrap64 ((wrap64 ((wrap64 ((Int.tmod t155 4) + 1)) + (Int.tmod t156 (wrap64 (7 - (Int.tmod t155 4)))))) - 1))).f1) then ((impl_AreShares.f kj14 t179).bind fun t205 => (some t205)) else (some false)) else (some false)) else (some false)) else (some false)) else (some false)) else (some false)) else (some false)) else (some false))) else (none)) else (none)) else (none)) else (none))) else (none))) = some r := H
                                have A37 := Aside0.mk A370
                                clear A370
                                replace H := Option.bind_eq_some_iff.mp H
                                obtain ⟨⟨t189, t190⟩, A380, H⟩ := H
                                replace H : (if (wrap64 ((wrap64 ((ji33) + (Int.tmod t155 4))) + 1)) ≤ (t179.length : Int) then ((impl_Interpolate.f kj14 ((t179.take ((wrap64 ((wrap64 ((ji33) + (Int.tmod t155 4))) + 1)) : Int).toNat).drop ((ji33) : Int).toNat) 0).bind fun bt195 => (if 0 ≤ (wrap64 ((Int.tmod t155 4) + 1)) then (if (wrap64 ((Int.tmod t155 4) + 1)) ≤ (t165.length : Int) then (if 0 ≤ (wrap64 ((wrap64 ((wrap64 ((Int.tmod t155 4) + 1)) + (Int.tmod t156 (wrap64 (7 - (Int.tmod t155 4)))))) - 1)) then (if (wrap64 ((wrap64 ((wrap64 ((Int.tmod t155 4) + 1)) + (Int.tmod t156 (wrap64 (7 - (Int.tmod t155 4)))))) - 1)) < (t165.length : Int) then ((impl_Interpolate.f kj14 (t165.take ((wrap64 ((Int.tmod t155 4) + 1)) : Int).toNat) ((rd_T44 t165 (wrap64 ((wrap64 ((wrap64 ((Int.tmod t155 4) + 1)) + (Int.tmod t156 (wrap64 (7 - (Int.tmod t155 4)))))) - 1))).f0)).bind fun bt202 => (if t188 = true then (if t187 = (wrap64 (t164 * 3)) then (if t190 = true then (if t189 = (wrap64 (t164 * 3)) then (if bt195.2 = true then (if bt195.1 = (wrap64 (t164 * 3)) then (if bt202.2 = true then (if bt202.1 = ((rd_T44 t165 (wrap64 ((wrap64 ((wrap64 ((Int.tmod t155 4) + 1)) + (Int.tmod t156 (wrap64 (7 - (Int.tmod t155 4)))))) - 1))).f1) then ((impl_AreShares.f kj14 t179).bind fun t205 => (some t205)) else (some false)) else (some false)) else (some false)) else (some false)) else (some false)) else (some false)) else (some false)) else (some false))) else (none)) else (none)) else (none)) else (none))) else (none)) = some r := H
                                have A38 := Aside0.mk A380
                                clear A380
                                have c39b0 := eq_true (of_decide_eq_true (by first | (with_reducible assumption) | assumption) : 0 ≤ (ji33))
                                have c40b0 := eq_true (of_decide_eq_true (by first | (with_reducible assumption) | assumption) : (ji33) ≤ (wrap64 ((wrap64 ((ji33) + (Int.tmod t155 4))) + 1)))
                                by_cases c41 : (wrap64 ((wrap64 ((ji33) + (Int.tmod t155 4))) + 1)) ≤ (t179.length : Int)
                                · rw [if_pos c41] at H
                                  have c41b0 := eq_true c41
                                  have c41b1 : decide ((wrap64 ((wrap64 ((ji33) + (Int.tmod t155 4))) + 1)) ≤ (t179.length : Int)) = true := decide_eq_true c41
                                  obtain ⟨y191, hy191⟩ : ∃ y_ : List (S44), y_ = ((t179.take ((wrap64 ((wrap64 ((ji33) + (Int.tmod t155 4))) + 1)) : Int).toNat).drop ((ji33) : Int).toNat) := ⟨_, rfl⟩
                                  replace H : ((impl_Interpolate.f kj14 y191 0).bind fun bt195 => (if 0 ≤ (wrap64 ((Int.tmod t155 4) + 1)) then (if (wrap64 ((Int.tmod t155 4) + 1)) ≤ (t165.length : Int) then (if 0 ≤ (wrap64 ((wrap64 ((wrap64 ((Int.tmod t155 4) + 1)) + (Int.tmod t156 (wrap64 (7 - (Int.tmod t155 4)))))) - 1)) then (if (wrap64 ((wrap64 ((wrap64 ((Int.tmod t155 4) + 1)) + (Int.tmod t156 (wrap64 (7 - (Int.tmod t155 4)))))) - 1)) < (t165.length : Int) then ((impl_Interpolate.f kj14 (t165.take ((wrap64 ((Int.tmod t155 4) + 1)) : Int).toNat) ((rd_T44 t165 (wrap64 ((wrap64 ((wrap64 ((Int.tmod t155 4) + 1)) + (Int.tmod t156 (wrap64 (7 - (Int.tmod t155 4)))))) - 1))).f0)).bind fun bt202 => (if t188 = true then (if t187 = (wrap64 (t164 * 3)) then (if t190 = true then (if t189 = (wrap64 (t164 * 3)) then (if bt195.2 = true then (if bt195.1 = (wrap64 (t164 * 3)) then (if bt202.2 = true then (if bt202.1 = ((rd_T44 t165 (wrap64 ((wrap64 ((wrap64 ((Int.tmod t155 4) + 1)) + (Int.tmod t156 (wrap64 (7 - (Int.tmod t155 4)))))) - 1))).f1) then ((impl_AreShares.f kj14 t179).bind fun t205 => (some t205)) else (some false)) else (some false)) else (some false)) else (some false)) else (some false)) else (some false)) else (some false)) else (some false))) else (none)) else (none)) else (none)) else (none))) = some r := by first | (rw [hy191]; with_reducible exact H) | (have H2_ := (Option.bind_some _ _).symm.trans H; rw [hy191]; with_reducible exact H2_) | (have H2_ := (Option.bind_some _ _).symm.trans H; with_reducible exact H2_) | with_reducible exact H | (rw [hy191]; exact H) | exact H
                                  have Ny191 := Aside0.mk hy191
                                  clear hy191
                                  replace H := Option.bind_eq_some_iff.mp H
                                  obtain ⟨⟨t195, t196⟩, A420, H⟩ := H
                                  replace H : (if 0 ≤ (wrap64 ((Int.tmod t155 4) + 1)) then (if (wrap64 ((Int.tmod t155 4) + 1)) ≤ (t165.length : Int) then (if 0 ≤ (wrap64 ((wrap64 ((wrap64 ((Int.tmod t155 4) + 1)) + (Int.tmod t156 (wrap64 (7 - (Int.tmod t155 4)))))) - 1)) then (if (wrap64 ((wrap64 ((wrap64 ((Int.tmod t155 4) + 1)) + (Int.tmod t156 (wrap64 (7 - (Int.tmod t155 4)))))) - 1)) < (t165.length : Int) then ((impl_Interpolate.f kj14 (t165.take ((wrap64 ((Int.tmod t155 4) + 1)) : Int).toNat) ((rd_T44 t165 (wrap64 ((wrap64 ((wrap64 ((Int.tmod t155 4) + 1)) + (Int.tmod t156 (wrap64 (7 - (Int.tmod t155 4)))))) - 1))).f0)).bind fun bt202 => (if t188 = true then (if t187 = (wrap64 (t164 * 3)) then (if t190 = true then (if t189 = (wrap64 (t164 * 3)) then (if t196 = true then (if t195 = (wrap64 (t164 * 3)) then (if bt202.2 = true then (if bt202.1 = ((rd_T44 t165 (wrap64 ((wrap64 ((wrap64 ((Int.tmod t155 4) + 1)) + (Int.tmod t156 (wrap64 (7 - (Int.tmod t155 4)))))) - 1))).f1) then ((impl_AreShares.f kj14 t179).bind fun t205 => (some t205)) else (some false)) else (some false)) else (some false)) else (some false)) else (some false)) else (some false)) else (some false)) else (some false))) else (none)) else (none)) else (none)) else (none)) = some r := H
                                  have A42 := Aside0.mk A420
                                  clear A420
                                  obtain ⟨ji43, hji43⟩ : ∃ j_ : Int, (wrap64 ((Int.tmod t155 4) + 1)) = j_ := ⟨_, rfl⟩
                                  replace H : (if 0 ≤ (ji43) then (if (ji43) ≤ (t165.length : Int) then (if 0 ≤ (wrap64 ((wrap64 ((ji43) + (Int.tmod t156 (wrap64 (7 - (Int.tmod t155 4)))))) - 1)) then (if (wrap64 ((wrap64 ((ji43) + (Int.tmod t156 (wrap64 (7 - (Int.tmod t155 4)))))) - 1)) < (t165.length : Int) then ((impl_Interpolate.f kj14 (t165.take ((ji43) : Int).toNat) ((rd_T44 t165 (wrap64 ((wrap64 ((ji43) + (Int.tmod t156 (wrap64 (7 - (Int.tmod t155 4)))))) - 1))).f0)).bind fun bt202 => (if t188 = true then (if t187 = (wrap64 (t164 * 3)) then (if t190 = true then (if t189 = (wrap64 (t164 * 3)) then (if t196 = true then (if t195 = (wrap64 (t164 * 3)) then (if bt202.2 = true then (if bt202.1 = ((rd_T44 t165 (wrap64 ((wrap64 ((ji43) + (Int.tmod t156 (wrap64 (7 - (Int.tmod t155 4)))))) - 1))).f1) then ((impl_AreShares.f kj14 t179).bind fun t205 => (some t205)) else (some false)) else (some false)) else (some false)) else (some false)) else (some false)) else (some false)) else (some false)) else (some false))) else (none)) else (none)) else (none)) else (none)) = some r := by first | (rw [hji43] at H; exact H) | (simp only [hji43] at H ⊢; exact H)
                                  (try rw [hji43] at c30b0)
                                  (try rw [hji43] at c30b1)
                                  (try rw [hji43] at c32b0)
                                  (try rw [hji43] at c32b1)
                                  (try rw [hji43] at A24)
                                  (try rw [hji43] at A25)
                                  (try rw [hji43] at A26)
                                  (try rw [hji43] at A29)
                                  (try rw [hji43] at A31)
                                  (try rw [hji43] at A37)
                                  (try rw [hji43] at A38)
                                  (try rw [hji43] at A42)
                                  have hji43w : (IntKind.i64.wrap ((Int.tmod t155 4) + 1)) = ji43 := (i64_w _).trans hji43
                                  (try rw [hji43] at c3)
                                  (try rw [hji43] at c6)
                                  (try rw [hji43] at c6b0)
                                  (try rw [hji43] at c6b1)
                                  (try rw [hji43] at c9)
                                  (try rw [hji43] at c9b0)
                                  (try rw [hji43] at c11)
                                  (try rw [hji43] at c18)
                                  (try rw [hji43] at c18b0)
                                  (try rw [hji43] at c18b1)
                                  (try rw [hji43] at c23)
                                  (try rw [hji43] at c27)
                                  (try rw [hji43] at c27b0)
                                  (try rw [hji43] at c27b1)
                                  (try rw [hji43] at c28)
                                  (try rw [hji43] at c28b0)
                                  (try rw [hji43] at c28b1)
                                  (try rw [hji43] at c30)
                                  (try rw [hji43] at c30b0)
                                  (try rw [hji43] at c30b1)
                                  (try rw [hji43] at c32)
                                  (try rw [hji43] at c32b0)
                                  (try rw [hji43] at c32b1)
                                  (try rw [hji43] at c34)
                                  (try rw [hji43] at c34b0)
                                  (try rw [hji43] at c34b1)
                                  (try rw [hji43] at c35)
                                  (try rw [hji43] at c35b0)
                                  (try rw [hji43] at c35b1)
                                  (try rw [hji43] at c36)
                                  (try rw [hji43] at c36b0)
                                  (try rw [hji43] at c36b1)
                                  (try rw [hji43] at c39b0)
                                  (try rw [hji43] at c40b0)
                                  (try rw [hji43] at c41)
                                  (try rw [hji43] at c41b0)
                                  (try rw [hji43] at c41b1)
                                  (try rw [hji43] at hji33)
                                  by_cases c44 : 0 ≤ (ji43)
                                  · rw [if_pos c44] at H
                                    have c44b0 := eq_true c44
                                    have c44b1 : decide (0 ≤ (ji43)) = true := decide_eq_true c44
                                    clear c44
                                    by_cases c45 : (ji43) ≤ (t165.length : Int)
                                    · rw [if_pos c45] at H
                                      have c45b0 := eq_true c45
                                      have c45b1 : decide ((ji43) ≤ (t165.length : Int)) = true := decide_eq_true c45
                                      clear c45
                                      obtain ⟨y197, hy197⟩ : ∃ y_ : List (S44), y_ = (t165.take ((ji43) : Int).toNat) := ⟨_, rfl⟩
                                      replace H : (if 0 ≤ (wrap64 ((wrap64 ((ji43) + (Int.tmod t156 (wrap64 (7 - (Int.tmod t155 4)))))) - 1)) then (if (wrap64 ((wrap64 ((ji43) + (Int.tmod t156 (wrap64 (7 - (Int.tmod t155 4)))))) - 1)) < (t165.length : Int) then ((impl_Interpolate.f kj14 y197 ((rd_T44 t165 (wrap64 ((wrap64 ((ji43) + (Int.tmod t156 (wrap64 (7 - (Int.tmod t155 4)))))) - 1))).f0)).bind fun bt202 => (if t188 = true then (if t187 = (wrap64 (t164 * 3)) then (if t190 = true then (if t189 = (wrap64 (t164 * 3)) then (if t196 = true then (if t195 = (wrap64 (t164 * 3)) then (if bt202.2 = true then (if bt202.1 = ((rd_T44 t165 (wrap64 ((wrap64 ((ji43) + (Int.tmod t156 (wrap64 (7 - (Int.tmod t155 4)))))) - 1))).f1) then ((impl_AreShares.f kj14 t179).bind fun t205 => (some t205)) else (some false)) else (some false)) else (some false)) else (some false)) else (some false)) else (some false)) else (some false)) else (some false))) else (none)) else (none)) = some r := by first | (rw [hy197]; with_reducible exact H) | (have H2_ := (Option.bind_some _ _).symm.trans H; rw [hy197]; with_reducible exact H2_) | (have H2_ := (Option.bind_some _ _).symm.trans H; with_reducible exact H2_) | with_reducible exact H | (rw [hy197]; exact H) | exact H
                                      have Ny197 := Aside0.mk hy197
                                      clear hy197
                                      obtain ⟨ji46, hji46⟩ : ∃ j_ : Int, (wrap64 ((wrap64 ((ji43) + (Int.tmod t156 (wrap64 (7 - (Int.tmod t155 4)))))) - 1)) = j_ := ⟨_, rfl⟩
                                      replace H : (if 0 ≤ (ji46) then (if (ji46) < (t165.length : Int) then ((impl_Interpolate.f kj14 y197 ((rd_T44 t165 (ji46)).f0)).bind fun bt202 => (if t188 = true then (if t187 = (wrap64 (t164 * 3)) then (if t190 = true then (if t189 = (wrap64 (t164 * 3)) then (if t196 = true then (if t195 = (wrap64 (t164 * 3)) then (if bt202.2 = true then (if bt202.1 = ((rd_T44 t165 (ji46)).f1) then ((impl_AreShares.f kj14 t179).bind fun t205 => (some t205)) else (some false)) else (some false)) else (some false)) else (some false)) else (some false)) else (some false)) else (some false)) else (some false))) else (none)) else (none)) = some r := by first | (rw [hji46] at H; exact H) | (simp only [hji46] at H ⊢; exact H)
                                      (try rw [hji46] at A24)
                                      (try rw [hji46] at A25)
                                      (try rw [hji46] at A26)
                                      (try rw [hji46] at A29)
                                      (try rw [hji46] at A31)
                                      (try rw [hji46] at A37)
                                      (try rw [hji46] at A38)
                                      (try rw [hji46] at A42)
                                      have hji46w : (IntKind.i64.wrap ((wrap64 ((ji43) + (Int.tmod t156 (wrap64 (7 - (Int.tmod t155 4)))))) - 1)) = ji46 := (i64_w _).trans hji46
                                      (try rw [hji46] at c3)
                                      (try rw [hji46] at c6)
                                      (try rw [hji46] at c6b0)
                                      (try rw [hji46] at c6b1)
                                      (try rw [hji46] at c9)
                                      (try rw [hji46] at c9b0)
                                      (try rw [hji46] at c11)
                                      (try rw [hji46] at c18)
                                      (try rw [hji46] at c18b0)
                                      (try rw [hji46] at c18b1)
                                      (try rw [hji46] at c23)
                                      (try rw [hji46] at c27)
                                      (try rw [hji46] at c27b0)
                                      (try rw [hji46] at c27b1)
                                      (try rw [hji46] at c28)
                                      (try rw [hji46] at c28b0)
                                      (try rw [hji46] at c28b1)
                                      (try rw [hji46] at c30)
                                      (try rw [hji46] at c30b0)
                                      (try rw [hji46] at c30b1)
                                      (try rw [hji46] at c32)
                                      (try rw [hji46] at c32b0)
                                      (try rw [hji46] at c32b1)
                                      (try rw [hji46] at c34)
                                      (try rw [hji46] at c34b0)
                                      (try rw [hji46] at c34b1)
                                      (try rw [hji46] at c35)
                                      (try rw [hji46] at c35b0)
                                      (try rw [hji46] at c35b1)
                                      (try rw [hji46] at c36)
                                      (try rw [hji46] at c36b0)
                                      (try rw [hji46] at c36b1)
                                      (try rw [hji46] at c39b0)
                                      (try rw [hji46] at c40b0)
                                      (try rw [hji46] at c41)
                                      (try rw [hji46] at c41b0)
                                      (try rw [hji46] at c41b1)
                                      (try rw [hji46] at hji33)
                                      (try rw [hji46] at hji43)
                                      (try rw [hji46] at hji43w)
                                      (try rw [hji46] at c44)
                                      (try rw [hji46] at c44b0)
                                      (try rw [hji46] at c44b1)
                                      (try rw [hji46] at c45)
                                      (try rw [hji46] at c45b0)
                                      (try rw [hji46] at c45b1)
                                      by_cases c47 : 0 ≤ (ji46)
                                      · rw [if_pos c47] at H
                                        have c47b0 : decide (0 ≤ (ji46)) = true := decide_eq_true c47
                                        clear c47
                                        by_cases c48 : (ji46) < (t165.length : Int)
                                        · rw [if_pos c48] at H
                                          have c48b0 : decide ((ji46) < (t165.length : Int)) = true := decide_eq_true c48
                                          clear c48
                                          replace H := Option.bind_eq_some_iff.mp H
                                          obtain ⟨⟨t202, t203⟩, A490, H⟩ := H
                                          replace H : (if t188 = true then (if t187 = (wrap64 (t164 * 3)) then (if t190 = true then (if t189 = (wrap64 (t164 * 3)) then (if t196 = true then (if t195 = (wrap64 (t164 * 3)) then (if t203 = true then (if t202 = ((rd_T44 t165 (ji46)).f1) then ((impl_AreShares.f kj14 t179).bind fun t205 => (some t205)) else (some false)) else (some false)) else (some false)) else (some false)) else (some false)) else (some false)) else (some false)) else (some false)) = some r := H
                                          have A49 := Aside0.mk A490
                                          clear A490
                                          by_cases c50 : t188 = true
                                          · subst c50
                                            have H1 : (if t187 = (wrap64 (t164 * 3)) then (if t190 = true then (if t189 = (wrap64 (t164 * 3)) then (if t196 = true then (if t195 = (wrap64 (t164 * 3)) then (if t203 = true then (if t202 = ((rd_T44 t165 (ji46)).f1) then ((impl_AreShares.f kj14 t179).bind fun t205 => (some t205)) else (some false)) else (some false)) else (some false)) else (some false)) else (some false)) else (some false)) else (some false)) = some r := by rw [if_pos rfl] at H; exact H
                                            clear H
                                            have H := H1
                                            clear H1
                                            by_cases c51 : t187 = (wrap64 (t164 * 3))
                                            · rw [if_pos c51] at H
                                              have c51b0 : (t187 == (wrap64 (t164 * 3))) = true := beq_iff_eq.mpr c51
                                              have c51b1 : (t187 != (wrap64 (t164 * 3))) = false := bne_eq_false_iff_eq.mpr c51
                                              clear c51
                                              by_cases c52 : t190 = true
                                              · subst c52
                                                have H1 : (if t189 = (wrap64 (t164 * 3)) then (if t196 = true then (if t195 = (wrap64 (t164 * 3)) then (if t203 = true then (if t202 = ((rd_T44 t165 (ji46)).f1) then ((impl_AreShares.f kj14 t179).bind fun t205 => (some t205)) else (some false)) else (some false)) else (some false)) else (some false)) else (some false)) = some r := by rw [if_pos rfl] at H; exact H
                                                clear H
                                                have H := H1
                                                clear H1
                                                by_cases c53 : t189 = (wrap64 (t164 * 3))
                                                · rw [if_pos c53] at H
                                                  have c53b0 : (t189 == (wrap64 (t164 * 3))) = true := beq_iff_eq.mpr c53
                                                  have c53b1 : (t189 != (wrap64 (t164 * 3))) = false := bne_eq_false_iff_eq.mpr c53
                                                  clear c53
                                                  by_cases c54 : t196 = true
                                                  · subst c54
                                                    have H1 : (if t195 = (wrap64 (t164 * 3)) then (if t203 = true then (if t202 = ((rd_T44 t165 (ji46)).f1) then ((impl_AreShares.f kj14 t179).bind fun t205 => (some t205)) else (some false)) else (some false)) else (some false)) = some r := by rw [if_pos rfl] at H; exact H
                                                    clear H
                                                    have H := H1
                                                    clear H1
                                                    by_cases c55 : t195 = (wrap64 (t164 * 3))
                                                    · rw [if_pos c55] at H
                                                      have c55b0 : (t195 == (wrap64 (t164 * 3))) = true := beq_iff_eq.mpr c55
                                                      have c55b1 : (t195 != (wrap64 (t164 * 3))) = false := bne_eq_false_iff_eq.mpr c55
                                                      clear c55
                                                      by_cases c56 : t203 = true
                                                      · subst c56
                                                        have H1 : (if t202 = ((rd_T44 t165 (ji46)).f1) then ((impl_AreShares.f kj14 t179).bind fun t205 => (some t205)) else (some false)) = some r := by rw [if_pos rfl] at H; exact H
                                                        clear H
                                                        have H := H1
                                                        clear H1
                                                        by_cases c57 : t202 = ((rd_T44 t165 (ji46)).f1)
                                                        · rw [if_pos c57] at H
                                                          have c57b0 : (t202 == ((rd_T44 t165 (ji46)).f1)) = true := beq_iff_eq.mpr c57
                                                          have c57b1 : (t202 != ((rd_T44 t165 (ji46)).f1)) = false := bne_eq_false_iff_eq.mpr c57
                                                          clear c57
                                                          replace H := Option.bind_eq_some_iff.mp H
                                                          obtain ⟨t205, A580, H⟩ := H
                                                          replace H : (some t205) = some r := H
                                                          have A58 := Aside0.mk A580
                                                          clear A580
                                                          obtain rfl := Option.some.inj H
                                                          try go_wp2_with (first | ((with_reducible refine gate_callee (f := 33) rfl ?_); refine goesL_ (some 64) rfl rfl Try.func33 (by kernel_rfl) rfl #[.slice A0 l0.length c0, .int .i64 8] rfl (by (try simp only [List.map_toArray, List.map_cons, List.map_nil]); first | done | rfl | (simp only [List.length_drop, List.length_take]; rfl)) ?_; (with_reducible refine (laws_at.calls _ _ l0 8 t169 _ ?side1 ?side2 A24.out).mono ?_); (case side1 => repeat (first | exact (Kd.C_below HR0.out HB.out) | (with_reducible refine Kd.C_alloc ?_ _) | (with_reducible refine Kd.C_drewN ?_ _) | (with_reducible refine Kd.C_drew ?_))); (case side2 => exact HC0.out); rintro e w' ⟨rfl, ⟨nd, rfl⟩⟩; refine ⟨_, rfl, ?_⟩) | ((with_reducible refine gate_callee (f := 33) rfl ?_); refine goesL_ (some 66) rfl rfl Try.func33 (by kernel_rfl) rfl #[.slice A0 l0.length c0, .int .i64 9] rfl (by (try simp only [List.map_toArray, List.map_cons, List.map_nil]); first | done | rfl | (simp only [List.length_drop, List.length_take]; rfl)) ?_; (with_reducible refine (laws_at.calls _ _ l0 9 t170 _ ?side1 ?side2 A25.out).mono ?_); (case side1 => repeat (first | exact (Kd.C_below HR0.out (by repeat (first | (with_reducible first | exact HB.out | apply below_alloc | apply pw_below_drewN | apply below_drew1) | exact HB.out))) | (with_reducible refine Kd.C_alloc ?_ _) | (with_reducible refine Kd.C_drewN ?_ _) | (with_reducible refine Kd.C_drew ?_))); (case side2 => exact HC0.out); rintro e w' ⟨rfl, ⟨nd, rfl⟩⟩; refine ⟨_, rfl, ?_⟩) | ((with_reducible refine gate_dst (N := 67) rfl ?_); refine Kd.R_lit (Kd.int .i64) _ 3 ?hg (N := 67) ?hd (xs := ([t169, t170] : List Int)) (inner := [.int .i64 t169, .int .i64 t170]) (ok := fun _ => True) (okp := fun _ => True) ?hr ?hp (fun _ hk => hk) trivial (Below.refl _ _) (Nat.le_refl _) (by simp) ?_; (case hd => rfl); (case hg => rfl); (case hr => first | (go_simp; done) | (go_simp; rfl)); (case hp => exact (Reps.one (show Kd.M (Kd.int .i64) _ _ _ t169 [.int .i64 t169] from rfl) (Reps.one (show Kd.M (Kd.int .i64) _ _ _ t170 [.int .i64 t170] from rfl) (Reps.none _ _)))); intro v172 w59 ho60 hb hg_ hnew_; clear hg_ hnew_; (first | rw [← Ny171.out] at ho60 | (simp only [Int.reduceToNat] at ho60; rw [← Ny171.out] at ho60)); have n0_ := Aside0.mk (Kd.R_below (by (with_reducible repeat (first | apply Kd.R_alloc | apply Kd.R_drewN | apply Kd.R_drew)); exact HO_8.out) hb); have n1_ := Aside0.mk (Kd.R_lower ho60 (below_size (by repeat (first | (with_reducible first | exact HB.out | apply below_alloc | apply pw_below_drewN | apply below_drew1) | exact HB.out)))); have n2_ := Aside0.mk (below_step (by repeat (first | (with_reducible first | exact HB.out | apply below_alloc | apply pw_below_drewN | apply below_drew1) | exact HB.out)) hb); clear HO_8; clear HB; have HO_8 := n0_; have HO173 := n1_; have HB := n2_; clear n0_ n1_ n2_; clear hb ho60) | ((with_reducible refine gate_callee (f := 34) rfl ?_); refine goesL_ (some 69) rfl rfl Try.func34 (by kernel_rfl) rfl #[.int .i64 (Int.tmod t155 4), .int .i64 2] rfl (by (try simp only [List.map_toArray, List.map_cons, List.map_nil]); first | done | rfl | (simp only [List.length_drop, List.length_take]; rfl)) ?_; (with_reducible refine (spec_Min.calls (Int.tmod t155 4) 2 t174 _ A26.out).mono ?_); rintro e w' ⟨rfl, ⟨nd, rfl⟩⟩; refine ⟨_, rfl, ?_⟩; obtain ⟨Ao62, co62, eo62⟩ := Kd.R_slice HO173.out; subst eo62; have q61 : (t174 : Int) ≤ ((y171.length : Int) : Int) := of_decide_eq_true (by first | (with_reducible assumption) | assumption); obtain ⟨i061, hi061, _, hsz61, _⟩ := info_parts info3; have hroom61 : y171.length ≤ co62 := (Kd.R_reads' HO173.out).2.1; have hC61 : Kd.C (Kd.int .i64) _ Ao62 y171.length y171 := (Kd.R_reads' HO173.out).2.2; have hcut61 := cut_to (P := Try.prog) 29 3 .i64 Try.underlying29 hi061 Ao62 y171.length co62 t174 (of_decide_eq_true (by first | (with_reducible assumption) | assumption)) q61 hroom61; have hr61 := Kd.C_take (m := (t174 : Int).toNat) hC61 (by omega); have hy61 : y175.length = (t174 : Int).toNat := (by rw [Ny175.out, List.length_take]; omega); rw [← Ny175.out] at hr61; rw [← hy61] at hcut61; have HR178 := Aside0.mk hr61; have HC178 := Aside0.mk (show y175.length ≤ co62 from by omega); clear hr61 hC61 hroom61 hi061 hsz61; have KY61 := Aside0.mk hy61; clear hy61; have KL61 := Aside0.mk (show (t174 : Int).toNat ≤ y171.length from by omega); replace q61 := eq_true q61; obtain ⟨Ao63, co63, eo63⟩ := Kd.R_slice HO_8.out; subst eo63) | ((with_reducible refine gate_callee (f := 26) rfl ?_); refine goesL_ (some 71) rfl rfl Try.func26 (by kernel_rfl) rfl #[.slice Ao63 t165.length co63, .slice Ao62 y175.length co62] rfl (by (try simp only [List.map_toArray, List.map_cons, List.map_nil]); first | done | rfl | (simp only [List.length_drop, List.length_take]; rfl)) ?_; (with_reducible refine (impl_RefreshShares.calls kj14 _ _ t165 _ _ y175 t179 _ ?side1 ?side2 ?side3 ?side4 A29.out).mono ?_); (case side1 => repeat (first | exact (Kd.R_reads' HO_8.out).2.2 | (with_reducible refine Kd.C_alloc ?_ _) | (with_reducible refine Kd.C_drewN ?_ _) | (with_reducible refine Kd.C_drew ?_))); (case side2 => exact (Kd.R_reads' HO_8.out).2.1); (case side3 => repeat (first | exact (by repeat (first | (with_reducible exact HR178.out) | (with_reducible refine Kd.C_alloc ?_ _) | (with_reducible refine Kd.C_drewN ?_ _) | (with_reducible refine Kd.C_drew ?_) | exact HR178.out)) | (with_reducible refine Kd.C_alloc ?_ _) | (with_reducible refine Kd.C_drewN ?_ _) | (with_reducible refine Kd.C_drew ?_))); (case side4 => exact HC178.out); rintro e w64 ⟨v180, rfl, ho0, hb⟩; refine ⟨_, rfl, ?_⟩; have n0_ := Aside0.mk (Kd.R_elder' (by (with_reducible repeat (first | apply Kd.R_alloc | apply Kd.R_drewN | apply Kd.R_drew)); exact HO_8.out) (Kd.R_base ho0) hb); have n1_ := Aside0.mk (Kd.R_below (by (with_reducible repeat (first | apply Kd.R_alloc | apply Kd.R_drewN | apply Kd.R_drew)); exact HO173.out) hb); have n2_ := Aside0.mk (Kd.R_lower (Kd.R_new' ho0 (Kd.R_lt (by (with_reducible repeat (first | apply Kd.R_alloc | apply Kd.R_drewN | apply Kd.R_drew)); exact HO_8.out))) (below_size (by repeat (first | (with_reducible first | exact HB.out | apply below_alloc | apply pw_below_drewN | apply below_drew1) | exact HB.out)))); have n3_ := Aside0.mk (Kd.C_below (by repeat (first | (with_reducible exact HR178.out) | (with_reducible refine Kd.C_alloc ?_ _) | (with_reducible refine Kd.C_drewN ?_ _) | (with_reducible refine Kd.C_drew ?_) | exact HR178.out)) hb); have n4_ := Aside0.mk (below_step (by repeat (first | (with_reducible first | exact HB.out | apply below_alloc | apply pw_below_drewN | apply below_drew1) | exact HB.out)) hb); clear HO_8; clear HO173; clear HR178; clear HB; have HO_8 := n0_; have HO173 := n1_; have HO181 := n2_; have HR178 := n3_; have HB := n4_; clear n0_ n1_ n2_ n3_ n4_; (try clear hb); (try clear hb2); (try clear hk); (try clear hi); (try clear ho0); obtain ⟨Ao65, co65, eo65⟩ := Kd.R_slice HO181.out; subst eo65) | ((with_reducible refine gate_callee (f := 33) rfl ?_); refine goesL_ (some 77) rfl rfl Try.func33 (by kernel_rfl) rfl #[.slice A0 l0.length c0, .int .i64 10] rfl (by (try simp only [List.map_toArray, List.map_cons, List.map_nil]); first | done | rfl | (simp only [List.length_drop, List.length_take]; rfl)) ?_; (with_reducible refine (laws_at.calls _ _ l0 10 t182 _ ?side1 ?side2 A31.out).mono ?_); (case side1 => repeat (first | exact (Kd.C_below HR0.out HB.out) | (with_reducible refine Kd.C_alloc ?_ _) | (with_reducible refine Kd.C_drewN ?_ _) | (with_reducible refine Kd.C_drew ?_))); (case side2 => exact HC0.out); rintro e w' ⟨rfl, ⟨nd, rfl⟩⟩; refine ⟨_, rfl, ?_⟩; have q66 : ((wrap64 ((wrap64 ((ji33) + (Int.tmod t155 4))) + 1)) : Int) ≤ ((t165.length : Int) : Int) := of_decide_eq_true (by first | (with_reducible assumption) | assumption); obtain ⟨i066, hi066, _, hsz66, _⟩ := info_parts info44; have hroom66 : t165.length ≤ co63 := (Kd.R_reads' HO_8.out).2.1; have hC66 : Kd.C k44 _ Ao63 t165.length t165 := (Kd.R_reads' HO_8.out).2.2; have ql66 : ((ji33) : Int) ≤ ((wrap64 ((wrap64 ((ji33) + (Int.tmod t155 4))) + 1)) : Int) := of_decide_eq_true (by first | (with_reducible assumption) | assumption); have q066 : (0 : Int) ≤ ((ji33) : Int) := of_decide_eq_true (by first | (with_reducible assumption) | assumption); have hcut66 := cut_mid (P := Try.prog) 25 44 .i64 .i64 Try.underlying25 hi066 2 hsz66 Ao63 t165.length co63 (ji33) (wrap64 ((wrap64 ((ji33) + (Int.tmod t155 4))) + 1)) q066 ql66 q66 hroom66; have hr66 := Kd.C_mid (lo := ((ji33) : Int).toNat) (hi := ((wrap64 ((wrap64 ((ji33) + (Int.tmod t155 4))) + 1)) : Int).toNat) (c := co63) hC66 (by omega) (by omega) hroom66; obtain ⟨A66, hA66⟩ : ∃ A1, A1 = (if co63 = ((ji33) : Int).toNat then Ao63 else (Ao63 : Option Addr).map (·.add (((ji33) : Int).toNat * 2))) := ⟨_, rfl⟩; obtain ⟨c66, hc66⟩ : ∃ c1, c1 = co63 - ((ji33) : Int).toNat := ⟨_, rfl⟩; have hy66 : y183.length = ((wrap64 ((wrap64 ((ji33) + (Int.tmod t155 4))) + 1)) : Int).toNat - ((ji33) : Int).toNat := (by rw [Ny183.out, List.length_drop, List.length_take] <;> omega); rw [show ((t165).take ((wrap64 ((wrap64 ((ji33) + (Int.tmod t155 4))) + 1)) : Int).toNat).drop ((ji33) : Int).toNat = y183 from Ny183.out.symm] at hr66; replace hr66 : Kd.C k44 _ A66 y183.length y183 := (by rw [hA66]; exact hr66); rw [← hy66, ← hA66, ← hc66] at hcut66; have HR186 := Aside0.mk hr66; have HC186 := Aside0.mk (show y183.length ≤ c66 from by rw [hy66, hc66]; exact Nat.sub_le_sub_right (Nat.le_trans (by omega) hroom66) _); clear hr66 hC66 hroom66 hi066 hsz66 hc66; have KY66 := Aside0.mk hy66; have KA66 := Aside0.mk hA66; clear hy66 hA66; have KL66 := Aside0.mk (show ((wrap64 ((wrap64 ((ji33) + (Int.tmod t155 4))) + 1)) : Int).toNat ≤ t165.length from by omega); have KM66 := Aside0.mk (show ((ji33) : Int).toNat ≤ ((wrap64 ((wrap64 ((ji33) + (Int.tmod t155 4))) + 1)) : Int).toNat from by omega); replace q66 := eq_true q66) | ((with_reducible refine gate_callee (f := 28) rfl ?_); refine goesL_ (some 90) rfl rfl Try.func28 (by kernel_rfl) rfl #[.slice A66 y183.length c66, .int .i64 0] rfl (by (try simp only [List.map_toArray, List.map_cons, List.map_nil]); first | done | rfl | (simp only [List.length_drop, List.length_take]; rfl)) ?_; (with_reducible refine (impl_Interpolate.calls kj14 _ _ y183 0 t187 true _ ?side1 ?side2 A37.out).mono ?_); (case side1 => repeat (first | exact (by repeat (first | (with_reducible exact HR186.out) | (with_reducible refine Kd.C_alloc ?_ _) | (with_reducible refine Kd.C_drewN ?_ _) | (with_reducible refine Kd.C_drew ?_) | exact HR186.out)) | (with_reducible refine Kd.C_alloc ?_ _) | (with_reducible refine Kd.C_drewN ?_ _) | (with_reducible refine Kd.C_drew ?_))); (case side2 => exact HC186.out); rintro e w67 ⟨rfl, hb⟩; refine ⟨_, rfl, ?_⟩; have n0_ := Aside0.mk (Kd.R_below (by (with_reducible repeat (first | apply Kd.R_alloc | apply Kd.R_drewN | apply Kd.R_drew)); exact HO_8.out) hb); have n1_ := Aside0.mk (Kd.R_below (by (with_reducible repeat (first | apply Kd.R_alloc | apply Kd.R_drewN | apply Kd.R_drew)); exact HO173.out) hb); have n2_ := Aside0.mk (Kd.R_below (by (with_reducible repeat (first | apply Kd.R_alloc | apply Kd.R_drewN | apply Kd.R_drew)); exact HO181.out) hb); have n3_ := Aside0.mk (Kd.C_below (by repeat (first | (with_reducible exact HR178.out) | (with_reducible refine Kd.C_alloc ?_ _) | (with_reducible refine Kd.C_drewN ?_ _) | (with_reducible refine Kd.C_drew ?_) | exact HR178.out)) hb); have n4_ := Aside0.mk (Kd.C_below (by repeat (first | (with_reducible exact HR186.out) | (with_reducible refine Kd.C_alloc ?_ _) | (with_reducible refine Kd.C_drewN ?_ _) | (with_reducible refine Kd.C_drew ?_) | exact HR186.out)) hb); have n5_ := Aside0.mk (below_step (by repeat (first | (with_reducible first | exact HB.out | apply below_alloc | apply pw_below_drewN | apply below_drew1) | exact HB.out)) hb); clear HO_8; clear HO173; clear HO181; clear HR178; clear HR186; clear HB; have HO_8 := n0_; have HO173 := n1_; have HO181 := n2_; have HR178 := n3_; have HR186 := n4_; have HB := n5_; clear n0_ n1_ n2_ n3_ n4_ n5_; (try clear hb); (try clear hb2); (try clear hk); (try clear hi)) | ((with_reducible refine gate_callee (f := 28) rfl ?_); refine goesL_ (some 95) rfl rfl Try.func28 (by kernel_rfl) rfl #[.slice Ao63 t165.length co63, .int .i64 0] rfl (by (try simp only [List.map_toArray, List.map_cons, List.map_nil]); first | done | rfl | (simp only [List.length_drop, List.length_take]; rfl)) ?_; (with_reducible refine (impl_Interpolate.calls kj14 _ _ t165 0 t189 true _ ?side1 ?side2 A38.out).mono ?_); (case side1 => repeat (first | exact (Kd.R_reads' HO_8.out).2.2 | (with_reducible refine Kd.C_alloc ?_ _) | (with_reducible refine Kd.C_drewN ?_ _) | (with_reducible refine Kd.C_drew ?_))); (case side2 => exact (Kd.R_reads' HO_8.out).2.1); rintro e w68 ⟨rfl, hb⟩; refine ⟨_, rfl, ?_⟩; have n0_ := Aside0.mk (Kd.R_below (by (with_reducible repeat (first | apply Kd.R_alloc | apply Kd.R_drewN | apply Kd.R_drew)); exact HO_8.out) hb); have n1_ := Aside0.mk (Kd.R_below (by (with_reducible repeat (first | apply Kd.R_alloc | apply Kd.R_drewN | apply Kd.R_drew)); exact HO173.out) hb); have n2_ := Aside0.mk (Kd.R_below (by (with_reducible repeat (first | apply Kd.R_alloc | apply Kd.R_drewN | apply Kd.R_drew)); exact HO181.out) hb); have n3_ := Aside0.mk (Kd.C_below (by repeat (first | (with_reducible exact HR178.out) | (with_reducible refine Kd.C_alloc ?_ _) | (with_reducible refine Kd.C_drewN ?_ _) | (with_reducible refine Kd.C_drew ?_) | exact HR178.out)) hb); have n4_ := Aside0.mk (Kd.C_below (by repeat (first | (with_reducible exact HR186.out) | (with_reducible refine Kd.C_alloc ?_ _) | (with_reducible refine Kd.C_drewN ?_ _) | (with_reducible refine Kd.C_drew ?_) | exact HR186.out)) hb); have n5_ := Aside0.mk (below_step (by repeat (first | (with_reducible first | exact HB.out | apply below_alloc | apply pw_below_drewN | apply below_drew1) | exact HB.out)) hb); clear HO_8; clear HO173; clear HO181; clear HR178; clear HR186; clear HB; have HO_8 := n0_; have HO173 := n1_; have HO181 := n2_; have HR178 := n3_; have HR186 := n4_; have HB := n5_; clear n0_ n1_ n2_ n3_ n4_ n5_; (try clear hb); (try clear hb2); (try clear hk); (try clear hi); have q69 : ((wrap64 ((wrap64 ((ji33) + (Int.tmod t155 4))) + 1)) : Int) ≤ ((t179.length : Int) : Int) := of_decide_eq_true (by first | (with_reducible assumption) | assumption); obtain ⟨i069, hi069, _, hsz69, _⟩ := info_parts info44; have hroom69 : t179.length ≤ co65 := (Kd.R_reads' HO181.out).2.1; have hC69 : Kd.C k44 _ Ao65 t179.length t179 := (Kd.R_reads' HO181.out).2.2; have ql69 : ((ji33) : Int) ≤ ((wrap64 ((wrap64 ((ji33) + (Int.tmod t155 4))) + 1)) : Int) := of_decide_eq_true (by first | (with_reducible assumption) | assumption); have q069 : (0 : Int) ≤ ((ji33) : Int) := of_decide_eq_true (by first | (with_reducible assumption) | assumption); have hcut69 := cut_mid (P := Try.prog) 25 44 .i64 .i64 Try.underlying25 hi069 2 hsz69 Ao65 t179.length co65 (ji33) (wrap64 ((wrap64 ((ji33) + (Int.tmod t155 4))) + 1)) q069 ql69 q69 hroom69; have hr69 := Kd.C_mid (lo := ((ji33) : Int).toNat) (hi := ((wrap64 ((wrap64 ((ji33) + (Int.tmod t155 4))) + 1)) : Int).toNat) (c := co65) hC69 (by omega) (by omega) hroom69; obtain ⟨A69, hA69⟩ : ∃ A1, A1 = (if co65 = ((ji33) : Int).toNat then Ao65 else (Ao65 : Option Addr).map (·.add (((ji33) : Int).toNat * 2))) := ⟨_, rfl⟩; obtain ⟨c69, hc69⟩ : ∃ c1, c1 = co65 - ((ji33) : Int).toNat := ⟨_, rfl⟩; have hy69 : y191.length = ((wrap64 ((wrap64 ((ji33) + (Int.tmod t155 4))) + 1)) : Int).toNat - ((ji33) : Int).toNat := (by rw [Ny191.out, List.length_drop, List.length_take] <;> omega); rw [show ((t179).take ((wrap64 ((wrap64 ((ji33) + (Int.tmod t155 4))) + 1)) : Int).toNat).drop ((ji33) : Int).toNat = y191 from Ny191.out.symm] at hr69; replace hr69 : Kd.C k44 _ A69 y191.length y191 := (by rw [hA69]; exact hr69); rw [← hy69, ← hA69, ← hc69] at hcut69; have HR194 := Aside0.mk hr69; have HC194 := Aside0.mk (show y191.length ≤ c69 from by rw [hy69, hc69]; exact Nat.sub_le_sub_right (Nat.le_trans (by omega) hroom69) _); clear hr69 hC69 hroom69 hi069 hsz69 hc69; have KY69 := Aside0.mk hy69; have KA69 := Aside0.mk hA69; clear hy69 hA69; have KL69 := Aside0.mk (show ((wrap64 ((wrap64 ((ji33) + (Int.tmod t155 4))) + 1)) : Int).toNat ≤ t179.length from by omega); have KM69 := Aside0.mk (show ((ji33) : Int).toNat ≤ ((wrap64 ((wrap64 ((ji33) + (Int.tmod t155 4))) + 1)) : Int).toNat from by omega); replace q69 := eq_true q69) | ((with_reducible refine gate_callee (f := 28) rfl ?_); refine goesL_ (some 106) rfl rfl Try.func28 (by kernel_rfl) rfl #[.slice A69 y191.length c69, .int .i64 0] rfl (by (try simp only [List.map_toArray, List.map_cons, List.map_nil]); first | done | rfl | (simp only [List.length_drop, List.length_take]; rfl)) ?_; (with_reducible refine (impl_Interpolate.calls kj14 _ _ y191 0 t195 true _ ?side1 ?side2 A42.out).mono ?_); (case side1 => repeat (first | exact (by repeat (first | (with_reducible exact HR194.out) | (with_reducible refine Kd.C_alloc ?_ _) | (with_reducible refine Kd.C_drewN ?_ _) | (with_reducible refine Kd.C_drew ?_) | exact HR194.out)) | (with_reducible refine Kd.C_alloc ?_ _) | (with_reducible refine Kd.C_drewN ?_ _) | (with_reducible refine Kd.C_drew ?_))); (case side2 => exact HC194.out); rintro e w70 ⟨rfl, hb⟩; refine ⟨_, rfl, ?_⟩; have n0_ := Aside0.mk (Kd.R_below (by (with_reducible repeat (first | apply Kd.R_alloc | apply Kd.R_drewN | apply Kd.R_drew)); exact HO_8.out) hb); have n1_ := Aside0.mk (Kd.R_below (by (with_reducible repeat (first | apply Kd.R_alloc | apply Kd.R_drewN | apply Kd.R_drew)); exact HO173.out) hb); have n2_ := Aside0.mk (Kd.R_below (by (with_reducible repeat (first | apply Kd.R_alloc | apply Kd.R_drewN | apply Kd.R_drew)); exact HO181.out) hb); have n3_ := Aside0.mk (Kd.C_below (by repeat (first | (with_reducible exact HR178.out) | (with_reducible refine Kd.C_alloc ?_ _) | (with_reducible refine Kd.C_drewN ?_ _) | (with_reducible refine Kd.C_drew ?_) | exact HR178.out)) hb); have n4_ := Aside0.mk (Kd.C_below (by repeat (first | (with_reducible exact HR186.out) | (with_reducible refine Kd.C_alloc ?_ _) | (with_reducible refine Kd.C_drewN ?_ _) | (with_reducible refine Kd.C_drew ?_) | exact HR186.out)) hb); have n5_ := Aside0.mk (Kd.C_below (by repeat (first | (with_reducible exact HR194.out) | (with_reducible refine Kd.C_alloc ?_ _) | (with_reducible refine Kd.C_drewN ?_ _) | (with_reducible refine Kd.C_drew ?_) | exact HR194.out)) hb); have n6_ := Aside0.mk (below_step (by repeat (first | (with_reducible first | exact HB.out | apply below_alloc | apply pw_below_drewN | apply below_drew1) | exact HB.out)) hb); clear HO_8; clear HO173; clear HO181; clear HR178; clear HR186; clear HR194; clear HB; have HO_8 := n0_; have HO173 := n1_; have HO181 := n2_; have HR178 := n3_; have HR186 := n4_; have HR194 := n5_; have HB := n6_; clear n0_ n1_ n2_ n3_ n4_ n5_ n6_; (try clear hb); (try clear hb2); (try clear hk); (try clear hi)))
                                                          have n0_ := Aside0.mk (Kd.R_drew HO_8.out)
                                                          have n1_ := Aside0.mk (Kd.R_drew HO173.out)
                                                          have n2_ := Aside0.mk (Kd.R_drew HO181.out)
                                                          have n3_ := Aside0.mk (Kd.C_drew HR178.out)
                                                          have n4_ := Aside0.mk (Kd.C_drew HR186.out)
                                                          have n5_ := Aside0.mk (Kd.C_drew HR194.out)
                                                          have n6_ := Aside0.mk (below_drew1 HB.out)
                                                          clear HO_8
                                                          clear HO173
                                                          clear HO181
                                                          clear HR178
                                                          clear HR186
                                                          clear HR194
                                                          clear HB
                                                          have HO_8 := n0_
                                                          have HO173 := n1_
                                                          have HO181 := n2_
                                                          have HR178 := n3_
                                                          have HR186 := n4_
                                                          have HR194 := n5_
                                                          have HB := n6_
                                                          clear n0_ n1_ n2_ n3_ n4_ n5_ n6_
                                                          have q72 : ((ji43) : Int) ≤ ((t165.length : Int) : Int) := of_decide_eq_true (by first | (with_reducible assumption) | assumption)
                                                          obtain ⟨i072, hi072, _, hsz72, _⟩ := info_parts info44
                                                          have hroom72 : t165.length ≤ co63 := (Kd.R_reads' HO_8.out).2.1
                                                          have hC72 : Kd.C k44 _ Ao63 t165.length t165 := (Kd.R_reads' HO_8.out).2.2
                                                          have hcut72 := cut_to (P := Try.prog) 25 44 .i64 Try.underlying25 hi072 Ao63 t165.length co63 (ji43) (of_decide_eq_true (by first | (with_reducible assumption) | assumption)) q72 hroom72
                                                          have hr72 := Kd.C_take (m := ((ji43) : Int).toNat) hC72 (by omega)
                                                          have hy72 : y197.length = ((ji43) : Int).toNat := (by rw [Ny197.out, List.length_take]; omega)
                                                          rw [← Ny197.out] at hr72
                                                          rw [← hy72] at hcut72
                                                          have HR200 := Aside0.mk hr72
                                                          have HC200 := Aside0.mk (show y197.length ≤ co63 from by omega)
                                                          clear hr72 hC72 hroom72 hi072 hsz72
                                                          have KY72 := Aside0.mk hy72
                                                          clear hy72
                                                          have KL72 := Aside0.mk (show ((ji43) : Int).toNat ≤ t165.length from by omega)
                                                          replace q72 := eq_true q72
                                                          have p201 : 0 ≤ ((ji46) : Int) := of_decide_eq_true (by first | (with_reducible assumption) | assumption)
                                                          have q201 : (ji46) < (t165.length : Int) := of_decide_eq_true (by first | (with_reducible assumption) | assumption)
                                                          obtain ⟨ad201, e201, hx201_0, hx201_1⟩ := at_T44 (Kd.R_reads' HO_8.out).2.2 (ji46) p201 q201
                                                          cases e201
                                                          replace p201 := eq_true p201
                                                          replace q201 := eq_true q201
                                                          refine start_ (n := 16) (S := fun w' => w'.cell? (ad201.add (((ji46)).toNat * 2)) = some (.int .i64 ((rd_T44 t165 (ji46)).f0)) ∧ w'.cell? ⟨(ad201.add (((ji46)).toNat * 2)).block, (ad201.add (((ji46)).toNat * 2)).off + 1, none⟩ = some (.int .i64 ((rd_T44 t165 (ji46)).f1))) (ds := []) #[false, false, false, false, false, false, false, false, false, false, false, false, false, false, false, false] (by kernel_rfl) rfl rfl ⟨hx201_0, hx201_1⟩ (fun hHeld => ?_); refine with_tabW laws_FnShares.tab21 laws_FnShares.bits21 (fun HT_ HW_ => ?_)
                                                          generalize w70.drew = w71 at HO_8 HO173 HO181 HR178 HR186 HR194 HB HR200 hx201_0 hx201_1 hHeld ⊢
                                                          refine pure_ (i := 0) (N := some 110) (v := ?_) (a' := ?_) #[true, false, false, false, false, false, false, false, false, false, false, false, false, false, false, false] rfl rfl (any_of HT_.out (by kernel_rfl)) (fun _ _ _ h => h) (Or.inl ⟨by rfl, ?_⟩) ?_ ?_
                                                          rotate_left
                                                          · intro w'
                                                            go_simp
                                                            with_reducible rfl
                                                          rotate_left
                                                          · simp only [Act.put, List.setIfInBounds_toArray, List.set_cons_zero, List.set_cons_succ, i64_w, i32_w]
                                                            rfl
                                                          refine pure_ (i := 1) (N := some 111) (v := ?_) (a' := ?_) #[true, true, false, false, false, false, false, false, false, false, false, false, false, false, false, false] rfl rfl (any_of HT_.out (by kernel_rfl)) (fun _ _ _ h => h) (Or.inl ⟨by rfl, ?_⟩) ?_ ?_
                                                          rotate_left
                                                          · intro w'
                                                            go_simp
                                                            with_reducible rfl
                                                          rotate_left
                                                          · simp only [Act.put, List.setIfInBounds_toArray, List.set_cons_zero, List.set_cons_succ, i64_w, i32_w]
                                                            rfl
                                                          refine pure_ (i := 2) (N := some 112) (v := ?_) (a' := ?_) #[true, true, true, false, false, false, false, false, false, false, false, false, false, false, false, false] rfl rfl (any_of HT_.out (by kernel_rfl)) (fun _ _ _ h => h) (Or.inl ⟨by rfl, ?_⟩) ?_ ?_
                                                          rotate_left
                                                          · intro w'
                                                            go_simp
                                                            with_reducible rfl
                                                          rotate_left
                                                          · simp only [Act.put, List.setIfInBounds_toArray, List.set_cons_zero, List.set_cons_succ, i64_w, i32_w]
                                                            rfl
                                                          refine pure_ (i := 3) (N := some 113) (v := ?_) (a' := ?_) #[true, true, true, true, false, false, false, false, false, false, false, false, false, false, false, false] rfl rfl (any_of HT_.out (by kernel_rfl)) (fun _ _ _ h => h) (Or.inl ⟨by rfl, ?_⟩) ?_ ?_
                                                          rotate_left
                                                          · intro w'
                                                            go_simp
                                                            with_reducible rfl
                                                          rotate_left
                                                          · simp only [Act.put, List.setIfInBounds_toArray, List.set_cons_zero, List.set_cons_succ, i64_w, i32_w]
                                                            rfl
                                                          refine pure_ (i := 4) (N := some 114) (v := ?_) (a' := ?_) #[true, true, true, true, true, false, false, false, false, false, false, false, false, false, false, false] rfl rfl (any_of HT_.out (by kernel_rfl)) (fun _ _ _ h => h) (Or.inl ⟨by rfl, ?_⟩) ?_ ?_
                                                          rotate_left
                                                          · intro w'
                                                            go_simp
                                                            with_reducible rfl
                                                          rotate_left
                                                          · simp only [Act.put, List.setIfInBounds_toArray, List.set_cons_zero, List.set_cons_succ, i64_w, i32_w]
                                                            rfl
                                                          refine pure_ (i := 5) (N := some 115) (v := ?_) (a' := ?_) #[true, true, true, true, true, true, false, false, false, false, false, false, false, false, false, false] rfl rfl (any_of HT_.out (by kernel_rfl)) (fun _ _ _ h => h) (Or.inl ⟨by rfl, ?_⟩) ?_ ?_
                                                          rotate_left
                                                          · intro w'
                                                            go_simp
                                                            with_reducible rfl
                                                          rotate_left
                                                          · simp only [Act.put, List.setIfInBounds_toArray, List.set_cons_zero, List.set_cons_succ, i64_w, i32_w]
                                                            rfl
                                                          refine pure_ (i := 6) (N := some 116) (v := ?_) (a' := ?_) #[true, true, true, true, true, true, true, false, false, false, false, false, false, false, false, false] rfl rfl (any_of HT_.out (by kernel_rfl)) (fun _ _ _ h => h) (Or.inl ⟨by rfl, ?_⟩) ?_ ?_
                                                          rotate_left
                                                          · intro w'
                                                            go_simp
                                                            with_reducible rfl
                                                          rotate_left
                                                          · simp only [Act.put, List.setIfInBounds_toArray, List.set_cons_zero, List.set_cons_succ, i64_w, i32_w]
                                                            rfl
                                                          refine pure_ (i := 7) (N := some 117) (v := ?_) (a' := ?_) #[true, true, true, true, true, true, true, true, false, false, false, false, false, false, false, false] rfl rfl (any_of HT_.out (by kernel_rfl)) (fun _ _ _ h => h) (Or.inl ⟨by rfl, ?_⟩) ?_ ?_
                                                          rotate_left
                                                          · intro w'
                                                            go_simp
                                                            with_reducible rfl
                                                          rotate_left
                                                          · simp only [Act.put, List.setIfInBounds_toArray, List.set_cons_zero, List.set_cons_succ, i64_w, i32_w]
                                                            rfl
                                                          refine pure_ (i := 8) (N := some 118) (v := ?_) (a' := ?_) #[true, true, true, true, true, true, true, true, true, false, false, false, false, false, false, false] rfl rfl (any_of HT_.out (by kernel_rfl)) (fun _ _ _ h => h) (Or.inl ⟨by rfl, ?_⟩) ?_ ?_
                                                          rotate_left
                                                          · intro w'
                                                            go_simp
                                                            with_reducible rfl
                                                          rotate_left
                                                          · simp only [Act.put, List.setIfInBounds_toArray, List.set_cons_zero, List.set_cons_succ, i64_w, i32_w]
                                                            rfl
                                                          refine take_ (i := 9) (N := some 119) (v := ?_) (a' := ?_) #[true, true, true, true, true, true, true, true, true, true, false, false, false, false, false, false] rfl rfl (take_ofW HT_.out HW_.out (by kernel_rfl)) (fun _ _ _ h => h) (Or.inl ⟨by rfl, ?_⟩) hHeld ?_ ?_
                                                          rotate_left
                                                          · rintro w' ⟨s0, s1⟩
                                                            go_simp
                                                            with_reducible rfl
                                                          rotate_left
                                                          · simp only [Act.put, List.setIfInBounds_toArray, List.set_cons_zero, List.set_cons_succ, i64_w, i32_w]
                                                            rfl
                                                          refine one_ (i := 10) (N := some 120) #[true, true, true, true, true, true, true, true, true, true, true, false, false, false, false, false] rfl rfl (one_of HT_.out (by kernel_rfl)) (by decide) (fun K hK => ?_)
                                                          refine goes_ Try.func28 (by kernel_rfl) rfl #[.slice (some ad201) y197.length co63, .int .i64 ((rd_T44 t165 (ji46)).f0)] (by rfl) rfl rfl (by (try simp only [List.map_toArray, List.map_cons, List.map_nil]); first | done | (simp only [hji46]; rfl) | rfl | (simp only [List.length_drop, List.length_take]; rfl)) ?_
                                                          with_reducible refine (impl_Interpolate.calls kj14 _ _ y197 ((rd_T44 t165 (ji46)).f0) t202 true _ ?side1 ?side2 A49.out).mono ?_
                                                          (case side1 => repeat (first | exact (by repeat (first | (with_reducible exact HR200.out) | (with_reducible refine Kd.C_alloc ?_ _) | (with_reducible refine Kd.C_drewN ?_ _) | (with_reducible refine Kd.C_drew ?_) | exact HR200.out)) | (with_reducible refine Kd.C_alloc ?_ _) | (with_reducible refine Kd.C_drewN ?_ _) | (with_reducible refine Kd.C_drew ?_)))
                                                          (case side2 => exact HC200.out)
                                                          rintro e w73 ⟨rfl, hb⟩
                                                          have HS0_ := (hb.cell (World.block_lt_of_cell? _ _ (hHeld.1))).trans (hHeld.1)
                                                          have HS1_ := (hb.cell (World.block_lt_of_cell? _ _ (hHeld.2))).trans (hHeld.2)
                                                          refine ⟨_, rfl, ?_⟩
                                                          have n0_ := Aside0.mk (Kd.R_below (by (with_reducible repeat (first | apply Kd.R_alloc | apply Kd.R_drewN | apply Kd.R_drew)); exact HO_8.out) hb)
                                                          have n1_ := Aside0.mk (Kd.R_below (by (with_reducible repeat (first | apply Kd.R_alloc | apply Kd.R_drewN | apply Kd.R_drew)); exact HO173.out) hb)
                                                          have n2_ := Aside0.mk (Kd.R_below (by (with_reducible repeat (first | apply Kd.R_alloc | apply Kd.R_drewN | apply Kd.R_drew)); exact HO181.out) hb)
                                                          have n3_ := Aside0.mk (Kd.C_below (by repeat (first | (with_reducible exact HR178.out) | (with_reducible refine Kd.C_alloc ?_ _) | (with_reducible refine Kd.C_drewN ?_ _) | (with_reducible refine Kd.C_drew ?_) | exact HR178.out)) hb)
                                                          have n4_ := Aside0.mk (Kd.C_below (by repeat (first | (with_reducible exact HR186.out) | (with_reducible refine Kd.C_alloc ?_ _) | (with_reducible refine Kd.C_drewN ?_ _) | (with_reducible refine Kd.C_drew ?_) | exact HR186.out)) hb)
                                                          have n5_ := Aside0.mk (Kd.C_below (by repeat (first | (with_reducible exact HR194.out) | (with_reducible refine Kd.C_alloc ?_ _) | (with_reducible refine Kd.C_drewN ?_ _) | (with_reducible refine Kd.C_drew ?_) | exact HR194.out)) hb)
                                                          have n6_ := Aside0.mk (Kd.C_below (by repeat (first | (with_reducible exact HR200.out) | (with_reducible refine Kd.C_alloc ?_ _) | (with_reducible refine Kd.C_drewN ?_ _) | (with_reducible refine Kd.C_drew ?_) | exact HR200.out)) hb)
                                                          have n7_ := Aside0.mk (below_step (by repeat (first | (with_reducible first | exact HB.out | apply below_alloc | apply pw_below_drewN | apply below_drew1) | exact HB.out)) hb)
                                                          clear HO_8
                                                          clear HO173
                                                          clear HO181
                                                          clear HR178
                                                          clear HR186
                                                          clear HR194
                                                          clear HR200
                                                          clear HB
                                                          have HO_8 := n0_
                                                          have HO173 := n1_
                                                          have HO181 := n2_
                                                          have HR178 := n3_
                                                          have HR186 := n4_
                                                          have HR194 := n5_
                                                          have HR200 := n6_
                                                          have HB := n7_
                                                          clear n0_ n1_ n2_ n3_ n4_ n5_ n6_ n7_
                                                          (try clear hb)
                                                          (try clear hb2)
                                                          (try clear hk)
                                                          (try clear hi)
                                                          refine hK.out _ _ ⟨HS0_, HS1_⟩ (fun hHeld => ?_)
                                                          clear hK K
                                                          refine norm_ (a' := ?_) ?_ ?_
                                                          rotate_left
                                                          · show Act.put _ (some 120) _ = _
                                                            simp only [Act.put, List.setIfInBounds_toArray, List.set_cons_zero, List.set_cons_succ, i64_w, i32_w]
                                                            rfl
                                                          refine pure_ (i := 11) (N := some 109) (v := ?_) (a' := ?_) #[true, true, true, true, true, true, true, true, true, true, true, true, false, false, false, false] rfl rfl (any_of HT_.out (by kernel_rfl)) (fun _ _ _ h => h) (Or.inl ⟨by rfl, ?_⟩) ?_ ?_
                                                          rotate_left
                                                          · intro w'
                                                            go_simp
                                                            with_reducible rfl
                                                          rotate_left
                                                          · simp only [Act.put, List.setIfInBounds_toArray, List.set_cons_zero, List.set_cons_succ, i64_w, i32_w]
                                                            rfl
                                                          refine pure_ (i := 12) (N := some 121) (v := ?_) (a' := ?_) #[true, true, true, true, true, true, true, true, true, true, true, true, true, false, false, false] rfl rfl (any_of HT_.out (by kernel_rfl)) (fun _ _ _ h => h) (Or.inl ⟨by rfl, ?_⟩) ?_ ?_
                                                          rotate_left
                                                          · intro w'
                                                            go_simp
                                                            with_reducible rfl
                                                          rotate_left
                                                          · simp only [Act.put, List.setIfInBounds_toArray, List.set_cons_zero, List.set_cons_succ, i64_w, i32_w]
                                                            rfl
                                                          refine pure_ (i := 13) (N := some 122) (v := ?_) (a' := ?_) #[true, true, true, true, true, true, true, true, true, true, true, true, true, true, false, false] rfl rfl (any_of HT_.out (by kernel_rfl)) (fun _ _ _ h => h) (Or.inl ⟨by rfl, ?_⟩) ?_ ?_
                                                          rotate_left
                                                          · intro w'
                                                            go_simp
                                                            with_reducible rfl
                                                          rotate_left
                                                          · simp only [Act.put, List.setIfInBounds_toArray, List.set_cons_zero, List.set_cons_succ, i64_w, i32_w]
                                                            rfl
                                                          refine pure_ (i := 14) (N := some 17) (v := ?_) (a' := ?_) #[true, true, true, true, true, true, true, true, true, true, true, true, true, true, true, false] rfl rfl (any_of HT_.out (by kernel_rfl)) (fun _ _ _ h => h) (Or.inl ⟨by rfl, ?_⟩) ?_ ?_
                                                          rotate_left
                                                          · intro w'
                                                            go_simp
                                                            with_reducible rfl
                                                          rotate_left
                                                          · simp only [Act.put, List.setIfInBounds_toArray, List.set_cons_zero, List.set_cons_succ, i64_w, i32_w]
                                                            rfl
                                                          refine pure_ (i := 15) (N := some 18) (v := ?_) (a' := ?_) #[true, true, true, true, true, true, true, true, true, true, true, true, true, true, true, true] rfl rfl (any_of HT_.out (by kernel_rfl)) (fun _ _ _ h => h) (Or.inl ⟨by rfl, ?_⟩) ?_ ?_
                                                          rotate_left
                                                          · intro w'
                                                            go_simp
                                                            with_reducible rfl
                                                          rotate_left
                                                          · simp only [Act.put, List.setIfInBounds_toArray, List.set_cons_zero, List.set_cons_succ, i64_w, i32_w]
                                                            rfl
                                                          refine done_ (done_of HT_.out (by kernel_rfl)) ?_
                                                          have p204 : 0 ≤ ((ji46) : Int) := of_decide_eq_true (by first | (with_reducible assumption) | assumption)
                                                          have q204 : (ji46) < (t165.length : Int) := of_decide_eq_true (by first | (with_reducible assumption) | assumption)
                                                          obtain ⟨ad204, e204, hx204_0, hx204_1⟩ := at_T44 (Kd.R_reads' HO_8.out).2.2 (ji46) p204 q204
                                                          obtain rfl : ad201 = ad204 := (by injection e204)
                                                          replace p204 := eq_true p204
                                                          replace q204 := eq_true q204
                                                          try go_wp2_with (first | (go_at_call 14; (with_reducible refine (impl_AreShares.calls kj14 _ _ t179 t205 _ ?side1 ?side2 A58.out).mono ?_); (case side1 => repeat (first | exact (Kd.R_reads' HO181.out).2.2 | (with_reducible refine Kd.C_alloc ?_ _) | (with_reducible refine Kd.C_drewN ?_ _) | (with_reducible refine Kd.C_drew ?_))); (case side2 => exact (Kd.R_reads' HO181.out).2.1); rintro e w74 ⟨rfl, hb⟩; have n0_ := Aside0.mk (Kd.R_below (by (with_reducible repeat (first | apply Kd.R_alloc | apply Kd.R_drewN | apply Kd.R_drew)); exact HO_8.out) hb); have n1_ := Aside0.mk (Kd.R_below (by (with_reducible repeat (first | apply Kd.R_alloc | apply Kd.R_drewN | apply Kd.R_drew)); exact HO173.out) hb); have n2_ := Aside0.mk (Kd.R_below (by (with_reducible repeat (first | apply Kd.R_alloc | apply Kd.R_drewN | apply Kd.R_drew)); exact HO181.out) hb); have n3_ := Aside0.mk (Kd.C_below (by repeat (first | (with_reducible exact HR178.out) | (with_reducible refine Kd.C_alloc ?_ _) | (with_reducible refine Kd.C_drewN ?_ _) | (with_reducible refine Kd.C_drew ?_) | exact HR178.out)) hb); have n4_ := Aside0.mk (Kd.C_below (by repeat (first | (with_reducible exact HR186.out) | (with_reducible refine Kd.C_alloc ?_ _) | (with_reducible refine Kd.C_drewN ?_ _) | (with_reducible refine Kd.C_drew ?_) | exact HR186.out)) hb); have n5_ := Aside0.mk (Kd.C_below (by repeat (first | (with_reducible exact HR194.out) | (with_reducible refine Kd.C_alloc ?_ _) | (with_reducible refine Kd.C_drewN ?_ _) | (with_reducible refine Kd.C_drew ?_) | exact HR194.out)) hb); have n6_ := Aside0.mk (Kd.C_below (by repeat (first | (with_reducible exact HR200.out) | (with_reducible refine Kd.C_alloc ?_ _) | (with_reducible refine Kd.C_drewN ?_ _) | (with_reducible refine Kd.C_drew ?_) | exact HR200.out)) hb); have n7_ := Aside0.mk (below_step (by repeat (first | (with_reducible first | exact HB.out | apply below_alloc | apply pw_below_drewN | apply below_drew1) | exact HB.out)) hb); clear HO_8; clear HO173; clear HO181; clear HR178; clear HR186; clear HR194; clear HR200; clear HB; have HO_8 := n0_; have HO173 := n1_; have HO181 := n2_; have HR178 := n3_; have HR186 := n4_; have HR194 := n5_; have HR200 := n6_; have HB := n7_; clear n0_ n1_ n2_ n3_ n4_ n5_ n6_ n7_; (try clear hb); (try clear hb2); (try clear hk); (try clear hi)))
                                                          go_ret
                                                          exact ⟨by first | rfl | (simp [errW_none, errW_some] <;> rfl) | (simp only [← hji33, ← hji43, ← hji46]; first | rfl | (simp [errW_none, errW_some] <;> rfl)) | (simp [*, errW_none, errW_some] <;> rfl), by repeat (first | (with_reducible first | exact HB.out | apply below_alloc | apply pw_below_drewN | apply below_drew1) | exact HB.out)⟩
                                                        · rw [if_neg c57] at H
                                                          have c57b0 : (t202 == ((rd_T44 t165 (ji46)).f1)) = false := beq_eq_false_iff_ne.mpr c57
                                                          have c57b1 : (t202 != ((rd_T44 t165 (ji46)).f1)) = true := bne_iff_ne.mpr c57
                                                          obtain rfl := Option.some.inj H
                                                          exact absurd hrt (by decide)
                                                      · replace c56 := Bool.eq_false_iff.mpr c56
                                                        subst c56
                                                        have H1 : (some false) = some r := by rw [if_neg (show ¬ (false = true) by decide)] at H; exact H
                                                        clear H
                                                        have H := H1
                                                        clear H1
                                                        obtain rfl := Option.some.inj H
                                                        exact absurd hrt (by decide)
                                                    · rw [if_neg c55] at H
                                                      have c55b0 : (t195 == (wrap64 (t164 * 3))) = false := beq_eq_false_iff_ne.mpr c55
                                                      have c55b1 : (t195 != (wrap64 (t164 * 3))) = true := bne_iff_ne.mpr c55
                                                      obtain rfl := Option.some.inj H
                                                      exact absurd hrt (by decide)
                                                  · replace c54 := Bool.eq_false_iff.mpr c54
                                                    subst c54
                                                    have H1 : (some false) = some r := by rw [if_neg (show ¬ (false = true) by decide)] at H; exact H
                                                    clear H
                                                    have H := H1
                                                    clear H1
                                                    obtain rfl := Option.some.inj H
                                                    exact absurd hrt (by decide)
                                                · rw [if_neg c53] at H
                                                  have c53b0 : (t189 == (wrap64 (t164 * 3))) = false := beq_eq_false_iff_ne.mpr c53
                                                  have c53b1 : (t189 != (wrap64 (t164 * 3))) = true := bne_iff_ne.mpr c53
                                                  obtain rfl := Option.some.inj H
                                                  exact absurd hrt (by decide)
                                              · replace c52 := Bool.eq_false_iff.mpr c52
                                                subst c52
                                                have H1 : (some false) = some r := by rw [if_neg (show ¬ (false = true) by decide)] at H; exact H
                                                clear H
                                                have H := H1
                                                clear H1
                                                obtain rfl := Option.some.inj H
                                                exact absurd hrt (by decide)
                                            · rw [if_neg c51] at H
                                              have c51b0 : (t187 == (wrap64 (t164 * 3))) = false := beq_eq_false_iff_ne.mpr c51
                                              have c51b1 : (t187 != (wrap64 (t164 * 3))) = true := bne_iff_ne.mpr c51
                                              obtain rfl := Option.some.inj H
                                              exact absurd hrt (by decide)
                                          · replace c50 := Bool.eq_false_iff.mpr c50
                                            subst c50
                                            have H1 : (some false) = some r := by rw [if_neg (show ¬ (false = true) by decide)] at H; exact H
                                            clear H
                                            have H := H1
                                            clear H1
                                            obtain rfl := Option.some.inj H
                                            exact absurd hrt (by decide)
                                        · rw [if_neg c48] at H
                                          exact absurd H (by simp)
                                      · rw [if_neg c47] at H
                                        exact absurd H (by simp)
                                    · rw [if_neg c45] at H
                                      exact absurd H (by simp)
                                  · rw [if_neg c44] at H
                                    exact absurd H (by simp)
                                · rw [if_neg c41] at H
                                  exact absurd H (by simp)
                              · rw [if_neg c36] at H
                                exact absurd H (by simp)
                            · rw [if_neg c35] at H
                              exact absurd H (by simp)
                          · rw [if_neg c34] at H
                            exact absurd H (by simp)
                      · rw [if_neg c30] at H
                        have c30b0 : ((t179.length : Int) == (wrap64 ((wrap64 ((Int.tmod t155 4) + 1)) + (Int.tmod t156 (wrap64 (7 - (Int.tmod t155 4))))))) = false := beq_eq_false_iff_ne.mpr c30
                        have c30b1 : ((t179.length : Int) != (wrap64 ((wrap64 ((Int.tmod t155 4) + 1)) + (Int.tmod t156 (wrap64 (7 - (Int.tmod t155 4))))))) = true := bne_iff_ne.mpr c30
                        obtain rfl := Option.some.inj H
                        exact absurd hrt (by decide)
                    · rw [if_neg c28] at H
                      exact absurd H (by simp)
                  · rw [if_neg c27] at H
                    exact absurd H (by simp)

/-- THE ONE PURE STATEMENT of laws_FnShares: yours. -/
def laws_FnShares.Pure : Prop := ∀ (l0 : List Int), l0.length ≤ maxLen → l0.length * 1 ≤ 140737488351232 → (∀ x ∈ l0, (Lit.int .u8 x).wf = true) → ∃ k, laws_FnShares.f k l0 = some true
theorem laws_FnShares.walk (P : laws_FnShares.Pure) (a0 : Option Addr) (len0 cap0 : Nat) (z0 : List Int) (w : World) (w0 : (a0 = none ∧ len0 = 0 ∧ cap0 = 0 ∧ z0 = []) ∨ ∃ x, a0 = some x ∧ len0 ≤ cap0 ∧ cap0 ≤ maxLen ∧ z0.length = cap0 ∧ (∀ i, i < z0.length → w.cell? (x.add i) = some (.int .u8 (z0.getD i 0))) ∧ ∀ n ∈ z0, (Lit.int .u8 n).wf = true) (y0 : len0 * 1 ≤ 140737488351232) :
    Calls Try.prog 9 #[.slice a0 len0 cap0] w fun e w' => e = .returned (.bool true) ∧ Below w.heap.size w w' := by
  obtain ⟨l0, rfl, hr0, hm0, hw0, hc0⟩ := ReadsInt.ofRowC w0
  obtain ⟨k, h⟩ := P l0 hm0 y0 hw0
  refine (laws_FnShares.calls k _ _ l0 true w (Kd.C_of_reads (d := (0 : Int)) (h1 := fun _ => rfl) hr0) hc0 h rfl).mono ?_
  rintro e w' ⟨rfl, hd⟩
  exact ⟨rfl, hd⟩

end Go.Proofs.Ytclfiaafeaocjaa.PFnShares
