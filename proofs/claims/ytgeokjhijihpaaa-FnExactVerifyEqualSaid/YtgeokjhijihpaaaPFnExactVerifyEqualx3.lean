-- PRINTED BY print.sh 35421559b90ae4d0a3588c463048766b98c2df88dd9212a6774a882060cdf62d: not written by this session
import Derived.Test.YtgeokjhijihpaaaPFnExactVerifyEqualx0
import Derived.Test.YtgeokjhijihpaaaPFnExactVerifyEqualx1
import Derived.Test.YtgeokjhijihpaaaPFnExactVerifyEqualx2
namespace Go.Proofs.Ytgeokjhijihpaaa.PFnExactVerifyEqual
open Go.RowKit Go.Proofs.YtgeokjhijihpaaaW.PrintWords Go.Proofs.YtgeokjhijihpaaaW.PrintLast Go.Proofs.YtgeokjhijihpaaaW.PrintMore
attribute [local go_sem] max2_int min2_int max_two min_two max_three min_three max_four min_four   -- for this text's walks alone
set_option linter.unusedVariables false
set_option linter.unusedSimpArgs false

/-! ### impl_VerifyEqual: function 30 -/
def impl_VerifyEqual.j0 : Nat → Int → Int → Int → Int → Int → Int → Bool → Option (Bool)
  | 0, _, _, _, _, _, _, _ => none
  | k + 1, x0, x1, x2, x3, x4, x5, x42 => if x42 = true then (some false) else ((impl_PowGroup.f k x0 x5).bind fun t176 => ((impl_PowGroup.f k x2 x4).bind fun t177 => ((impl_MulGroup.f k t176 t177).bind fun t178 => ((impl_PowGroup.f k x1 x5).bind fun t179 => ((impl_PowGroup.f k x3 x4).bind fun t180 => ((impl_MulGroup.f k t179 t180).bind fun t181 => ((impl_KeyedHash.f k 97 (([x0, x1, x2, x3, t178, t181] : List Int))).bind fun t185 => (some (x4 == (Int.tmod t185 1019))))))))))
def impl_VerifyEqual.f (k : Nat) (a0 : Int) (a1 : Int) (a2 : Int) (a3 : Int) (a4 : Int) (a5 : Int) : Option (Bool) := (impl_IsGroupElement.f k a0).bind fun t170 => (if t170 = true then ((impl_IsGroupElement.f k a1).bind fun t171 => (if t171 = true then ((impl_IsGroupElement.f k a2).bind fun t172 => (if t172 = true then ((impl_IsGroupElement.f k a3).bind fun t173 => (if t173 = true then ((impl_InRange.f a4 0 1018).bind fun t174 => (if t174 = true then ((impl_InRange.f a5 0 1018).bind fun t175 => (impl_VerifyEqual.j0 k a0 a1 a2 a3 a4 a5 (!t175))) else (impl_VerifyEqual.j0 k a0 a1 a2 a3 a4 a5 true))) else (impl_VerifyEqual.j0 k a0 a1 a2 a3 a4 a5 true))) else (impl_VerifyEqual.j0 k a0 a1 a2 a3 a4 a5 true))) else (impl_VerifyEqual.j0 k a0 a1 a2 a3 a4 a5 true))) else (impl_VerifyEqual.j0 k a0 a1 a2 a3 a4 a5 true))
theorem impl_VerifyEqual.mono_l : ∀ k, (∀ y0 y1 y2 y3 y4 y5 y6, LeO (impl_VerifyEqual.j0 k y0 y1 y2 y3 y4 y5 y6) (impl_VerifyEqual.j0 (k + 1) y0 y1 y2 y3 y4 y5 y6))
  | 0 => fun _ _ _ _ _ _ _ r h => by simp [impl_VerifyEqual.j0] at h
  | k + 1 => by
    have ih0 := impl_VerifyEqual.mono_l k
    · intro y0 y1 y2 y3 y4 y5 y6
      unfold impl_VerifyEqual.j0
      repeat' first
      | (with_reducible exact ih0 _ _ _ _ _ _ _)
      | (with_reducible exact impl_IsGroupElement.mono _ _)
      | (with_reducible exact impl_KeyedHash.mono _ _ _)
      | (with_reducible exact impl_MulGroup.mono _ _ _)
      | (with_reducible exact impl_PowGroup.mono _ _ _)
      | (with_reducible exact LeO.refl _)
      | (with_reducible exact LeO.none _)
      | (with_reducible refine LeO.ite ?_ ?_)
      | (with_reducible refine LeO.bind ?_ (fun _ => ?_))
      | exact ih0 _ _ _ _ _ _ _
      | exact impl_IsGroupElement.mono _ _
      | exact impl_KeyedHash.mono _ _ _
      | exact impl_MulGroup.mono _ _ _
      | exact impl_PowGroup.mono _ _ _
      | exact LeO.none _
      | refine LeO.ite ?_ ?_
      | refine LeO.bind ?_ (fun _ => ?_)
theorem impl_VerifyEqual.mono : ∀ a0 a1 a2 a3 a4 a5 k, LeO (impl_VerifyEqual.f k a0 a1 a2 a3 a4 a5) (impl_VerifyEqual.f (k + 1) a0 a1 a2 a3 a4 a5) := by
  intro a0 a1 a2 a3 a4 a5 k
  have ih0 := impl_VerifyEqual.mono_l k
  unfold impl_VerifyEqual.f
  repeat' first
      | (with_reducible exact ih0 _ _ _ _ _ _ _)
      | (with_reducible exact impl_IsGroupElement.mono _ _)
      | (with_reducible exact impl_KeyedHash.mono _ _ _)
      | (with_reducible exact impl_MulGroup.mono _ _ _)
      | (with_reducible exact impl_PowGroup.mono _ _ _)
      | (with_reducible exact LeO.refl _)
      | (with_reducible exact LeO.none _)
      | (with_reducible refine LeO.ite ?_ ?_)
      | (with_reducible refine LeO.bind ?_ (fun _ => ?_))
      | exact ih0 _ _ _ _ _ _ _
      | exact impl_IsGroupElement.mono _ _
      | exact impl_KeyedHash.mono _ _ _
      | exact impl_MulGroup.mono _ _ _
      | exact impl_PowGroup.mono _ _ _
      | exact LeO.none _
      | refine LeO.ite ?_ ?_
      | refine LeO.bind ?_ (fun _ => ?_)
set_option maxHeartbeats 8000000 in
set_option maxRecDepth 100000 in
theorem impl_VerifyEqual.calls (k : Nat) (a0 : Int) (a1 : Int) (a2 : Int) (a3 : Int) (a4 : Int) (a5 : Int) (r : Bool) (w : World) (h : impl_VerifyEqual.f k a0 a1 a2 a3 a4 a5 = some r) :
    Calls Try.prog 30 #[.int .i64 a0, .int .i64 a1, .int .i64 a2, .int .i64 a3, .int .i64 a4, .int .i64 a5] w fun e w' => e = .returned (.bool r) ∧ Below w.heap.size w w' := by
  have HB := Aside0.mk (Below.refl w.heap.size w)
  have H : ((impl_IsGroupElement.f k a0).bind fun t170 => (if t170 = true then ((impl_IsGroupElement.f k a1).bind fun t171 => (if t171 = true then ((impl_IsGroupElement.f k a2).bind fun t172 => (if t172 = true then ((impl_IsGroupElement.f k a3).bind fun t173 => (if t173 = true then ((impl_InRange.f a4 0 1018).bind fun t174 => (if t174 = true then ((impl_InRange.f a5 0 1018).bind fun t175 => (impl_VerifyEqual.j0 k a0 a1 a2 a3 a4 a5 (!t175))) else (impl_VerifyEqual.j0 k a0 a1 a2 a3 a4 a5 true))) else (impl_VerifyEqual.j0 k a0 a1 a2 a3 a4 a5 true))) else (impl_VerifyEqual.j0 k a0 a1 a2 a3 a4 a5 true))) else (impl_VerifyEqual.j0 k a0 a1 a2 a3 a4 a5 true))) else (impl_VerifyEqual.j0 k a0 a1 a2 a3 a4 a5 true))) = some r := h
  clear h
  have HC7 := Aside0.mk H
  clear H
  go_enter Try.func30, Try.ntmps30
  go_upto_region 1 with (fail)
  go_cut [42] (fun v42 wc => ∃ (kq : Nat) (x42_6 : Bool), v42 = .bool x42_6 ∧ Aside0 (impl_VerifyEqual.j0 kq a0 a1 a2 a3 a4 a5 x42_6 = some r) ∧ Aside0 (kq ≤ k) ∧ Aside0 (Below w.heap.size w wc))
  case first =>
    have H := HC7.out
    clear HC7
    replace H := Option.bind_eq_some_iff.mp H
    obtain ⟨t170, A80, H⟩ := H
    replace H : (if t170 = true then ((impl_IsGroupElement.f k a1).bind fun t171 => (if t171 = true then ((impl_IsGroupElement.f k a2).bind fun t172 => (if t172 = true then ((impl_IsGroupElement.f k a3).bind fun t173 => (if t173 = true then ((impl_InRange.f a4 0 1018).bind fun t174 => (if t174 = true then ((impl_InRange.f a5 0 1018).bind fun t175 => (impl_VerifyEqual.j0 k a0 a1 a2 a3 a4 a5 (!t175))) else (impl_VerifyEqual.j0 k a0 a1 a2 a3 a4 a5 true))) else (impl_VerifyEqual.j0 k a0 a1 a2 a3 a4 a5 true))) else (impl_VerifyEqual.j0 k a0 a1 a2 a3 a4 a5 true))) else (impl_VerifyEqual.j0 k a0 a1 a2 a3 a4 a5 true))) else (impl_VerifyEqual.j0 k a0 a1 a2 a3 a4 a5 true)) = some r := H
    have A8 := Aside0.mk A80
    clear A80
    by_cases c9 : t170 = true
    · subst c9
      have H1 : ((impl_IsGroupElement.f k a1).bind fun t171 => (if t171 = true then ((impl_IsGroupElement.f k a2).bind fun t172 => (if t172 = true then ((impl_IsGroupElement.f k a3).bind fun t173 => (if t173 = true then ((impl_InRange.f a4 0 1018).bind fun t174 => (if t174 = true then ((impl_InRange.f a5 0 1018).bind fun t175 => (impl_VerifyEqual.j0 k a0 a1 a2 a3 a4 a5 (!t175))) else (impl_VerifyEqual.j0 k a0 a1 a2 a3 a4 a5 true))) else (impl_VerifyEqual.j0 k a0 a1 a2 a3 a4 a5 true))) else (impl_VerifyEqual.j0 k a0 a1 a2 a3 a4 a5 true))) else (impl_VerifyEqual.j0 k a0 a1 a2 a3 a4 a5 true))) = some r := by rw [if_pos rfl] at H; exact H
      clear H
      have H := H1
      clear H1
      replace H := Option.bind_eq_some_iff.mp H
      obtain ⟨t171, A100, H⟩ := H
      replace H : (if t171 = true then ((impl_IsGroupElement.f k a2).bind fun t172 => (if t172 = true then ((impl_IsGroupElement.f k a3).bind fun t173 => (if t173 = true then ((impl_InRange.f a4 0 1018).bind fun t174 => (if t174 = true then ((impl_InRange.f a5 0 1018).bind fun t175 => (impl_VerifyEqual.j0 k a0 a1 a2 a3 a4 a5 (!t175))) else (impl_VerifyEqual.j0 k a0 a1 a2 a3 a4 a5 true))) else (impl_VerifyEqual.j0 k a0 a1 a2 a3 a4 a5 true))) else (impl_VerifyEqual.j0 k a0 a1 a2 a3 a4 a5 true))) else (impl_VerifyEqual.j0 k a0 a1 a2 a3 a4 a5 true)) = some r := H
      have A10 := Aside0.mk A100
      clear A100
      by_cases c11 : t171 = true
      · subst c11
        have H1 : ((impl_IsGroupElement.f k a2).bind fun t172 => (if t172 = true then ((impl_IsGroupElement.f k a3).bind fun t173 => (if t173 = true then ((impl_InRange.f a4 0 1018).bind fun t174 => (if t174 = true then ((impl_InRange.f a5 0 1018).bind fun t175 => (impl_VerifyEqual.j0 k a0 a1 a2 a3 a4 a5 (!t175))) else (impl_VerifyEqual.j0 k a0 a1 a2 a3 a4 a5 true))) else (impl_VerifyEqual.j0 k a0 a1 a2 a3 a4 a5 true))) else (impl_VerifyEqual.j0 k a0 a1 a2 a3 a4 a5 true))) = some r := by rw [if_pos rfl] at H; exact H
        clear H
        have H := H1
        clear H1
        replace H := Option.bind_eq_some_iff.mp H
        obtain ⟨t172, A120, H⟩ := H
        replace H : (if t172 = true then ((impl_IsGroupElement.f k a3).bind fun t173 => (if t173 = true then ((impl_InRange.f a4 0 1018).bind fun t174 => (if t174 = true then ((impl_InRange.f a5 0 1018).bind fun t175 => (impl_VerifyEqual.j0 k a0 a1 a2 a3 a4 a5 (!t175))) else (impl_VerifyEqual.j0 k a0 a1 a2 a3 a4 a5 true))) else (impl_VerifyEqual.j0 k a0 a1 a2 a3 a4 a5 true))) else (impl_VerifyEqual.j0 k a0 a1 a2 a3 a4 a5 true)) = some r := H
        have A12 := Aside0.mk A120
        clear A120
        by_cases c13 : t172 = true
        · subst c13
          have H1 : ((impl_IsGroupElement.f k a3).bind fun t173 => (if t173 = true then ((impl_InRange.f a4 0 1018).bind fun t174 => (if t174 = true then ((impl_InRange.f a5 0 1018).bind fun t175 => (impl_VerifyEqual.j0 k a0 a1 a2 a3 a4 a5 (!t175))) else (impl_VerifyEqual.j0 k a0 a1 a2 a3 a4 a5 true))) else (impl_VerifyEqual.j0 k a0 a1 a2 a3 a4 a5 true))) = some r := by rw [if_pos rfl] at H; exact H
          clear H
          have H := H1
          clear H1
          replace H := Option.bind_eq_some_iff.mp H
          obtain ⟨t173, A140, H⟩ := H
          replace H : (if t173 = true then ((impl_InRange.f a4 0 1018).bind fun t174 => (if t174 = true then ((impl_InRange.f a5 0 1018).bind fun t175 => (impl_VerifyEqual.j0 k a0 a1 a2 a3 a4 a5 (!t175))) else (impl_VerifyEqual.j0 k a0 a1 a2 a3 a4 a5 true))) else (impl_VerifyEqual.j0 k a0 a1 a2 a3 a4 a5 true)) = some r := H
          have A14 := Aside0.mk A140
          clear A140
          by_cases c15 : t173 = true
          · subst c15
            have H1 : ((impl_InRange.f a4 0 1018).bind fun t174 => (if t174 = true then ((impl_InRange.f a5 0 1018).bind fun t175 => (impl_VerifyEqual.j0 k a0 a1 a2 a3 a4 a5 (!t175))) else (impl_VerifyEqual.j0 k a0 a1 a2 a3 a4 a5 true))) = some r := by rw [if_pos rfl] at H; exact H
            clear H
            have H := H1
            clear H1
            replace H := Option.bind_eq_some_iff.mp H
            obtain ⟨t174, A160, H⟩ := H
            replace H : (if t174 = true then ((impl_InRange.f a5 0 1018).bind fun t175 => (impl_VerifyEqual.j0 k a0 a1 a2 a3 a4 a5 (!t175))) else (impl_VerifyEqual.j0 k a0 a1 a2 a3 a4 a5 true)) = some r := H
            have A16 := Aside0.mk A160
            clear A160
            by_cases c17 : t174 = true
            · subst c17
              have H1 : ((impl_InRange.f a5 0 1018).bind fun t175 => (impl_VerifyEqual.j0 k a0 a1 a2 a3 a4 a5 (!t175))) = some r := by rw [if_pos rfl] at H; exact H
              clear H
              have H := H1
              clear H1
              replace H := Option.bind_eq_some_iff.mp H
              obtain ⟨t175, A180, H⟩ := H
              replace H : (impl_VerifyEqual.j0 k a0 a1 a2 a3 a4 a5 (!t175)) = some r := H
              have A18 := Aside0.mk A180
              clear A180
              have H' := Aside0.mk H
              clear H
              go_wp2_with (first | ((with_reducible refine gate_callee (f := 16) rfl ?_); refine goesL_ (some 16) rfl rfl Try.func16 (by kernel_rfl) rfl #[.int .i64 a0] rfl (by (try simp only [List.map_toArray, List.map_cons, List.map_nil]); first | done | rfl | (simp only [List.length_drop, List.length_take]; rfl)) ?_; (with_reducible refine (impl_IsGroupElement.calls k a0 true _ A8.out).mono ?_); rintro e w' ⟨rfl, ⟨nd, rfl⟩⟩; refine ⟨_, rfl, ?_⟩) | (go_at_call 16; (with_reducible refine (impl_IsGroupElement.calls k a1 true _ A10.out).mono ?_); rintro e w' ⟨rfl, ⟨nd, rfl⟩⟩) | (go_at_call 16; (with_reducible refine (impl_IsGroupElement.calls k a2 true _ A12.out).mono ?_); rintro e w' ⟨rfl, ⟨nd, rfl⟩⟩) | (go_at_call 16; (with_reducible refine (impl_IsGroupElement.calls k a3 true _ A14.out).mono ?_); rintro e w' ⟨rfl, ⟨nd, rfl⟩⟩) | (go_at_call 43; (with_reducible refine (impl_InRange.calls a4 0 1018 true _ A16.out).mono ?_); rintro e w' ⟨rfl, ⟨nd, rfl⟩⟩) | (go_at_call 43; (with_reducible refine (impl_InRange.calls a5 0 1018 t175 _ A18.out).mono ?_); rintro e w' ⟨rfl, ⟨nd, rfl⟩⟩))
              go_meet
              case rel => exact ⟨_, (!t175), (by first | rfl | (simp; done) | (simp [*]; done)), H', ⟨by first | omega | exact Nat.le_refl _⟩, ⟨by repeat (first | (with_reducible first | exact HB.out | apply below_alloc | apply pw_below_drewN | apply below_drew1) | exact HB.out)⟩⟩
            · replace c17 := Bool.eq_false_iff.mpr c17
              subst c17
              have H1 : (impl_VerifyEqual.j0 k a0 a1 a2 a3 a4 a5 true) = some r := by rw [if_neg (show ¬ (false = true) by decide)] at H; exact H
              clear H
              have H := H1
              clear H1
              have H' := Aside0.mk H
              clear H
              go_wp2_with (first | ((with_reducible refine gate_callee (f := 16) rfl ?_); refine goesL_ (some 16) rfl rfl Try.func16 (by kernel_rfl) rfl #[.int .i64 a0] rfl (by (try simp only [List.map_toArray, List.map_cons, List.map_nil]); first | done | rfl | (simp only [List.length_drop, List.length_take]; rfl)) ?_; (with_reducible refine (impl_IsGroupElement.calls k a0 true _ A8.out).mono ?_); rintro e w' ⟨rfl, ⟨nd, rfl⟩⟩; refine ⟨_, rfl, ?_⟩) | (go_at_call 16; (with_reducible refine (impl_IsGroupElement.calls k a1 true _ A10.out).mono ?_); rintro e w' ⟨rfl, ⟨nd, rfl⟩⟩) | (go_at_call 16; (with_reducible refine (impl_IsGroupElement.calls k a2 true _ A12.out).mono ?_); rintro e w' ⟨rfl, ⟨nd, rfl⟩⟩) | (go_at_call 16; (with_reducible refine (impl_IsGroupElement.calls k a3 true _ A14.out).mono ?_); rintro e w' ⟨rfl, ⟨nd, rfl⟩⟩) | (go_at_call 43; (with_reducible refine (impl_InRange.calls a4 0 1018 false _ A16.out).mono ?_); rintro e w' ⟨rfl, ⟨nd, rfl⟩⟩))
              go_meet
              case rel => exact ⟨_, (true), (by first | rfl | (simp; done) | (simp [*]; done)), H', ⟨by first | omega | exact Nat.le_refl _⟩, ⟨by repeat (first | (with_reducible first | exact HB.out | apply below_alloc | apply pw_below_drewN | apply below_drew1) | exact HB.out)⟩⟩
          · replace c15 := Bool.eq_false_iff.mpr c15
            subst c15
            have H1 : (impl_VerifyEqual.j0 k a0 a1 a2 a3 a4 a5 true) = some r := by rw [if_neg (show ¬ (false = true) by decide)] at H; exact H
            clear H
            have H := H1
            clear H1
            have H' := Aside0.mk H
            clear H
            go_wp2_with (first | ((with_reducible refine gate_callee (f := 16) rfl ?_); refine goesL_ (some 16) rfl rfl Try.func16 (by kernel_rfl) rfl #[.int .i64 a0] rfl (by (try simp only [List.map_toArray, List.map_cons, List.map_nil]); first | done | rfl | (simp only [List.length_drop, List.length_take]; rfl)) ?_; (with_reducible refine (impl_IsGroupElement.calls k a0 true _ A8.out).mono ?_); rintro e w' ⟨rfl, ⟨nd, rfl⟩⟩; refine ⟨_, rfl, ?_⟩) | (go_at_call 16; (with_reducible refine (impl_IsGroupElement.calls k a1 true _ A10.out).mono ?_); rintro e w' ⟨rfl, ⟨nd, rfl⟩⟩) | (go_at_call 16; (with_reducible refine (impl_IsGroupElement.calls k a2 true _ A12.out).mono ?_); rintro e w' ⟨rfl, ⟨nd, rfl⟩⟩) | (go_at_call 16; (with_reducible refine (impl_IsGroupElement.calls k a3 false _ A14.out).mono ?_); rintro e w' ⟨rfl, ⟨nd, rfl⟩⟩))
            go_meet
            case rel => exact ⟨_, (true), (by first | rfl | (simp; done) | (simp [*]; done)), H', ⟨by first | omega | exact Nat.le_refl _⟩, ⟨by repeat (first | (with_reducible first | exact HB.out | apply below_alloc | apply pw_below_drewN | apply below_drew1) | exact HB.out)⟩⟩
        · replace c13 := Bool.eq_false_iff.mpr c13
          subst c13
          have H1 : (impl_VerifyEqual.j0 k a0 a1 a2 a3 a4 a5 true) = some r := by rw [if_neg (show ¬ (false = true) by decide)] at H; exact H
          clear H
          have H := H1
          clear H1
          have H' := Aside0.mk H
          clear H
          go_wp2_with (first | ((with_reducible refine gate_callee (f := 16) rfl ?_); refine goesL_ (some 16) rfl rfl Try.func16 (by kernel_rfl) rfl #[.int .i64 a0] rfl (by (try simp only [List.map_toArray, List.map_cons, List.map_nil]); first | done | rfl | (simp only [List.length_drop, List.length_take]; rfl)) ?_; (with_reducible refine (impl_IsGroupElement.calls k a0 true _ A8.out).mono ?_); rintro e w' ⟨rfl, ⟨nd, rfl⟩⟩; refine ⟨_, rfl, ?_⟩) | (go_at_call 16; (with_reducible refine (impl_IsGroupElement.calls k a1 true _ A10.out).mono ?_); rintro e w' ⟨rfl, ⟨nd, rfl⟩⟩) | (go_at_call 16; (with_reducible refine (impl_IsGroupElement.calls k a2 false _ A12.out).mono ?_); rintro e w' ⟨rfl, ⟨nd, rfl⟩⟩))
          go_meet
          case rel => exact ⟨_, (true), (by first | rfl | (simp; done) | (simp [*]; done)), H', ⟨by first | omega | exact Nat.le_refl _⟩, ⟨by repeat (first | (with_reducible first | exact HB.out | apply below_alloc | apply pw_below_drewN | apply below_drew1) | exact HB.out)⟩⟩
      · replace c11 := Bool.eq_false_iff.mpr c11
        subst c11
        have H1 : (impl_VerifyEqual.j0 k a0 a1 a2 a3 a4 a5 true) = some r := by rw [if_neg (show ¬ (false = true) by decide)] at H; exact H
        clear H
        have H := H1
        clear H1
        have H' := Aside0.mk H
        clear H
        go_wp2_with (first | ((with_reducible refine gate_callee (f := 16) rfl ?_); refine goesL_ (some 16) rfl rfl Try.func16 (by kernel_rfl) rfl #[.int .i64 a0] rfl (by (try simp only [List.map_toArray, List.map_cons, List.map_nil]); first | done | rfl | (simp only [List.length_drop, List.length_take]; rfl)) ?_; (with_reducible refine (impl_IsGroupElement.calls k a0 true _ A8.out).mono ?_); rintro e w' ⟨rfl, ⟨nd, rfl⟩⟩; refine ⟨_, rfl, ?_⟩) | (go_at_call 16; (with_reducible refine (impl_IsGroupElement.calls k a1 false _ A10.out).mono ?_); rintro e w' ⟨rfl, ⟨nd, rfl⟩⟩))
        go_meet
        case rel => exact ⟨_, (true), (by first | rfl | (simp; done) | (simp [*]; done)), H', ⟨by first | omega | exact Nat.le_refl _⟩, ⟨by repeat (first | (with_reducible first | exact HB.out | apply below_alloc | apply pw_below_drewN | apply below_drew1) | exact HB.out)⟩⟩
    · replace c9 := Bool.eq_false_iff.mpr c9
      subst c9
      have H1 : (impl_VerifyEqual.j0 k a0 a1 a2 a3 a4 a5 true) = some r := by rw [if_neg (show ¬ (false = true) by decide)] at H; exact H
      clear H
      have H := H1
      clear H1
      have H' := Aside0.mk H
      clear H
      go_wp2_with (first | ((with_reducible refine gate_callee (f := 16) rfl ?_); refine goesL_ (some 16) rfl rfl Try.func16 (by kernel_rfl) rfl #[.int .i64 a0] rfl (by (try simp only [List.map_toArray, List.map_cons, List.map_nil]); first | done | rfl | (simp only [List.length_drop, List.length_take]; rfl)) ?_; (with_reducible refine (impl_IsGroupElement.calls k a0 false _ A8.out).mono ?_); rintro e w' ⟨rfl, ⟨nd, rfl⟩⟩; refine ⟨_, rfl, ?_⟩))
      go_meet
      case rel => exact ⟨_, (true), (by first | rfl | (simp; done) | (simp [*]; done)), H', ⟨by first | omega | exact Nat.le_refl _⟩, ⟨by repeat (first | (with_reducible first | exact HB.out | apply below_alloc | apply pw_below_drewN | apply below_drew1) | exact HB.out)⟩⟩
  case rest =>
    clear HC7
    try clear c1
    try clear p2
    try clear c3
    try clear c9
    try clear c11
    try clear c13
    try clear c15
    try clear c16
    try clear c17
    obtain ⟨kq, x42_6, rfl, HA, HJ6, HB⟩ := hcut
    cases kq with
    | zero => exact absurd HA.out (by simp [impl_VerifyEqual.j0])
    | succ kj6 =>
      have H := HA.out
      clear HA
      simp only [impl_VerifyEqual.j0] at H
      by_cases c19 : x42_6 = true
      · subst c19
        have H1 : (some false) = some r := by rw [if_pos rfl] at H; exact H
        clear H
        have H := H1
        clear H1
        obtain rfl := Option.some.inj H
        go_wp2
        go_ret
        exact ⟨by first | rfl | (simp [errW_none, errW_some] <;> rfl) | (simp [*, errW_none, errW_some] <;> rfl), by repeat (first | (with_reducible first | exact HB.out | apply below_alloc | apply pw_below_drewN | apply below_drew1) | exact HB.out)⟩
      · replace c19 := Bool.eq_false_iff.mpr c19
        subst c19
        have H1 : ((impl_PowGroup.f kj6 a0 a5).bind fun t176 => ((impl_PowGroup.f kj6 a2 a4).bind fun t177 => ((impl_MulGroup.f kj6 t176 t177).bind fun t178 => ((impl_PowGroup.f kj6 a1 a5).bind fun t179 => ((impl_PowGroup.f kj6 a3 a4).bind fun t180 => ((impl_MulGroup.f kj6 t179 t180).bind fun t181 => ((impl_KeyedHash.f kj6 97 (([a0, a1, a2, a3, t178, t181] : List Int))).bind fun t185 => (some (a4 == (Int.tmod t185 1019)))))))))) = some r := by rw [if_neg (show ¬ (false = true) by decide)] at H; exact H
        clear H
        have H := H1
        clear H1
        replace H := Option.bind_eq_some_iff.mp H
        obtain ⟨t176, A200, H⟩ := H
        replace H : ((impl_PowGroup.f kj6 a2 a4).bind fun t177 => ((impl_MulGroup.f kj6 t176 t177).bind fun t178 => ((impl_PowGroup.f kj6 a1 a5).bind fun t179 => ((impl_PowGroup.f kj6 a3 a4).bind fun t180 => ((impl_MulGroup.f kj6 t179 t180).bind fun t181 => ((impl_KeyedHash.f kj6 97 (([a0, a1, a2, a3, t178, t181] : List Int))).bind fun t185 => (some (a4 == (Int.tmod t185 1019))))))))) = some r := H
        have A20 := Aside0.mk A200
        clear A200
        replace H := Option.bind_eq_some_iff.mp H
        obtain ⟨t177, A210, H⟩ := H
        replace H : ((impl_MulGroup.f kj6 t176 t177).bind fun t178 => ((impl_PowGroup.f kj6 a1 a5).bind fun t179 => ((impl_PowGroup.f kj6 a3 a4).bind fun t180 => ((impl_MulGroup.f kj6 t179 t180).bind fun t181 => ((impl_KeyedHash.f kj6 97 (([a0, a1, a2, a3, t178, t181] : List Int))).bind fun t185 => (some (a4 == (Int.tmod t185 1019)))))))) = some r := H
        have A21 := Aside0.mk A210
        clear A210
        replace H := Option.bind_eq_some_iff.mp H
        obtain ⟨t178, A220, H⟩ := H
        replace H : ((impl_PowGroup.f kj6 a1 a5).bind fun t179 => ((impl_PowGroup.f kj6 a3 a4).bind fun t180 => ((impl_MulGroup.f kj6 t179 t180).bind fun t181 => ((impl_KeyedHash.f kj6 97 (([a0, a1, a2, a3, t178, t181] : List Int))).bind fun t185 => (some (a4 == (Int.tmod t185 1019))))))) = some r := H
        have A22 := Aside0.mk A220
        clear A220
        replace H := Option.bind_eq_some_iff.mp H
        obtain ⟨t179, A230, H⟩ := H
        replace H : ((impl_PowGroup.f kj6 a3 a4).bind fun t180 => ((impl_MulGroup.f kj6 t179 t180).bind fun t181 => ((impl_KeyedHash.f kj6 97 (([a0, a1, a2, a3, t178, t181] : List Int))).bind fun t185 => (some (a4 == (Int.tmod t185 1019)))))) = some r := H
        have A23 := Aside0.mk A230
        clear A230
        replace H := Option.bind_eq_some_iff.mp H
        obtain ⟨t180, A240, H⟩ := H
        replace H : ((impl_MulGroup.f kj6 t179 t180).bind fun t181 => ((impl_KeyedHash.f kj6 97 (([a0, a1, a2, a3, t178, t181] : List Int))).bind fun t185 => (some (a4 == (Int.tmod t185 1019))))) = some r := H
        have A24 := Aside0.mk A240
        clear A240
        replace H := Option.bind_eq_some_iff.mp H
        obtain ⟨t181, A250, H⟩ := H
        replace H : ((impl_KeyedHash.f kj6 97 (([a0, a1, a2, a3, t178, t181] : List Int))).bind fun t185 => (some (a4 == (Int.tmod t185 1019)))) = some r := H
        have A25 := Aside0.mk A250
        clear A250
        obtain ⟨y182, hy182⟩ : ∃ y_ : List Int, y_ = (([a0, a1, a2, a3, t178, t181] : List Int)) := ⟨_, rfl⟩
        replace H : ((impl_KeyedHash.f kj6 97 y182).bind fun t185 => (some (a4 == (Int.tmod t185 1019)))) = some r := by first | (rw [hy182]; with_reducible exact H) | (have H2_ := (Option.bind_some _ _).symm.trans H; rw [hy182]; with_reducible exact H2_) | (have H2_ := (Option.bind_some _ _).symm.trans H; with_reducible exact H2_) | with_reducible exact H | (rw [hy182]; exact H) | exact H
        have Ny182 := Aside0.mk hy182
        clear hy182
        replace H := Option.bind_eq_some_iff.mp H
        obtain ⟨t185, A260, H⟩ := H
        replace H : (some (a4 == (Int.tmod t185 1019))) = some r := H
        have A26 := Aside0.mk A260
        clear A260
        obtain rfl := Option.some.inj H
        go_wp2_with (first | ((with_reducible refine gate_callee (f := 20) rfl ?_); refine goesL_ (some 45) rfl rfl Try.func20 (by kernel_rfl) rfl #[.int .i64 a0, .int .i64 a5] rfl (by (try simp only [List.map_toArray, List.map_cons, List.map_nil]); first | done | rfl | (simp only [List.length_drop, List.length_take]; rfl)) ?_; (with_reducible refine (impl_PowGroup.calls kj6 a0 a5 t176 _ A20.out).mono ?_); rintro e w' ⟨rfl, ⟨nd, rfl⟩⟩; refine ⟨_, rfl, ?_⟩) | ((with_reducible refine gate_callee (f := 20) rfl ?_); refine goesL_ (some 48) rfl rfl Try.func20 (by kernel_rfl) rfl #[.int .i64 a2, .int .i64 a4] rfl (by (try simp only [List.map_toArray, List.map_cons, List.map_nil]); first | done | rfl | (simp only [List.length_drop, List.length_take]; rfl)) ?_; (with_reducible refine (impl_PowGroup.calls kj6 a2 a4 t177 _ A21.out).mono ?_); rintro e w' ⟨rfl, ⟨nd, rfl⟩⟩; refine ⟨_, rfl, ?_⟩) | ((with_reducible refine gate_callee (f := 18) rfl ?_); refine goesL_ (some 49) rfl rfl Try.func18 (by kernel_rfl) rfl #[.int .i64 t176, .int .i64 t177] rfl (by (try simp only [List.map_toArray, List.map_cons, List.map_nil]); first | done | rfl | (simp only [List.length_drop, List.length_take]; rfl)) ?_; (with_reducible refine (impl_MulGroup.calls kj6 t176 t177 t178 _ A22.out).mono ?_); rintro e w' ⟨rfl, ⟨nd, rfl⟩⟩; refine ⟨_, rfl, ?_⟩) | ((with_reducible refine gate_callee (f := 20) rfl ?_); refine goesL_ (some 52) rfl rfl Try.func20 (by kernel_rfl) rfl #[.int .i64 a1, .int .i64 a5] rfl (by (try simp only [List.map_toArray, List.map_cons, List.map_nil]); first | done | rfl | (simp only [List.length_drop, List.length_take]; rfl)) ?_; (with_reducible refine (impl_PowGroup.calls kj6 a1 a5 t179 _ A23.out).mono ?_); rintro e w' ⟨rfl, ⟨nd, rfl⟩⟩; refine ⟨_, rfl, ?_⟩) | ((with_reducible refine gate_callee (f := 20) rfl ?_); refine goesL_ (some 55) rfl rfl Try.func20 (by kernel_rfl) rfl #[.int .i64 a3, .int .i64 a4] rfl (by (try simp only [List.map_toArray, List.map_cons, List.map_nil]); first | done | rfl | (simp only [List.length_drop, List.length_take]; rfl)) ?_; (with_reducible refine (impl_PowGroup.calls kj6 a3 a4 t180 _ A24.out).mono ?_); rintro e w' ⟨rfl, ⟨nd, rfl⟩⟩; refine ⟨_, rfl, ?_⟩) | ((with_reducible refine gate_callee (f := 18) rfl ?_); refine goesL_ (some 56) rfl rfl Try.func18 (by kernel_rfl) rfl #[.int .i64 t179, .int .i64 t180] rfl (by (try simp only [List.map_toArray, List.map_cons, List.map_nil]); first | done | rfl | (simp only [List.length_drop, List.length_take]; rfl)) ?_; (with_reducible refine (impl_MulGroup.calls kj6 t179 t180 t181 _ A25.out).mono ?_); rintro e w' ⟨rfl, ⟨nd, rfl⟩⟩; refine ⟨_, rfl, ?_⟩) | ((with_reducible refine gate_dst (N := 64) rfl ?_); refine Kd.R_lit (Kd.int .i64) _ 3 ?hg (N := 64) ?hd (xs := ([a0, a1, a2, a3, t178, t181] : List Int)) (inner := [.int .i64 a0, .int .i64 a1, .int .i64 a2, .int .i64 a3, .int .i64 t178, .int .i64 t181]) (ok := fun _ => True) (okp := fun _ => True) ?hr ?hp (fun _ hk => hk) trivial (Below.refl _ _) (Nat.le_refl _) (by simp) ?_; (case hd => rfl); (case hg => rfl); (case hr => first | (go_simp; done) | (go_simp; rfl)); (case hp => exact (Reps.one (show Kd.M (Kd.int .i64) _ _ _ a0 [.int .i64 a0] from rfl) (Reps.one (show Kd.M (Kd.int .i64) _ _ _ a1 [.int .i64 a1] from rfl) (Reps.one (show Kd.M (Kd.int .i64) _ _ _ a2 [.int .i64 a2] from rfl) (Reps.one (show Kd.M (Kd.int .i64) _ _ _ a3 [.int .i64 a3] from rfl) (Reps.one (show Kd.M (Kd.int .i64) _ _ _ t178 [.int .i64 t178] from rfl) (Reps.one (show Kd.M (Kd.int .i64) _ _ _ t181 [.int .i64 t181] from rfl) (Reps.none _ _)))))))); intro v183 w27 ho28 hb hg_ hnew_; clear hg_ hnew_; (first | rw [← Ny182.out] at ho28 | (simp only [Int.reduceToNat] at ho28; rw [← Ny182.out] at ho28)); have n0_ := Aside0.mk (Kd.R_lower ho28 (below_size (by repeat (first | (with_reducible first | exact HB.out | apply below_alloc | apply pw_below_drewN | apply below_drew1) | exact HB.out)))); have n1_ := Aside0.mk (below_step (by repeat (first | (with_reducible first | exact HB.out | apply below_alloc | apply pw_below_drewN | apply below_drew1) | exact HB.out)) hb); clear HB; have HO184 := n0_; have HB := n1_; clear n0_ n1_; clear hb ho28; obtain ⟨Ao29, co29, eo29⟩ := Kd.R_slice HO184.out; subst eo29) | ((with_reducible refine gate_callee (f := 47) rfl ?_); refine goesL_ (some 65) rfl rfl Try.func47 (by kernel_rfl) rfl #[.int .i64 97, .slice Ao29 y182.length co29] rfl (by (try simp only [List.map_toArray, List.map_cons, List.map_nil]); first | done | rfl | (simp only [List.length_drop, List.length_take]; rfl)) ?_; (with_reducible refine (impl_KeyedHash.calls kj6 97 (fun k_ => some k_ = (.slice Ao29 y182.length co29 : Value).ownBlock) _ _ y182 t185 _ ?side1 A26.out).mono ?_); (case side1 => exact Kd.R_V (Kd.R_tight rfl (HO184.out))); rintro e w30 ⟨rfl, hb⟩; refine ⟨_, rfl, ?_⟩; have n0_ := Aside0.mk (Kd.R_below (by (with_reducible repeat (first | apply Kd.R_alloc | apply Kd.R_drewN | apply Kd.R_drew)); exact HO184.out) hb); have n1_ := Aside0.mk (below_step (by repeat (first | (with_reducible first | exact HB.out | apply below_alloc | apply pw_below_drewN | apply below_drew1) | exact HB.out)) hb); clear HO184; clear HB; have HO184 := n0_; have HB := n1_; clear n0_ n1_; (try clear hb); (try clear hb2); (try clear hk); (try clear hi)))
        go_ret
        exact ⟨by first | rfl | (simp [errW_none, errW_some] <;> rfl) | (simp [*, errW_none, errW_some] <;> rfl), by repeat (first | (with_reducible first | exact HB.out | apply below_alloc | apply pw_below_drewN | apply below_drew1) | exact HB.out)⟩

/-! ### laws_FnExactVerifyEqual: function 10 -/
def laws_FnExactVerifyEqual.f (k : Nat) (a0 : Int) (a1 : Int) (a2 : Int) (a3 : Int) (a4 : Int) (a5 : Int) : Option (Bool) := (spec_VerifyEqual.f k a0 a1 a2 a3 a4 a5).bind fun t186 => ((impl_VerifyEqual.f k a0 a1 a2 a3 a4 a5).bind fun t187 => (if (t187 != t186) = true then (some false) else (some true)))
theorem laws_FnExactVerifyEqual.mono : ∀ a0 a1 a2 a3 a4 a5 k, LeO (laws_FnExactVerifyEqual.f k a0 a1 a2 a3 a4 a5) (laws_FnExactVerifyEqual.f (k + 1) a0 a1 a2 a3 a4 a5) := by
  intro a0 a1 a2 a3 a4 a5 k
  unfold laws_FnExactVerifyEqual.f
  repeat' first
      | (with_reducible exact impl_VerifyEqual.mono _ _ _ _ _ _ _)
      | (with_reducible exact spec_VerifyEqual.mono _ _ _ _ _ _ _)
      | (with_reducible exact LeO.refl _)
      | (with_reducible exact LeO.none _)
      | (with_reducible refine LeO.ite ?_ ?_)
      | (with_reducible refine LeO.bind ?_ (fun _ => ?_))
      | exact impl_VerifyEqual.mono _ _ _ _ _ _ _
      | exact spec_VerifyEqual.mono _ _ _ _ _ _ _
      | exact LeO.none _
      | refine LeO.ite ?_ ?_
      | refine LeO.bind ?_ (fun _ => ?_)
set_option maxHeartbeats 8000000 in
set_option maxRecDepth 100000 in
theorem laws_FnExactVerifyEqual.calls (k : Nat) (a0 : Int) (a1 : Int) (a2 : Int) (a3 : Int) (a4 : Int) (a5 : Int) (r : Bool) (w : World) (h : laws_FnExactVerifyEqual.f k a0 a1 a2 a3 a4 a5 = some r) :
    Calls Try.prog 10 #[.int .i64 a0, .int .i64 a1, .int .i64 a2, .int .i64 a3, .int .i64 a4, .int .i64 a5] w fun e w' => e = .returned (.bool r) ∧ Below w.heap.size w w' := by
  have HB := Aside0.mk (Below.refl w.heap.size w)
  have H : ((spec_VerifyEqual.f k a0 a1 a2 a3 a4 a5).bind fun t186 => ((impl_VerifyEqual.f k a0 a1 a2 a3 a4 a5).bind fun t187 => (if (t187 != t186) = true then (some false) else (some true)))) = some r := h
  clear h
  replace H := Option.bind_eq_some_iff.mp H
  obtain ⟨t186, A70, H⟩ := H
  replace H : ((impl_VerifyEqual.f k a0 a1 a2 a3 a4 a5).bind fun t187 => (if (t187 != t186) = true then (some false) else (some true))) = some r := H
  have A7 := Aside0.mk A70
  clear A70
  replace H := Option.bind_eq_some_iff.mp H
  obtain ⟨t187, A80, H⟩ := H
  replace H : (if (t187 != t186) = true then (some false) else (some true)) = some r := H
  have A8 := Aside0.mk A80
  clear A80
  by_cases c9 : (t187 != t186) = true
  · rw [if_pos c9] at H
    have c9b0 : (t187 != t186) = true := c9
    (try (have c9b1 : decide (t187 = t186) = false := by simpa using c9))
    (try (have c9b2 : (t187 == t186) = false := by simpa using c9))
    (try (have c9b3 : ¬ (t187 = t186) := by simpa using c9))
    clear c9
    obtain rfl := Option.some.inj H
    go_enter Try.func10, Try.ntmps10
    go_wp2_with (first | ((with_reducible refine gate_callee (f := 29) rfl ?_); refine goesL_ (some 21) rfl rfl Try.func29 (by kernel_rfl) rfl #[.int .i64 a0, .int .i64 a1, .int .i64 a2, .int .i64 a3, .int .i64 a4, .int .i64 a5] rfl (by (try simp only [List.map_toArray, List.map_cons, List.map_nil]); first | done | rfl | (simp only [List.length_drop, List.length_take]; rfl)) ?_; (with_reducible refine (spec_VerifyEqual.calls k a0 a1 a2 a3 a4 a5 t186 _ A7.out).mono ?_); rintro e w10 ⟨rfl, hb⟩; refine ⟨_, rfl, ?_⟩; have n0_ := Aside0.mk (below_step (by repeat (first | (with_reducible first | exact HB.out | apply below_alloc | apply pw_below_drewN | apply below_drew1) | exact HB.out)) hb); clear HB; have HB := n0_; clear n0_; (try clear hb); (try clear hb2); (try clear hk); (try clear hi)) | ((with_reducible refine gate_callee (f := 30) rfl ?_); refine goesL_ (some 28) rfl rfl Try.func30 (by kernel_rfl) rfl #[.int .i64 a0, .int .i64 a1, .int .i64 a2, .int .i64 a3, .int .i64 a4, .int .i64 a5] rfl (by (try simp only [List.map_toArray, List.map_cons, List.map_nil]); first | done | rfl | (simp only [List.length_drop, List.length_take]; rfl)) ?_; (with_reducible refine (impl_VerifyEqual.calls k a0 a1 a2 a3 a4 a5 t187 _ A8.out).mono ?_); rintro e w11 ⟨rfl, hb⟩; refine ⟨_, rfl, ?_⟩; have n0_ := Aside0.mk (below_step (by repeat (first | (with_reducible first | exact HB.out | apply below_alloc | apply pw_below_drewN | apply below_drew1) | exact HB.out)) hb); clear HB; have HB := n0_; clear n0_; (try clear hb); (try clear hb2); (try clear hk); (try clear hi)))
    go_ret
    exact ⟨by first | rfl | (simp [errW_none, errW_some] <;> rfl) | (simp [*, errW_none, errW_some] <;> rfl), by repeat (first | (with_reducible first | exact HB.out | apply below_alloc | apply pw_below_drewN | apply below_drew1) | exact HB.out)⟩
  · rw [if_neg c9] at H
    have c9b0 : (t187 != t186) = false := by simpa using c9
    (try (have c9b1 : decide (t187 = t186) = true := by simpa using c9))
    (try (have c9b2 : (t187 == t186) = true := by simpa using c9))
    clear c9
    obtain rfl := Option.some.inj H
    go_enter Try.func10, Try.ntmps10
    go_wp2_with (first | ((with_reducible refine gate_callee (f := 29) rfl ?_); refine goesL_ (some 21) rfl rfl Try.func29 (by kernel_rfl) rfl #[.int .i64 a0, .int .i64 a1, .int .i64 a2, .int .i64 a3, .int .i64 a4, .int .i64 a5] rfl (by (try simp only [List.map_toArray, List.map_cons, List.map_nil]); first | done | rfl | (simp only [List.length_drop, List.length_take]; rfl)) ?_; (with_reducible refine (spec_VerifyEqual.calls k a0 a1 a2 a3 a4 a5 t186 _ A7.out).mono ?_); rintro e w12 ⟨rfl, hb⟩; refine ⟨_, rfl, ?_⟩; have n0_ := Aside0.mk (below_step (by repeat (first | (with_reducible first | exact HB.out | apply below_alloc | apply pw_below_drewN | apply below_drew1) | exact HB.out)) hb); clear HB; have HB := n0_; clear n0_; (try clear hb); (try clear hb2); (try clear hk); (try clear hi)) | ((with_reducible refine gate_callee (f := 30) rfl ?_); refine goesL_ (some 28) rfl rfl Try.func30 (by kernel_rfl) rfl #[.int .i64 a0, .int .i64 a1, .int .i64 a2, .int .i64 a3, .int .i64 a4, .int .i64 a5] rfl (by (try simp only [List.map_toArray, List.map_cons, List.map_nil]); first | done | rfl | (simp only [List.length_drop, List.length_take]; rfl)) ?_; (with_reducible refine (impl_VerifyEqual.calls k a0 a1 a2 a3 a4 a5 t187 _ A8.out).mono ?_); rintro e w13 ⟨rfl, hb⟩; refine ⟨_, rfl, ?_⟩; have n0_ := Aside0.mk (below_step (by repeat (first | (with_reducible first | exact HB.out | apply below_alloc | apply pw_below_drewN | apply below_drew1) | exact HB.out)) hb); clear HB; have HB := n0_; clear n0_; (try clear hb); (try clear hb2); (try clear hk); (try clear hi)))
    go_ret
    exact ⟨by first | rfl | (simp [errW_none, errW_some] <;> rfl) | (simp [*, errW_none, errW_some] <;> rfl), by repeat (first | (with_reducible first | exact HB.out | apply below_alloc | apply pw_below_drewN | apply below_drew1) | exact HB.out)⟩

/-- THE ONE PURE STATEMENT of laws_FnExactVerifyEqual: yours. -/
def laws_FnExactVerifyEqual.Pure : Prop := ∀ (a0 : Int) (a1 : Int) (a2 : Int) (a3 : Int) (a4 : Int) (a5 : Int), (Lit.int .i64 a0).wf = true → (Lit.int .i64 a1).wf = true → (Lit.int .i64 a2).wf = true → (Lit.int .i64 a3).wf = true → (Lit.int .i64 a4).wf = true → (Lit.int .i64 a5).wf = true → ∃ k, laws_FnExactVerifyEqual.f k a0 a1 a2 a3 a4 a5 = some true
theorem laws_FnExactVerifyEqual.walk (P : laws_FnExactVerifyEqual.Pure) (a0 : Int) (a1 : Int) (a2 : Int) (a3 : Int) (a4 : Int) (a5 : Int) (w : World) (w0 : (Lit.int .i64 a0).wf = true) (w1 : (Lit.int .i64 a1).wf = true) (w2 : (Lit.int .i64 a2).wf = true) (w3 : (Lit.int .i64 a3).wf = true) (w4 : (Lit.int .i64 a4).wf = true) (w5 : (Lit.int .i64 a5).wf = true) :
    Calls Try.prog 10 #[.int .i64 a0, .int .i64 a1, .int .i64 a2, .int .i64 a3, .int .i64 a4, .int .i64 a5] w fun e w' => e = .returned (.bool true) ∧ Below w.heap.size w w' := by
  obtain ⟨k, h⟩ := P a0 a1 a2 a3 a4 a5 w0 w1 w2 w3 w4 w5
  refine (laws_FnExactVerifyEqual.calls k a0 a1 a2 a3 a4 a5 true w h).mono ?_
  rintro e w' ⟨rfl, hd⟩
  exact ⟨rfl, hd⟩

end Go.Proofs.Ytgeokjhijihpaaa.PFnExactVerifyEqual
