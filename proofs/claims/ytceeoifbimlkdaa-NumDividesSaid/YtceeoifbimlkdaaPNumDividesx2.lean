-- PRINTED BY print.sh 35421559b90ae4d0a3588c463048766b98c2df88dd9212a6774a882060cdf62d: not written by this session
import Derived.Test.YtceeoifbimlkdaaPNumDividesx0
import Derived.Test.YtceeoifbimlkdaaPNumDividesx1
namespace Go.Proofs.Ytceeoifbimlkdaa.PNumDivides
open Go.RowKit Go.Proofs.YtceeoifbimlkdaaW.PrintWords Go.Proofs.YtceeoifbimlkdaaW.PrintLast Go.Proofs.YtceeoifbimlkdaaW.PrintMore
attribute [local go_sem] max2_int min2_int max_two min_two max_three min_three max_four min_four   -- for this text's walks alone
set_option linter.unusedVariables false
set_option linter.unusedSimpArgs false

/-! ### bulkheadlaw01_NumDivides: function 6 -/
mutual
def bulkheadlaw01_NumDivides.j0 : Nat → Int → Int → Int → Bool → Bool → Option (Bool)
  | 0, _, _, _, _, _ => none
  | k + 1, x0, x1, x5, x6, x37 => if x37 = true then (some false) else (if x6 = true then ((num_Sub.f x5 x1).bind fun bt105 => (if bt105.2 = true then (if bt105.1 = x0 then (bulkheadlaw01_NumDivides.j1 k x0 x1) else (some false)) else (some false))) else (bulkheadlaw01_NumDivides.j1 k x0 x1))
def bulkheadlaw01_NumDivides.j1 : Nat → Int → Int → Option (Bool)
  | 0, _, _ => none
  | k + 1, x0, x1 => (num_Mul.f k x0 x1).bind fun bt107 => ((num_Mul.f k x1 x0).bind fun bt109 => (if bt107.1 = bt109.1 then (bulkheadlaw01_NumDivides.j2 k x0 x1 bt107.2 bt107.1 (bt107.2 != bt109.2)) else (bulkheadlaw01_NumDivides.j2 k x0 x1 bt107.2 bt107.1 true)))
def bulkheadlaw01_NumDivides.j2 : Nat → Int → Int → Bool → Int → Bool → Option (Bool)
  | 0, _, _, _, _, _ => none
  | k + 1, x0, x1, x6, x11, x71 => if x71 = true then (some false) else (if x6 = true then (bulkheadlaw01_NumDivides.j3 k x0 x1 x11 (x1 != 0)) else (bulkheadlaw01_NumDivides.j3 k x0 x1 x11 false))
def bulkheadlaw01_NumDivides.j3 : Nat → Int → Int → Int → Bool → Option (Bool)
  | 0, _, _, _, _ => none
  | k + 1, x0, x1, x11, x76 => if x76 = true then ((num_Div.f k x11 x1).bind fun bt111 => (if bt111.2.2 = true then (if bt111.1 = x0 then (bulkheadlaw01_NumDivides.j4 k x0 x1 (bt111.2.1 != 0)) else (bulkheadlaw01_NumDivides.j4 k x0 x1 true)) else (bulkheadlaw01_NumDivides.j4 k x0 x1 true))) else ((num_Div.f k x0 x1).bind fun bt117 => (if bt117.2.2 = true then (if x1 = 0 then (some false) else (if bt117.2.1 ≥ 0 then (if x1 < 0 then (if x1 > 0 then (some ((wrap64 ((wrap64 (bt117.1 * x1)) + bt117.2.1)) == x0)) else (if bt117.2.1 < (wrap64 (-x1)) then (some ((wrap64 ((wrap64 (bt117.1 * x1)) + bt117.2.1)) == x0)) else (if x1 = (-9223372036854775808) then (some ((wrap64 ((wrap64 (bt117.1 * x1)) + bt117.2.1)) == x0)) else (some false)))) else (if bt117.2.1 < x1 then (if x1 > 0 then (some ((wrap64 ((wrap64 (bt117.1 * x1)) + bt117.2.1)) == x0)) else (if bt117.2.1 < (wrap64 (-x1)) then (some ((wrap64 ((wrap64 (bt117.1 * x1)) + bt117.2.1)) == x0)) else (if x1 = (-9223372036854775808) then (some ((wrap64 ((wrap64 (bt117.1 * x1)) + bt117.2.1)) == x0)) else (some false)))) else (some false))) else (some false))) else (if x1 = 0 then (some true) else (if x1 = (-1) then (some (x0 == (-9223372036854775808))) else (some false)))))
def bulkheadlaw01_NumDivides.j4 : Nat → Int → Int → Bool → Option (Bool)
  | 0, _, _, _ => none
  | k + 1, x0, x1, x94 => if x94 = true then (some false) else ((num_Div.f k x0 x1).bind fun bt114 => (if bt114.2.2 = true then (if x1 = 0 then (some false) else (if bt114.2.1 ≥ 0 then (if x1 < 0 then (if x1 > 0 then (some ((wrap64 ((wrap64 (bt114.1 * x1)) + bt114.2.1)) == x0)) else (if bt114.2.1 < (wrap64 (-x1)) then (some ((wrap64 ((wrap64 (bt114.1 * x1)) + bt114.2.1)) == x0)) else (if x1 = (-9223372036854775808) then (some ((wrap64 ((wrap64 (bt114.1 * x1)) + bt114.2.1)) == x0)) else (some false)))) else (if bt114.2.1 < x1 then (if x1 > 0 then (some ((wrap64 ((wrap64 (bt114.1 * x1)) + bt114.2.1)) == x0)) else (if bt114.2.1 < (wrap64 (-x1)) then (some ((wrap64 ((wrap64 (bt114.1 * x1)) + bt114.2.1)) == x0)) else (if x1 = (-9223372036854775808) then (some ((wrap64 ((wrap64 (bt114.1 * x1)) + bt114.2.1)) == x0)) else (some false)))) else (some false))) else (some false))) else (if x1 = 0 then (some true) else (if x1 = (-1) then (some (x0 == (-9223372036854775808))) else (some false)))))
end
def bulkheadlaw01_NumDivides.f (k : Nat) (a0 : Int) (a1 : Int) : Option (Bool) := (num_Add.f a0 a1).bind fun bt101 => ((num_Add.f a1 a0).bind fun bt103 => (if bt101.1 = bt103.1 then (bulkheadlaw01_NumDivides.j0 k a0 a1 bt101.1 bt101.2 (bt101.2 != bt103.2)) else (bulkheadlaw01_NumDivides.j0 k a0 a1 bt101.1 bt101.2 true)))
theorem bulkheadlaw01_NumDivides.mono_l : ∀ k, (∀ y0 y1 y2 y3 y4, LeO (bulkheadlaw01_NumDivides.j0 k y0 y1 y2 y3 y4) (bulkheadlaw01_NumDivides.j0 (k + 1) y0 y1 y2 y3 y4)) ∧ (∀ y0 y1, LeO (bulkheadlaw01_NumDivides.j1 k y0 y1) (bulkheadlaw01_NumDivides.j1 (k + 1) y0 y1)) ∧ (∀ y0 y1 y2 y3 y4, LeO (bulkheadlaw01_NumDivides.j2 k y0 y1 y2 y3 y4) (bulkheadlaw01_NumDivides.j2 (k + 1) y0 y1 y2 y3 y4)) ∧ (∀ y0 y1 y2 y3, LeO (bulkheadlaw01_NumDivides.j3 k y0 y1 y2 y3) (bulkheadlaw01_NumDivides.j3 (k + 1) y0 y1 y2 y3)) ∧ (∀ y0 y1 y2, LeO (bulkheadlaw01_NumDivides.j4 k y0 y1 y2) (bulkheadlaw01_NumDivides.j4 (k + 1) y0 y1 y2))
  | 0 => ⟨fun _ _ _ _ _ r h => by simp [bulkheadlaw01_NumDivides.j0] at h, fun _ _ r h => by simp [bulkheadlaw01_NumDivides.j1] at h, fun _ _ _ _ _ r h => by simp [bulkheadlaw01_NumDivides.j2] at h, fun _ _ _ _ r h => by simp [bulkheadlaw01_NumDivides.j3] at h, fun _ _ _ r h => by simp [bulkheadlaw01_NumDivides.j4] at h⟩
  | k + 1 => by
    obtain ⟨ih0, ih1, ih2, ih3, ih4⟩ := bulkheadlaw01_NumDivides.mono_l k
    refine ⟨?_, ?_, ?_, ?_, ?_⟩
    · intro y0 y1 y2 y3 y4
      unfold bulkheadlaw01_NumDivides.j0
      repeat' first
      | (with_reducible exact ih0 _ _ _ _ _)
      | (with_reducible exact ih1 _ _)
      | (with_reducible exact ih2 _ _ _ _ _)
      | (with_reducible exact ih3 _ _ _ _)
      | (with_reducible exact ih4 _ _ _)
      | (with_reducible exact num_Div.mono _ _ _)
      | (with_reducible exact num_Mul.mono _ _ _)
      | (with_reducible exact LeO.refl _)
      | (with_reducible exact LeO.none _)
      | (with_reducible refine LeO.ite ?_ ?_)
      | (with_reducible refine LeO.bind ?_ (fun _ => ?_))
      | exact ih0 _ _ _ _ _
      | exact ih1 _ _
      | exact ih2 _ _ _ _ _
      | exact ih3 _ _ _ _
      | exact ih4 _ _ _
      | exact num_Div.mono _ _ _
      | exact num_Mul.mono _ _ _
      | exact LeO.none _
      | refine LeO.ite ?_ ?_
      | refine LeO.bind ?_ (fun _ => ?_)
    · intro y0 y1
      unfold bulkheadlaw01_NumDivides.j1
      repeat' first
      | (with_reducible exact ih0 _ _ _ _ _)
      | (with_reducible exact ih1 _ _)
      | (with_reducible exact ih2 _ _ _ _ _)
      | (with_reducible exact ih3 _ _ _ _)
      | (with_reducible exact ih4 _ _ _)
      | (with_reducible exact num_Div.mono _ _ _)
      | (with_reducible exact num_Mul.mono _ _ _)
      | (with_reducible exact LeO.refl _)
      | (with_reducible exact LeO.none _)
      | (with_reducible refine LeO.ite ?_ ?_)
      | (with_reducible refine LeO.bind ?_ (fun _ => ?_))
      | exact ih0 _ _ _ _ _
      | exact ih1 _ _
      | exact ih2 _ _ _ _ _
      | exact ih3 _ _ _ _
      | exact ih4 _ _ _
      | exact num_Div.mono _ _ _
      | exact num_Mul.mono _ _ _
      | exact LeO.none _
      | refine LeO.ite ?_ ?_
      | refine LeO.bind ?_ (fun _ => ?_)
    · intro y0 y1 y2 y3 y4
      unfold bulkheadlaw01_NumDivides.j2
      repeat' first
      | (with_reducible exact ih0 _ _ _ _ _)
      | (with_reducible exact ih1 _ _)
      | (with_reducible exact ih2 _ _ _ _ _)
      | (with_reducible exact ih3 _ _ _ _)
      | (with_reducible exact ih4 _ _ _)
      | (with_reducible exact num_Div.mono _ _ _)
      | (with_reducible exact num_Mul.mono _ _ _)
      | (with_reducible exact LeO.refl _)
      | (with_reducible exact LeO.none _)
      | (with_reducible refine LeO.ite ?_ ?_)
      | (with_reducible refine LeO.bind ?_ (fun _ => ?_))
      | exact ih0 _ _ _ _ _
      | exact ih1 _ _
      | exact ih2 _ _ _ _ _
      | exact ih3 _ _ _ _
      | exact ih4 _ _ _
      | exact num_Div.mono _ _ _
      | exact num_Mul.mono _ _ _
      | exact LeO.none _
      | refine LeO.ite ?_ ?_
      | refine LeO.bind ?_ (fun _ => ?_)
    · intro y0 y1 y2 y3
      unfold bulkheadlaw01_NumDivides.j3
      repeat' first
      | (with_reducible exact ih0 _ _ _ _ _)
      | (with_reducible exact ih1 _ _)
      | (with_reducible exact ih2 _ _ _ _ _)
      | (with_reducible exact ih3 _ _ _ _)
      | (with_reducible exact ih4 _ _ _)
      | (with_reducible exact num_Div.mono _ _ _)
      | (with_reducible exact num_Mul.mono _ _ _)
      | (with_reducible exact LeO.refl _)
      | (with_reducible exact LeO.none _)
      | (with_reducible refine LeO.ite ?_ ?_)
      | (with_reducible refine LeO.bind ?_ (fun _ => ?_))
      | exact ih0 _ _ _ _ _
      | exact ih1 _ _
      | exact ih2 _ _ _ _ _
      | exact ih3 _ _ _ _
      | exact ih4 _ _ _
      | exact num_Div.mono _ _ _
      | exact num_Mul.mono _ _ _
      | exact LeO.none _
      | refine LeO.ite ?_ ?_
      | refine LeO.bind ?_ (fun _ => ?_)
    · intro y0 y1 y2
      unfold bulkheadlaw01_NumDivides.j4
      repeat' first
      | (with_reducible exact ih0 _ _ _ _ _)
      | (with_reducible exact ih1 _ _)
      | (with_reducible exact ih2 _ _ _ _ _)
      | (with_reducible exact ih3 _ _ _ _)
      | (with_reducible exact ih4 _ _ _)
      | (with_reducible exact num_Div.mono _ _ _)
      | (with_reducible exact num_Mul.mono _ _ _)
      | (with_reducible exact LeO.refl _)
      | (with_reducible exact LeO.none _)
      | (with_reducible refine LeO.ite ?_ ?_)
      | (with_reducible refine LeO.bind ?_ (fun _ => ?_))
      | exact ih0 _ _ _ _ _
      | exact ih1 _ _
      | exact ih2 _ _ _ _ _
      | exact ih3 _ _ _ _
      | exact ih4 _ _ _
      | exact num_Div.mono _ _ _
      | exact num_Mul.mono _ _ _
      | exact LeO.none _
      | refine LeO.ite ?_ ?_
      | refine LeO.bind ?_ (fun _ => ?_)
theorem bulkheadlaw01_NumDivides.mono : ∀ a0 a1 k, LeO (bulkheadlaw01_NumDivides.f k a0 a1) (bulkheadlaw01_NumDivides.f (k + 1) a0 a1) := by
  intro a0 a1 k
  obtain ⟨ih0, ih1, ih2, ih3, ih4⟩ := bulkheadlaw01_NumDivides.mono_l k
  unfold bulkheadlaw01_NumDivides.f
  repeat' first
      | (with_reducible exact ih0 _ _ _ _ _)
      | (with_reducible exact ih1 _ _)
      | (with_reducible exact ih2 _ _ _ _ _)
      | (with_reducible exact ih3 _ _ _ _)
      | (with_reducible exact ih4 _ _ _)
      | (with_reducible exact num_Div.mono _ _ _)
      | (with_reducible exact num_Mul.mono _ _ _)
      | (with_reducible exact LeO.refl _)
      | (with_reducible exact LeO.none _)
      | (with_reducible refine LeO.ite ?_ ?_)
      | (with_reducible refine LeO.bind ?_ (fun _ => ?_))
      | exact ih0 _ _ _ _ _
      | exact ih1 _ _
      | exact ih2 _ _ _ _ _
      | exact ih3 _ _ _ _
      | exact ih4 _ _ _
      | exact num_Div.mono _ _ _
      | exact num_Mul.mono _ _ _
      | exact LeO.none _
      | refine LeO.ite ?_ ?_
      | refine LeO.bind ?_ (fun _ => ?_)
set_option maxHeartbeats 8000000 in
set_option maxRecDepth 100000 in
theorem bulkheadlaw01_NumDivides.calls (k : Nat) (a0 : Int) (a1 : Int) (r : Bool) (w : World) (h : bulkheadlaw01_NumDivides.f k a0 a1 = some r) :
    Calls Try.prog 6 #[.int .i64 a0, .int .i64 a1] w fun e w' => e = .returned (.bool r) ∧ Drawn0 w w' := by
  have H : ((num_Add.f a0 a1).bind fun bt101 => ((num_Add.f a1 a0).bind fun bt103 => (if bt101.1 = bt103.1 then (bulkheadlaw01_NumDivides.j0 k a0 a1 bt101.1 bt101.2 (bt101.2 != bt103.2)) else (bulkheadlaw01_NumDivides.j0 k a0 a1 bt101.1 bt101.2 true)))) = some r := h
  clear h
  replace H := Option.bind_eq_some_iff.mp H
  obtain ⟨⟨t101, t102⟩, A30, H⟩ := H
  replace H : ((num_Add.f a1 a0).bind fun bt103 => (if t101 = bt103.1 then (bulkheadlaw01_NumDivides.j0 k a0 a1 t101 t102 (t102 != bt103.2)) else (bulkheadlaw01_NumDivides.j0 k a0 a1 t101 t102 true))) = some r := H
  have A3 := Aside0.mk A30
  clear A30
  replace H := Option.bind_eq_some_iff.mp H
  obtain ⟨⟨t103, t104⟩, A40, H⟩ := H
  replace H : (if t101 = t103 then (bulkheadlaw01_NumDivides.j0 k a0 a1 t101 t102 (t102 != t104)) else (bulkheadlaw01_NumDivides.j0 k a0 a1 t101 t102 true)) = some r := H
  have A4 := Aside0.mk A40
  clear A40
  have HC5 := Aside0.mk H
  clear H
  go_enter Try.func6, Try.ntmps6
  go_upto_region 3 with (first | ((with_reducible refine gate_callee (f := 15) rfl ?_); refine goesL_ (some 21) rfl rfl Try.func15 (by kernel_rfl) rfl #[.int .i64 a0, .int .i64 a1] rfl (by (try simp only [List.map_toArray, List.map_cons, List.map_nil]); first | done | rfl | (simp only [List.length_drop, List.length_take]; rfl)) ?_; (with_reducible refine (num_Add.calls a0 a1 t101 t102 _ A3.out).mono ?_); rintro e w' ⟨rfl, ⟨nd, rfl⟩⟩; refine ⟨_, rfl, ?_⟩) | ((with_reducible refine gate_callee (f := 15) rfl ?_); refine goesL_ (some 27) rfl rfl Try.func15 (by kernel_rfl) rfl #[.int .i64 a1, .int .i64 a0] rfl (by (try simp only [List.map_toArray, List.map_cons, List.map_nil]); first | done | rfl | (simp only [List.length_drop, List.length_take]; rfl)) ?_; (with_reducible refine (num_Add.calls a1 a0 t103 t104 _ A4.out).mono ?_); rintro e w' ⟨rfl, ⟨nd, rfl⟩⟩; refine ⟨_, rfl, ?_⟩))
  (try simp only [Act.put, List.setIfInBounds_toArray, List.set_cons_zero, List.set_cons_succ])
  go_cut [37] (fun v37 wc => ∃ (kq : Nat) (x37_4 : Bool), v37 = .bool x37_4 ∧ Aside0 (bulkheadlaw01_NumDivides.j0 kq a0 a1 t101 t102 x37_4 = some r) ∧ Aside0 (kq ≤ k) ∧ Drawn0 w wc)
  case first =>
    have H := HC5.out
    clear HC5
    by_cases c6 : t101 = t103
    · rw [if_pos c6] at H
      have c6b0 : (t101 == t103) = true := beq_iff_eq.mpr c6
      have c6b1 : (t101 != t103) = false := bne_eq_false_iff_eq.mpr c6
      clear c6
      (first | rw [c6b0] | (simp only [i64_w, i32_w]; rw [c6b0]) | skip)
      have H' := Aside0.mk H
      clear H
      go_wp2
      go_meet
      case rel => exact ⟨_, ((t102 != t104)), (by first | rfl | (simp; done) | (simp [*]; done)), H', ⟨by first | omega | exact Nat.le_refl _⟩, by repeat (first | exact Drawn0.refl _ | apply Drawn0.step)⟩
    · rw [if_neg c6] at H
      have c6b0 : (t101 == t103) = false := beq_eq_false_iff_ne.mpr c6
      have c6b1 : (t101 != t103) = true := bne_iff_ne.mpr c6
      (first | rw [c6b0] | (simp only [i64_w, i32_w]; rw [c6b0]) | skip)
      have H' := Aside0.mk H
      clear H
      go_wp2
      go_meet
      case rel => exact ⟨_, (true), (by first | rfl | (simp; done) | (simp [*]; done)), H', ⟨by first | omega | exact Nat.le_refl _⟩, by repeat (first | exact Drawn0.refl _ | apply Drawn0.step)⟩
  case rest =>
    clear HC5
    try clear c1
    try clear p2
    try clear c6
    try clear c6b0
    try clear c6b1
    obtain ⟨kq, x37_4, rfl, HA, HJ4, ⟨mc4, rfl⟩⟩ := hcut
    cases kq with
    | zero => exact absurd HA.out (by simp [bulkheadlaw01_NumDivides.j0])
    | succ kj4 =>
      have H := HA.out
      clear HA
      simp only [bulkheadlaw01_NumDivides.j0] at H
      by_cases c7 : x37_4 = true
      · subst c7
        have H1 : (some false) = some r := by rw [if_pos rfl] at H; exact H
        clear H
        have H := H1
        clear H1
        obtain rfl := Option.some.inj H
        go_wp2
        go_ret
        exact ⟨by first | rfl | (simp; done) | (simp [*]; done), by repeat (first | exact Drawn0.refl _ | apply Drawn0.step)⟩
      · replace c7 := Bool.eq_false_iff.mpr c7
        subst c7
        have H1 : (if t102 = true then ((num_Sub.f t101 a1).bind fun bt105 => (if bt105.2 = true then (if bt105.1 = a0 then (bulkheadlaw01_NumDivides.j1 kj4 a0 a1) else (some false)) else (some false))) else (bulkheadlaw01_NumDivides.j1 kj4 a0 a1)) = some r := by rw [if_neg (show ¬ (false = true) by decide)] at H; exact H
        clear H
        have H := H1
        clear H1
        have HC8 := Aside0.mk H
        clear H
        go_upto_if 38 with (fail)
        go_cut [] (fun wc => ∃ (kq : Nat), Aside0 (bulkheadlaw01_NumDivides.j1 kq a0 a1 = some r) ∧ Aside0 (kq ≤ kj4) ∧ Drawn0 w wc)
        case first =>
          have H := HC8.out
          clear HC8
          by_cases c9 : t102 = true
          · subst c9
            have H1 : ((num_Sub.f t101 a1).bind fun bt105 => (if bt105.2 = true then (if bt105.1 = a0 then (bulkheadlaw01_NumDivides.j1 kj4 a0 a1) else (some false)) else (some false))) = some r := by rw [if_pos rfl] at H; exact H
            clear H
            have H := H1
            clear H1
            replace H := Option.bind_eq_some_iff.mp H
            obtain ⟨⟨t105, t106⟩, A100, H⟩ := H
            replace H : (if t106 = true then (if t105 = a0 then (bulkheadlaw01_NumDivides.j1 kj4 a0 a1) else (some false)) else (some false)) = some r := H
            have A10 := Aside0.mk A100
            clear A100
            by_cases c11 : t106 = true
            · subst c11
              have H1 : (if t105 = a0 then (bulkheadlaw01_NumDivides.j1 kj4 a0 a1) else (some false)) = some r := by rw [if_pos rfl] at H; exact H
              clear H
              have H := H1
              clear H1
              by_cases c12 : t105 = a0
              · rw [if_pos c12] at H
                have c12b0 : (t105 == a0) = true := beq_iff_eq.mpr c12
                have c12b1 : (t105 != a0) = false := bne_eq_false_iff_eq.mpr c12
                clear c12
                (first | rw [c12b0] | (simp only [i64_w, i32_w]; rw [c12b0]) | skip)
                have H' := Aside0.mk H
                clear H
                go_wp2_with (first | ((with_reducible refine gate_callee (f := 20) rfl ?_); refine goesL_ (some 42) rfl rfl Try.func20 (by kernel_rfl) rfl #[.int .i64 t101, .int .i64 a1] rfl (by (try simp only [List.map_toArray, List.map_cons, List.map_nil]); first | done | rfl | (simp only [List.length_drop, List.length_take]; rfl)) ?_; (with_reducible refine (num_Sub.calls t101 a1 t105 true _ A10.out).mono ?_); rintro e w' ⟨rfl, ⟨nd, rfl⟩⟩; refine ⟨_, rfl, ?_⟩))
                go_meet
                case rel => exact ⟨_, H', ⟨by have := HJ4.out; first | omega | exact Nat.le_refl _⟩, by repeat (first | exact Drawn0.refl _ | apply Drawn0.step)⟩
              · rw [if_neg c12] at H
                have c12b0 : (t105 == a0) = false := beq_eq_false_iff_ne.mpr c12
                have c12b1 : (t105 != a0) = true := bne_iff_ne.mpr c12
                (first | rw [c12b0] | (simp only [i64_w, i32_w]; rw [c12b0]) | skip)
                obtain rfl := Option.some.inj H
                go_wp2_with (first | ((with_reducible refine gate_callee (f := 20) rfl ?_); refine goesL_ (some 42) rfl rfl Try.func20 (by kernel_rfl) rfl #[.int .i64 t101, .int .i64 a1] rfl (by (try simp only [List.map_toArray, List.map_cons, List.map_nil]); first | done | rfl | (simp only [List.length_drop, List.length_take]; rfl)) ?_; (with_reducible refine (num_Sub.calls t101 a1 t105 true _ A10.out).mono ?_); rintro e w' ⟨rfl, ⟨nd, rfl⟩⟩; refine ⟨_, rfl, ?_⟩))
                go_ret
                exact ⟨by first | rfl | (simp; done) | (simp [*]; done), by repeat (first | exact Drawn0.refl _ | apply Drawn0.step)⟩
            · replace c11 := Bool.eq_false_iff.mpr c11
              subst c11
              have H1 : (some false) = some r := by rw [if_neg (show ¬ (false = true) by decide)] at H; exact H
              clear H
              have H := H1
              clear H1
              obtain rfl := Option.some.inj H
              go_wp2_with (first | ((with_reducible refine gate_callee (f := 20) rfl ?_); refine goesL_ (some 42) rfl rfl Try.func20 (by kernel_rfl) rfl #[.int .i64 t101, .int .i64 a1] rfl (by (try simp only [List.map_toArray, List.map_cons, List.map_nil]); first | done | rfl | (simp only [List.length_drop, List.length_take]; rfl)) ?_; (with_reducible refine (num_Sub.calls t101 a1 t105 false _ A10.out).mono ?_); rintro e w' ⟨rfl, ⟨nd, rfl⟩⟩; refine ⟨_, rfl, ?_⟩))
              go_ret
              exact ⟨by first | rfl | (simp; done) | (simp [*]; done), by repeat (first | exact Drawn0.refl _ | apply Drawn0.step)⟩
          · replace c9 := Bool.eq_false_iff.mpr c9
            subst c9
            have H1 : (bulkheadlaw01_NumDivides.j1 kj4 a0 a1) = some r := by rw [if_neg (show ¬ (false = true) by decide)] at H; exact H
            clear H
            have H := H1
            clear H1
            have H' := Aside0.mk H
            clear H
            go_wp2
            go_meet
            case rel => exact ⟨_, H', ⟨by have := HJ4.out; first | omega | exact Nat.le_refl _⟩, by repeat (first | exact Drawn0.refl _ | apply Drawn0.step)⟩
        case rest =>
          clear HC8
          try clear c1
          try clear c2
          try clear p2
          try clear c4
          try clear c6
          try clear c6b0
          try clear c6b1
          try clear c7
          try clear c9
          try clear c11
          try clear c12
          try clear c12b0
          try clear c12b1
          try clear p2
          obtain ⟨kq, HA, HJ7, ⟨mc7, rfl⟩⟩ := hcut
          cases kq with
          | zero => exact absurd HA.out (by simp [bulkheadlaw01_NumDivides.j1])
          | succ kj7 =>
            have H := HA.out
            clear HA
            simp only [bulkheadlaw01_NumDivides.j1] at H
            replace H := Option.bind_eq_some_iff.mp H
            obtain ⟨⟨t107, t108⟩, A130, H⟩ := H
            replace H : ((num_Mul.f kj7 a1 a0).bind fun bt109 => (if t107 = bt109.1 then (bulkheadlaw01_NumDivides.j2 kj7 a0 a1 t108 t107 (t108 != bt109.2)) else (bulkheadlaw01_NumDivides.j2 kj7 a0 a1 t108 t107 true))) = some r := H
            have A13 := Aside0.mk A130
            clear A130
            replace H := Option.bind_eq_some_iff.mp H
            obtain ⟨⟨t109, t110⟩, A140, H⟩ := H
            replace H : (if t107 = t109 then (bulkheadlaw01_NumDivides.j2 kj7 a0 a1 t108 t107 (t108 != t110)) else (bulkheadlaw01_NumDivides.j2 kj7 a0 a1 t108 t107 true)) = some r := H
            have A14 := Aside0.mk A140
            clear A140
            have HC15 := Aside0.mk H
            clear H
            go_upto_region 11 with (first | ((with_reducible refine gate_callee (f := 21) rfl ?_); refine goesL_ (some 55) rfl rfl Try.func21 (by kernel_rfl) rfl #[.int .i64 a0, .int .i64 a1] rfl (by (try simp only [List.map_toArray, List.map_cons, List.map_nil]); first | done | rfl | (simp only [List.length_drop, List.length_take]; rfl)) ?_; (with_reducible refine (num_Mul.calls kj7 a0 a1 t107 t108 _ A13.out).mono ?_); rintro e w' ⟨rfl, ⟨nd, rfl⟩⟩; refine ⟨_, rfl, ?_⟩) | ((with_reducible refine gate_callee (f := 21) rfl ?_); refine goesL_ (some 61) rfl rfl Try.func21 (by kernel_rfl) rfl #[.int .i64 a1, .int .i64 a0] rfl (by (try simp only [List.map_toArray, List.map_cons, List.map_nil]); first | done | rfl | (simp only [List.length_drop, List.length_take]; rfl)) ?_; (with_reducible refine (num_Mul.calls kj7 a1 a0 t109 t110 _ A14.out).mono ?_); rintro e w' ⟨rfl, ⟨nd, rfl⟩⟩; refine ⟨_, rfl, ?_⟩))
            (try simp only [Act.put, List.setIfInBounds_toArray, List.set_cons_zero, List.set_cons_succ])
            go_cut [71] (fun v71 wc => ∃ (kq : Nat) (x71_14 : Bool), v71 = .bool x71_14 ∧ Aside0 (bulkheadlaw01_NumDivides.j2 kq a0 a1 t108 t107 x71_14 = some r) ∧ Aside0 (kq ≤ kj7) ∧ Drawn0 w wc)
            case first =>
              have H := HC15.out
              clear HC15
              by_cases c16 : t107 = t109
              · rw [if_pos c16] at H
                have c16b0 : (t107 == t109) = true := beq_iff_eq.mpr c16
                have c16b1 : (t107 != t109) = false := bne_eq_false_iff_eq.mpr c16
                clear c16
                (first | rw [c16b0] | (simp only [i64_w, i32_w]; rw [c16b0]) | skip)
                have H' := Aside0.mk H
                clear H
                go_wp2
                go_meet
                case rel => exact ⟨_, ((t108 != t110)), (by first | rfl | (simp; done) | (simp [*]; done)), H', ⟨by have := HJ4.out; have := HJ7.out; first | omega | exact Nat.le_refl _⟩, by repeat (first | exact Drawn0.refl _ | apply Drawn0.step)⟩
              · rw [if_neg c16] at H
                have c16b0 : (t107 == t109) = false := beq_eq_false_iff_ne.mpr c16
                have c16b1 : (t107 != t109) = true := bne_iff_ne.mpr c16
                (first | rw [c16b0] | (simp only [i64_w, i32_w]; rw [c16b0]) | skip)
                have H' := Aside0.mk H
                clear H
                go_wp2
                go_meet
                case rel => exact ⟨_, (true), (by first | rfl | (simp; done) | (simp [*]; done)), H', ⟨by have := HJ4.out; have := HJ7.out; first | omega | exact Nat.le_refl _⟩, by repeat (first | exact Drawn0.refl _ | apply Drawn0.step)⟩
            case rest =>
              clear HC15
              try clear c1
              try clear c2
              try clear p2
              try clear c4
              try clear c6
              try clear c6b0
              try clear c6b1
              try clear c7
              try clear c9
              try clear c11
              try clear c12
              try clear c12b0
              try clear c12b1
              try clear c15
              try clear c16
              try clear c16b0
              try clear c16b1
              try clear p2
              obtain ⟨kq, x71_14, rfl, HA, HJ14, ⟨mc14, rfl⟩⟩ := hcut
              cases kq with
              | zero => exact absurd HA.out (by simp [bulkheadlaw01_NumDivides.j2])
              | succ kj14 =>
                have H := HA.out
                clear HA
                simp only [bulkheadlaw01_NumDivides.j2] at H
                by_cases c17 : x71_14 = true
                · subst c17
                  have H1 : (some false) = some r := by rw [if_pos rfl] at H; exact H
                  clear H
                  have H := H1
                  clear H1
                  obtain rfl := Option.some.inj H
                  go_wp2
                  go_ret
                  exact ⟨by first | rfl | (simp; done) | (simp [*]; done), by repeat (first | exact Drawn0.refl _ | apply Drawn0.step)⟩
                · replace c17 := Bool.eq_false_iff.mpr c17
                  subst c17
                  have H1 : (if t108 = true then (bulkheadlaw01_NumDivides.j3 kj14 a0 a1 t107 (a1 != 0)) else (bulkheadlaw01_NumDivides.j3 kj14 a0 a1 t107 false)) = some r := by rw [if_neg (show ¬ (false = true) by decide)] at H; exact H
                  clear H
                  have H := H1
                  clear H1
                  have HC18 := Aside0.mk H
                  clear H
                  go_upto_region 13 with (fail)
                  go_cut [76] (fun v76 wc => ∃ (kq : Nat) (x76_17 : Bool), v76 = .bool x76_17 ∧ Aside0 (bulkheadlaw01_NumDivides.j3 kq a0 a1 t107 x76_17 = some r) ∧ Aside0 (kq ≤ kj14) ∧ Drawn0 w wc)
                  case first =>
                    have H := HC18.out
                    clear HC18
                    by_cases c19 : t108 = true
                    · subst c19
                      have H1 : (bulkheadlaw01_NumDivides.j3 kj14 a0 a1 t107 (a1 != 0)) = some r := by rw [if_pos rfl] at H; exact H
                      clear H
                      have H := H1
                      clear H1
                      have H' := Aside0.mk H
                      clear H
                      go_wp2
                      go_meet
                      case rel => exact ⟨_, ((a1 != 0)), (by first | rfl | (simp; done) | (simp [*]; done)), H', ⟨by have := HJ4.out; have := HJ7.out; have := HJ14.out; first | omega | exact Nat.le_refl _⟩, by repeat (first | exact Drawn0.refl _ | apply Drawn0.step)⟩
                    · replace c19 := Bool.eq_false_iff.mpr c19
                      subst c19
                      have H1 : (bulkheadlaw01_NumDivides.j3 kj14 a0 a1 t107 false) = some r := by rw [if_neg (show ¬ (false = true) by decide)] at H; exact H
                      clear H
                      have H := H1
                      clear H1
                      have H' := Aside0.mk H
                      clear H
                      go_wp2
                      go_meet
                      case rel => exact ⟨_, (false), (by first | rfl | (simp; done) | (simp [*]; done)), H', ⟨by have := HJ4.out; have := HJ7.out; have := HJ14.out; first | omega | exact Nat.le_refl _⟩, by repeat (first | exact Drawn0.refl _ | apply Drawn0.step)⟩
                  case rest =>
                    clear HC18
                    try clear c1
                    try clear c2
                    try clear p2
                    try clear c4
                    try clear c6
                    try clear c6b0
                    try clear c6b1
                    try clear c7
                    try clear c9
                    try clear c11
                    try clear c12
                    try clear c12b0
                    try clear c12b1
                    try clear c14
                    try clear c15
                    try clear c16
                    try clear c16b0
                    try clear c16b1
                    try clear c17
                    try clear c19
                    try clear p2
                    obtain ⟨kq, x76_17, rfl, HA, HJ17, ⟨mc17, rfl⟩⟩ := hcut
                    cases kq with
                    | zero => exact absurd HA.out (by simp [bulkheadlaw01_NumDivides.j3])
                    | succ kj17 =>
                      have H := HA.out
                      clear HA
                      simp only [bulkheadlaw01_NumDivides.j3] at H
                      by_cases c20 : x76_17 = true
                      · subst c20
                        have H1 : ((num_Div.f kj17 t107 a1).bind fun bt111 => (if bt111.2.2 = true then (if bt111.1 = a0 then (bulkheadlaw01_NumDivides.j4 kj17 a0 a1 (bt111.2.1 != 0)) else (bulkheadlaw01_NumDivides.j4 kj17 a0 a1 true)) else (bulkheadlaw01_NumDivides.j4 kj17 a0 a1 true))) = some r := by rw [if_pos rfl] at H; exact H
                        clear H
                        have H := H1
                        clear H1
                        replace H := Option.bind_eq_some_iff.mp H
                        obtain ⟨⟨t111, t112, t113⟩, A210, H⟩ := H
                        replace H : (if t113 = true then (if t111 = a0 then (bulkheadlaw01_NumDivides.j4 kj17 a0 a1 (t112 != 0)) else (bulkheadlaw01_NumDivides.j4 kj17 a0 a1 true)) else (bulkheadlaw01_NumDivides.j4 kj17 a0 a1 true)) = some r := H
                        have A21 := Aside0.mk A210
                        clear A210
                        have HC22 := Aside0.mk H
                        clear H
                        go_upto_region 15 with (first | ((with_reducible refine gate_callee (f := 22) rfl ?_); refine goesL_ (some 80) rfl rfl Try.func22 (by kernel_rfl) rfl #[.int .i64 t107, .int .i64 a1] rfl (by (try simp only [List.map_toArray, List.map_cons, List.map_nil]); first | done | rfl | (simp only [List.length_drop, List.length_take]; rfl)) ?_; (with_reducible refine (num_Div.calls kj17 t107 a1 t111 t112 t113 _ A21.out).mono ?_); rintro e w' ⟨rfl, ⟨nd, rfl⟩⟩; refine ⟨_, rfl, ?_⟩))
                        (try simp only [Act.put, List.setIfInBounds_toArray, List.set_cons_zero, List.set_cons_succ])
                        go_cut [94] (fun v94 wc => ∃ (kq : Nat) (x94_21 : Bool), v94 = .bool x94_21 ∧ Aside0 (bulkheadlaw01_NumDivides.j4 kq a0 a1 x94_21 = some r) ∧ Aside0 (kq ≤ kj17) ∧ Drawn0 w wc)
                        case first =>
                          have H := HC22.out
                          clear HC22
                          by_cases c23 : t113 = true
                          · subst c23
                            have H1 : (if t111 = a0 then (bulkheadlaw01_NumDivides.j4 kj17 a0 a1 (t112 != 0)) else (bulkheadlaw01_NumDivides.j4 kj17 a0 a1 true)) = some r := by rw [if_pos rfl] at H; exact H
                            clear H
                            have H := H1
                            clear H1
                            by_cases c24 : t111 = a0
                            · rw [if_pos c24] at H
                              have c24b0 : (t111 == a0) = true := beq_iff_eq.mpr c24
                              have c24b1 : (t111 != a0) = false := bne_eq_false_iff_eq.mpr c24
                              clear c24
                              (first | rw [c24b0] | (simp only [i64_w, i32_w]; rw [c24b0]) | skip)
                              have H' := Aside0.mk H
                              clear H
                              go_wp2
                              go_meet
                              case rel => exact ⟨_, ((t112 != 0)), (by first | rfl | (simp; done) | (simp [*]; done)), H', ⟨by have := HJ4.out; have := HJ7.out; have := HJ14.out; have := HJ17.out; first | omega | exact Nat.le_refl _⟩, by repeat (first | exact Drawn0.refl _ | apply Drawn0.step)⟩
                            · rw [if_neg c24] at H
                              have c24b0 : (t111 == a0) = false := beq_eq_false_iff_ne.mpr c24
                              have c24b1 : (t111 != a0) = true := bne_iff_ne.mpr c24
                              (first | rw [c24b0] | (simp only [i64_w, i32_w]; rw [c24b0]) | skip)
                              have H' := Aside0.mk H
                              clear H
                              go_wp2
                              go_meet
                              case rel => exact ⟨_, (true), (by first | rfl | (simp; done) | (simp [*]; done)), H', ⟨by have := HJ4.out; have := HJ7.out; have := HJ14.out; have := HJ17.out; first | omega | exact Nat.le_refl _⟩, by repeat (first | exact Drawn0.refl _ | apply Drawn0.step)⟩
                          · replace c23 := Bool.eq_false_iff.mpr c23
                            subst c23
                            have H1 : (bulkheadlaw01_NumDivides.j4 kj17 a0 a1 true) = some r := by rw [if_neg (show ¬ (false = true) by decide)] at H; exact H
                            clear H
                            have H := H1
                            clear H1
                            have H' := Aside0.mk H
                            clear H
                            go_wp2
                            go_meet
                            case rel => exact ⟨_, (true), (by first | rfl | (simp; done) | (simp [*]; done)), H', ⟨by have := HJ4.out; have := HJ7.out; have := HJ14.out; have := HJ17.out; first | omega | exact Nat.le_refl _⟩, by repeat (first | exact Drawn0.refl _ | apply Drawn0.step)⟩
                        case rest =>
                          clear HC22
                          try clear c1
                          try clear c2
                          try clear p2
                          try clear c4
                          try clear c6
                          try clear c6b0
                          try clear c6b1
                          try clear c7
                          try clear c9
                          try clear c11
                          try clear c12
                          try clear c12b0
                          try clear c12b1
                          try clear c14
                          try clear c15
                          try clear c16
                          try clear c16b0
                          try clear c16b1
                          try clear c17
                          try clear c19
                          try clear c20
                          try clear c21
                          try clear c22
                          try clear c23
                          try clear c24
                          try clear c24b0
                          try clear c24b1
                          try clear p2
                          obtain ⟨kq, x94_21, rfl, HA, HJ21, ⟨mc21, rfl⟩⟩ := hcut
                          cases kq with
                          | zero => exact absurd HA.out (by simp [bulkheadlaw01_NumDivides.j4])
                          | succ kj21 =>
                            have H := HA.out
                            clear HA
                            simp only [bulkheadlaw01_NumDivides.j4] at H
                            by_cases c25 : x94_21 = true
                            · subst c25
                              have H1 : (some false) = some r := by rw [if_pos rfl] at H; exact H
                              clear H
                              have H := H1
                              clear H1
                              obtain rfl := Option.some.inj H
                              go_wp2
                              go_ret
                              exact ⟨by first | rfl | (simp; done) | (simp [*]; done), by repeat (first | exact Drawn0.refl _ | apply Drawn0.step)⟩
                            · replace c25 := Bool.eq_false_iff.mpr c25
                              subst c25
                              have H1 : ((num_Div.f kj21 a0 a1).bind fun bt114 => (if bt114.2.2 = true then (if a1 = 0 then (some false) else (if bt114.2.1 ≥ 0 then (if a1 < 0 then (if a1 > 0 then (some ((wrap64 ((wrap64 (bt114.1 * a1)) + bt114.2.1)) == a0)) else (if bt114.2.1 < (wrap64 (-a1)) then (some ((wrap64 ((wrap64 (bt114.1 * a1)) + bt114.2.1)) == a0)) else (if a1 = (-9223372036854775808) then (some ((wrap64 ((wrap64 (bt114.1 * a1)) + bt114.2.1)) == a0)) else (some false)))) else (if bt114.2.1 < a1 then (if a1 > 0 then (some ((wrap64 ((wrap64 (bt114.1 * a1)) + bt114.2.1)) == a0)) else (if bt114.2.1 < (wrap64 (-a1)) then (some ((wrap64 ((wrap64 (bt114.1 * a1)) + bt114.2.1)) == a0)) else (if a1 = (-9223372036854775808) then (some ((wrap64 ((wrap64 (bt114.1 * a1)) + bt114.2.1)) == a0)) else (some false)))) else (some false))) else (some false))) else (if a1 = 0 then (some true) else (if a1 = (-1) then (some (a0 == (-9223372036854775808))) else (some false))))) = some r := by rw [if_neg (show ¬ (false = true) by decide)] at H; exact H
                              clear H
                              have H := H1
                              clear H1
                              replace H := Option.bind_eq_some_iff.mp H
                              obtain ⟨⟨t114, t115, t116⟩, A260, H⟩ := H
                              replace H : (if t116 = true then (if a1 = 0 then (some false) else (if t115 ≥ 0 then (if a1 < 0 then (if a1 > 0 then (some ((wrap64 ((wrap64 (t114 * a1)) + t115)) == a0)) else (if t115 < (wrap64 (-a1)) then (some ((wrap64 ((wrap64 (t114 * a1)) + t115)) == a0)) else (if a1 = (-9223372036854775808) then (some ((wrap64 ((wrap64 (t114 * a1)) + t115)) == a0)) else (some false)))) else (if t115 < a1 then (if a1 > 0 then (some ((wrap64 ((wrap64 (t114 * a1)) + t115)) == a0)) else (if t115 < (wrap64 (-a1)) then (some ((wrap64 ((wrap64 (t114 * a1)) + t115)) == a0)) else (if a1 = (-9223372036854775808) then (some ((wrap64 ((wrap64 (t114 * a1)) + t115)) == a0)) else (some false)))) else (some false))) else (some false))) else (if a1 = 0 then (some true) else (if a1 = (-1) then (some (a0 == (-9223372036854775808))) else (some false)))) = some r := H
                              have A26 := Aside0.mk A260
                              clear A260
                              by_cases c27 : t116 = true
                              · subst c27
                                have H1 : (if a1 = 0 then (some false) else (if t115 ≥ 0 then (if a1 < 0 then (if a1 > 0 then (some ((wrap64 ((wrap64 (t114 * a1)) + t115)) == a0)) else (if t115 < (wrap64 (-a1)) then (some ((wrap64 ((wrap64 (t114 * a1)) + t115)) == a0)) else (if a1 = (-9223372036854775808) then (some ((wrap64 ((wrap64 (t114 * a1)) + t115)) == a0)) else (some false)))) else (if t115 < a1 then (if a1 > 0 then (some ((wrap64 ((wrap64 (t114 * a1)) + t115)) == a0)) else (if t115 < (wrap64 (-a1)) then (some ((wrap64 ((wrap64 (t114 * a1)) + t115)) == a0)) else (if a1 = (-9223372036854775808) then (some ((wrap64 ((wrap64 (t114 * a1)) + t115)) == a0)) else (some false)))) else (some false))) else (some false))) = some r := by rw [if_pos rfl] at H; exact H
                                clear H
                                have H := H1
                                clear H1
                                by_cases c28 : a1 = 0
                                · rw [if_pos c28] at H
                                  have c28b0 : (a1 == 0) = true := beq_iff_eq.mpr c28
                                  have c28b1 : (a1 != 0) = false := bne_eq_false_iff_eq.mpr c28
                                  clear c28
                                  obtain rfl := Option.some.inj H
                                  go_wp2_with (first | ((with_reducible refine gate_callee (f := 22) rfl ?_); refine goesL_ (some 98) rfl rfl Try.func22 (by kernel_rfl) rfl #[.int .i64 a0, .int .i64 a1] rfl (by (try simp only [List.map_toArray, List.map_cons, List.map_nil]); first | done | rfl | (simp only [List.length_drop, List.length_take]; rfl)) ?_; (with_reducible refine (num_Div.calls kj21 a0 a1 t114 t115 true _ A26.out).mono ?_); rintro e w' ⟨rfl, ⟨nd, rfl⟩⟩; refine ⟨_, rfl, ?_⟩))
                                  go_ret
                                  exact ⟨by first | rfl | (simp; done) | (simp [*]; done), by repeat (first | exact Drawn0.refl _ | apply Drawn0.step)⟩
                                · rw [if_neg c28] at H
                                  have c28b0 : (a1 == 0) = false := beq_eq_false_iff_ne.mpr c28
                                  have c28b1 : (a1 != 0) = true := bne_iff_ne.mpr c28
                                  by_cases c29 : t115 ≥ 0
                                  · rw [if_pos c29] at H
                                    have c29b0 : decide (0 ≤ t115) = true := decide_eq_true c29
                                    clear c29
                                    by_cases c30 : a1 < 0
                                    · rw [if_pos c30] at H
                                      have c30b0 : decide (a1 < 0) = true := decide_eq_true c30
                                      clear c30
                                      by_cases c31 : a1 > 0
                                      · rw [if_pos c31] at H
                                        have c31b0 : decide (0 < a1) = true := decide_eq_true c31
                                        clear c31
                                        obtain rfl := Option.some.inj H
                                        go_wp2_with (first | ((with_reducible refine gate_callee (f := 22) rfl ?_); refine goesL_ (some 98) rfl rfl Try.func22 (by kernel_rfl) rfl #[.int .i64 a0, .int .i64 a1] rfl (by (try simp only [List.map_toArray, List.map_cons, List.map_nil]); first | done | rfl | (simp only [List.length_drop, List.length_take]; rfl)) ?_; (with_reducible refine (num_Div.calls kj21 a0 a1 t114 t115 true _ A26.out).mono ?_); rintro e w' ⟨rfl, ⟨nd, rfl⟩⟩; refine ⟨_, rfl, ?_⟩))
                                        go_ret
                                        exact ⟨by first | rfl | (simp; done) | (simp [*]; done), by repeat (first | exact Drawn0.refl _ | apply Drawn0.step)⟩
                                      · rw [if_neg c31] at H
                                        have c31b0 : decide (0 < a1) = false := decide_eq_false c31
                                        clear c31
                                        by_cases c32 : t115 < (wrap64 (-a1))
                                        · rw [if_pos c32] at H
                                          have c32b0 : decide (t115 < (wrap64 (-a1))) = true := decide_eq_true c32
                                          clear c32
                                          obtain rfl := Option.some.inj H
                                          go_wp2_with (first | ((with_reducible refine gate_callee (f := 22) rfl ?_); refine goesL_ (some 98) rfl rfl Try.func22 (by kernel_rfl) rfl #[.int .i64 a0, .int .i64 a1] rfl (by (try simp only [List.map_toArray, List.map_cons, List.map_nil]); first | done | rfl | (simp only [List.length_drop, List.length_take]; rfl)) ?_; (with_reducible refine (num_Div.calls kj21 a0 a1 t114 t115 true _ A26.out).mono ?_); rintro e w' ⟨rfl, ⟨nd, rfl⟩⟩; refine ⟨_, rfl, ?_⟩))
                                          go_ret
                                          exact ⟨by first | rfl | (simp; done) | (simp [*]; done), by repeat (first | exact Drawn0.refl _ | apply Drawn0.step)⟩
                                        · rw [if_neg c32] at H
                                          have c32b0 : decide (t115 < (wrap64 (-a1))) = false := decide_eq_false c32
                                          clear c32
                                          by_cases c33 : a1 = (-9223372036854775808)
                                          · rw [if_pos c33] at H
                                            have c33b0 : (a1 == (-9223372036854775808)) = true := beq_iff_eq.mpr c33
                                            have c33b1 : (a1 != (-9223372036854775808)) = false := bne_eq_false_iff_eq.mpr c33
                                            clear c33
                                            obtain rfl := Option.some.inj H
                                            go_wp2_with (first | ((with_reducible refine gate_callee (f := 22) rfl ?_); refine goesL_ (some 98) rfl rfl Try.func22 (by kernel_rfl) rfl #[.int .i64 a0, .int .i64 a1] rfl (by (try simp only [List.map_toArray, List.map_cons, List.map_nil]); first | done | rfl | (simp only [List.length_drop, List.length_take]; rfl)) ?_; (with_reducible refine (num_Div.calls kj21 a0 a1 t114 t115 true _ A26.out).mono ?_); rintro e w' ⟨rfl, ⟨nd, rfl⟩⟩; refine ⟨_, rfl, ?_⟩))
                                            go_ret
                                            exact ⟨by first | rfl | (simp; done) | (simp [*]; done), by repeat (first | exact Drawn0.refl _ | apply Drawn0.step)⟩
                                          · rw [if_neg c33] at H
                                            have c33b0 : (a1 == (-9223372036854775808)) = false := beq_eq_false_iff_ne.mpr c33
                                            have c33b1 : (a1 != (-9223372036854775808)) = true := bne_iff_ne.mpr c33
                                            obtain rfl := Option.some.inj H
                                            go_wp2_with (first | ((with_reducible refine gate_callee (f := 22) rfl ?_); refine goesL_ (some 98) rfl rfl Try.func22 (by kernel_rfl) rfl #[.int .i64 a0, .int .i64 a1] rfl (by (try simp only [List.map_toArray, List.map_cons, List.map_nil]); first | done | rfl | (simp only [List.length_drop, List.length_take]; rfl)) ?_; (with_reducible refine (num_Div.calls kj21 a0 a1 t114 t115 true _ A26.out).mono ?_); rintro e w' ⟨rfl, ⟨nd, rfl⟩⟩; refine ⟨_, rfl, ?_⟩))
                                            go_ret
                                            exact ⟨by first | rfl | (simp; done) | (simp [*]; done), by repeat (first | exact Drawn0.refl _ | apply Drawn0.step)⟩
                                    · rw [if_neg c30] at H
                                      have c30b0 : decide (a1 < 0) = false := decide_eq_false c30
                                      clear c30
                                      by_cases c34 : t115 < a1
                                      · rw [if_pos c34] at H
                                        have c34b0 : decide (t115 < a1) = true := decide_eq_true c34
                                        clear c34
                                        by_cases c35 : a1 > 0
                                        · rw [if_pos c35] at H
                                          have c35b0 : decide (0 < a1) = true := decide_eq_true c35
                                          clear c35
                                          obtain rfl := Option.some.inj H
                                          go_wp2_with (first | ((with_reducible refine gate_callee (f := 22) rfl ?_); refine goesL_ (some 98) rfl rfl Try.func22 (by kernel_rfl) rfl #[.int .i64 a0, .int .i64 a1] rfl (by (try simp only [List.map_toArray, List.map_cons, List.map_nil]); first | done | rfl | (simp only [List.length_drop, List.length_take]; rfl)) ?_; (with_reducible refine (num_Div.calls kj21 a0 a1 t114 t115 true _ A26.out).mono ?_); rintro e w' ⟨rfl, ⟨nd, rfl⟩⟩; refine ⟨_, rfl, ?_⟩))
                                          go_ret
                                          exact ⟨by first | rfl | (simp; done) | (simp [*]; done), by repeat (first | exact Drawn0.refl _ | apply Drawn0.step)⟩
                                        · rw [if_neg c35] at H
                                          have c35b0 : decide (0 < a1) = false := decide_eq_false c35
                                          clear c35
                                          by_cases c36 : t115 < (wrap64 (-a1))
                                          · rw [if_pos c36] at H
                                            have c36b0 : decide (t115 < (wrap64 (-a1))) = true := decide_eq_true c36
                                            clear c36
                                            obtain rfl := Option.some.inj H
                                            go_wp2_with (first | ((with_reducible refine gate_callee (f := 22) rfl ?_); refine goesL_ (some 98) rfl rfl Try.func22 (by kernel_rfl) rfl #[.int .i64 a0, .int .i64 a1] rfl (by (try simp only [List.map_toArray, List.map_cons, List.map_nil]); first | done | rfl | (simp only [List.length_drop, List.length_take]; rfl)) ?_; (with_reducible refine (num_Div.calls kj21 a0 a1 t114 t115 true _ A26.out).mono ?_); rintro e w' ⟨rfl, ⟨nd, rfl⟩⟩; refine ⟨_, rfl, ?_⟩))
                                            go_ret
                                            exact ⟨by first | rfl | (simp; done) | (simp [*]; done), by repeat (first | exact Drawn0.refl _ | apply Drawn0.step)⟩
                                          · rw [if_neg c36] at H
                                            have c36b0 : decide (t115 < (wrap64 (-a1))) = false := decide_eq_false c36
                                            clear c36
                                            by_cases c37 : a1 = (-9223372036854775808)
                                            · rw [if_pos c37] at H
                                              have c37b0 : (a1 == (-9223372036854775808)) = true := beq_iff_eq.mpr c37
                                              have c37b1 : (a1 != (-9223372036854775808)) = false := bne_eq_false_iff_eq.mpr c37
                                              clear c37
                                              obtain rfl := Option.some.inj H
                                              go_wp2_with (first | ((with_reducible refine gate_callee (f := 22) rfl ?_); refine goesL_ (some 98) rfl rfl Try.func22 (by kernel_rfl) rfl #[.int .i64 a0, .int .i64 a1] rfl (by (try simp only [List.map_toArray, List.map_cons, List.map_nil]); first | done | rfl | (simp only [List.length_drop, List.length_take]; rfl)) ?_; (with_reducible refine (num_Div.calls kj21 a0 a1 t114 t115 true _ A26.out).mono ?_); rintro e w' ⟨rfl, ⟨nd, rfl⟩⟩; refine ⟨_, rfl, ?_⟩))
                                              go_ret
                                              exact ⟨by first | rfl | (simp; done) | (simp [*]; done), by repeat (first | exact Drawn0.refl _ | apply Drawn0.step)⟩
                                            · rw [if_neg c37] at H
                                              have c37b0 : (a1 == (-9223372036854775808)) = false := beq_eq_false_iff_ne.mpr c37
                                              have c37b1 : (a1 != (-9223372036854775808)) = true := bne_iff_ne.mpr c37
                                              obtain rfl := Option.some.inj H
                                              go_wp2_with (first | ((with_reducible refine gate_callee (f := 22) rfl ?_); refine goesL_ (some 98) rfl rfl Try.func22 (by kernel_rfl) rfl #[.int .i64 a0, .int .i64 a1] rfl (by (try simp only [List.map_toArray, List.map_cons, List.map_nil]); first | done | rfl | (simp only [List.length_drop, List.length_take]; rfl)) ?_; (with_reducible refine (num_Div.calls kj21 a0 a1 t114 t115 true _ A26.out).mono ?_); rintro e w' ⟨rfl, ⟨nd, rfl⟩⟩; refine ⟨_, rfl, ?_⟩))
                                              go_ret
                                              exact ⟨by first | rfl | (simp; done) | (simp [*]; done), by repeat (first | exact Drawn0.refl _ | apply Drawn0.step)⟩
                                      · rw [if_neg c34] at H
                                        have c34b0 : decide (t115 < a1) = false := decide_eq_false c34
                                        clear c34
                                        obtain rfl := Option.some.inj H
                                        go_wp2_with (first | ((with_reducible refine gate_callee (f := 22) rfl ?_); refine goesL_ (some 98) rfl rfl Try.func22 (by kernel_rfl) rfl #[.int .i64 a0, .int .i64 a1] rfl (by (try simp only [List.map_toArray, List.map_cons, List.map_nil]); first | done | rfl | (simp only [List.length_drop, List.length_take]; rfl)) ?_; (with_reducible refine (num_Div.calls kj21 a0 a1 t114 t115 true _ A26.out).mono ?_); rintro e w' ⟨rfl, ⟨nd, rfl⟩⟩; refine ⟨_, rfl, ?_⟩))
                                        go_ret
                                        exact ⟨by first | rfl | (simp; done) | (simp [*]; done), by repeat (first | exact Drawn0.refl _ | apply Drawn0.step)⟩
                                  · rw [if_neg c29] at H
                                    have c29b0 : decide (0 ≤ t115) = false := decide_eq_false c29
                                    clear c29
                                    obtain rfl := Option.some.inj H
                                    go_wp2_with (first | ((with_reducible refine gate_callee (f := 22) rfl ?_); refine goesL_ (some 98) rfl rfl Try.func22 (by kernel_rfl) rfl #[.int .i64 a0, .int .i64 a1] rfl (by (try simp only [List.map_toArray, List.map_cons, List.map_nil]); first | done | rfl | (simp only [List.length_drop, List.length_take]; rfl)) ?_; (with_reducible refine (num_Div.calls kj21 a0 a1 t114 t115 true _ A26.out).mono ?_); rintro e w' ⟨rfl, ⟨nd, rfl⟩⟩; refine ⟨_, rfl, ?_⟩))
                                    go_ret
                                    exact ⟨by first | rfl | (simp; done) | (simp [*]; done), by repeat (first | exact Drawn0.refl _ | apply Drawn0.step)⟩
                              · replace c27 := Bool.eq_false_iff.mpr c27
                                subst c27
                                have H1 : (if a1 = 0 then (some true) else (if a1 = (-1) then (some (a0 == (-9223372036854775808))) else (some false))) = some r := by rw [if_neg (show ¬ (false = true) by decide)] at H; exact H
                                clear H
                                have H := H1
                                clear H1
                                by_cases c38 : a1 = 0
                                · rw [if_pos c38] at H
                                  have c38b0 : (a1 == 0) = true := beq_iff_eq.mpr c38
                                  have c38b1 : (a1 != 0) = false := bne_eq_false_iff_eq.mpr c38
                                  clear c38
                                  obtain rfl := Option.some.inj H
                                  go_wp2_with (first | ((with_reducible refine gate_callee (f := 22) rfl ?_); refine goesL_ (some 98) rfl rfl Try.func22 (by kernel_rfl) rfl #[.int .i64 a0, .int .i64 a1] rfl (by (try simp only [List.map_toArray, List.map_cons, List.map_nil]); first | done | rfl | (simp only [List.length_drop, List.length_take]; rfl)) ?_; (with_reducible refine (num_Div.calls kj21 a0 a1 t114 t115 false _ A26.out).mono ?_); rintro e w' ⟨rfl, ⟨nd, rfl⟩⟩; refine ⟨_, rfl, ?_⟩))
                                  go_ret
                                  exact ⟨by first | rfl | (simp; done) | (simp [*]; done), by repeat (first | exact Drawn0.refl _ | apply Drawn0.step)⟩
                                · rw [if_neg c38] at H
                                  have c38b0 : (a1 == 0) = false := beq_eq_false_iff_ne.mpr c38
                                  have c38b1 : (a1 != 0) = true := bne_iff_ne.mpr c38
                                  by_cases c39 : a1 = (-1)
                                  · rw [if_pos c39] at H
                                    have c39b0 : (a1 == (-1)) = true := beq_iff_eq.mpr c39
                                    have c39b1 : (a1 != (-1)) = false := bne_eq_false_iff_eq.mpr c39
                                    clear c39
                                    obtain rfl := Option.some.inj H
                                    go_wp2_with (first | ((with_reducible refine gate_callee (f := 22) rfl ?_); refine goesL_ (some 98) rfl rfl Try.func22 (by kernel_rfl) rfl #[.int .i64 a0, .int .i64 a1] rfl (by (try simp only [List.map_toArray, List.map_cons, List.map_nil]); first | done | rfl | (simp only [List.length_drop, List.length_take]; rfl)) ?_; (with_reducible refine (num_Div.calls kj21 a0 a1 t114 t115 false _ A26.out).mono ?_); rintro e w' ⟨rfl, ⟨nd, rfl⟩⟩; refine ⟨_, rfl, ?_⟩))
                                    go_ret
                                    exact ⟨by first | rfl | (simp; done) | (simp [*]; done), by repeat (first | exact Drawn0.refl _ | apply Drawn0.step)⟩
                                  · rw [if_neg c39] at H
                                    have c39b0 : (a1 == (-1)) = false := beq_eq_false_iff_ne.mpr c39
                                    have c39b1 : (a1 != (-1)) = true := bne_iff_ne.mpr c39
                                    obtain rfl := Option.some.inj H
                                    go_wp2_with (first | ((with_reducible refine gate_callee (f := 22) rfl ?_); refine goesL_ (some 98) rfl rfl Try.func22 (by kernel_rfl) rfl #[.int .i64 a0, .int .i64 a1] rfl (by (try simp only [List.map_toArray, List.map_cons, List.map_nil]); first | done | rfl | (simp only [List.length_drop, List.length_take]; rfl)) ?_; (with_reducible refine (num_Div.calls kj21 a0 a1 t114 t115 false _ A26.out).mono ?_); rintro e w' ⟨rfl, ⟨nd, rfl⟩⟩; refine ⟨_, rfl, ?_⟩))
                                    go_ret
                                    exact ⟨by first | rfl | (simp; done) | (simp [*]; done), by repeat (first | exact Drawn0.refl _ | apply Drawn0.step)⟩
                      · replace c20 := Bool.eq_false_iff.mpr c20
                        subst c20
                        have H1 : ((num_Div.f kj17 a0 a1).bind fun bt117 => (if bt117.2.2 = true then (if a1 = 0 then (some false) else (if bt117.2.1 ≥ 0 then (if a1 < 0 then (if a1 > 0 then (some ((wrap64 ((wrap64 (bt117.1 * a1)) + bt117.2.1)) == a0)) else (if bt117.2.1 < (wrap64 (-a1)) then (some ((wrap64 ((wrap64 (bt117.1 * a1)) + bt117.2.1)) == a0)) else (if a1 = (-9223372036854775808) then (some ((wrap64 ((wrap64 (bt117.1 * a1)) + bt117.2.1)) == a0)) else (some false)))) else (if bt117.2.1 < a1 then (if a1 > 0 then (some ((wrap64 ((wrap64 (bt117.1 * a1)) + bt117.2.1)) == a0)) else (if bt117.2.1 < (wrap64 (-a1)) then (some ((wrap64 ((wrap64 (bt117.1 * a1)) + bt117.2.1)) == a0)) else (if a1 = (-9223372036854775808) then (some ((wrap64 ((wrap64 (bt117.1 * a1)) + bt117.2.1)) == a0)) else (some false)))) else (some false))) else (some false))) else (if a1 = 0 then (some true) else (if a1 = (-1) then (some (a0 == (-9223372036854775808))) else (some false))))) = some r := by rw [if_neg (show ¬ (false = true) by decide)] at H; exact H
                        clear H
                        have H := H1
                        clear H1
                        replace H := Option.bind_eq_some_iff.mp H
                        obtain ⟨⟨t117, t118, t119⟩, A400, H⟩ := H
                        replace H : (if t119 = true then (if a1 = 0 then (some false) else (if t118 ≥ 0 then (if a1 < 0 then (if a1 > 0 then (some ((wrap64 ((wrap64 (t117 * a1)) + t118)) == a0)) else (if t118 < (wrap64 (-a1)) then (some ((wrap64 ((wrap64 (t117 * a1)) + t118)) == a0)) else (if a1 = (-9223372036854775808) then (some ((wrap64 ((wrap64 (t117 * a1)) + t118)) == a0)) else (some false)))) else (if t118 < a1 then (if a1 > 0 then (some ((wrap64 ((wrap64 (t117 * a1)) + t118)) == a0)) else (if t118 < (wrap64 (-a1)) then (some ((wrap64 ((wrap64 (t117 * a1)) + t118)) == a0)) else (if a1 = (-9223372036854775808) then (some ((wrap64 ((wrap64 (t117 * a1)) + t118)) == a0)) else (some false)))) else (some false))) else (some false))) else (if a1 = 0 then (some true) else (if a1 = (-1) then (some (a0 == (-9223372036854775808))) else (some false)))) = some r := H
                        have A40 := Aside0.mk A400
                        clear A400
                        by_cases c41 : t119 = true
                        · subst c41
                          have H1 : (if a1 = 0 then (some false) else (if t118 ≥ 0 then (if a1 < 0 then (if a1 > 0 then (some ((wrap64 ((wrap64 (t117 * a1)) + t118)) == a0)) else (if t118 < (wrap64 (-a1)) then (some ((wrap64 ((wrap64 (t117 * a1)) + t118)) == a0)) else (if a1 = (-9223372036854775808) then (some ((wrap64 ((wrap64 (t117 * a1)) + t118)) == a0)) else (some false)))) else (if t118 < a1 then (if a1 > 0 then (some ((wrap64 ((wrap64 (t117 * a1)) + t118)) == a0)) else (if t118 < (wrap64 (-a1)) then (some ((wrap64 ((wrap64 (t117 * a1)) + t118)) == a0)) else (if a1 = (-9223372036854775808) then (some ((wrap64 ((wrap64 (t117 * a1)) + t118)) == a0)) else (some false)))) else (some false))) else (some false))) = some r := by rw [if_pos rfl] at H; exact H
                          clear H
                          have H := H1
                          clear H1
                          by_cases c42 : a1 = 0
                          · rw [if_pos c42] at H
                            have c42b0 : (a1 == 0) = true := beq_iff_eq.mpr c42
                            have c42b1 : (a1 != 0) = false := bne_eq_false_iff_eq.mpr c42
                            clear c42
                            obtain rfl := Option.some.inj H
                            go_wp2_with (first | ((with_reducible refine gate_callee (f := 22) rfl ?_); refine goesL_ (some 98) rfl rfl Try.func22 (by kernel_rfl) rfl #[.int .i64 a0, .int .i64 a1] rfl (by (try simp only [List.map_toArray, List.map_cons, List.map_nil]); first | done | rfl | (simp only [List.length_drop, List.length_take]; rfl)) ?_; (with_reducible refine (num_Div.calls kj17 a0 a1 t117 t118 true _ A40.out).mono ?_); rintro e w' ⟨rfl, ⟨nd, rfl⟩⟩; refine ⟨_, rfl, ?_⟩))
                            go_ret
                            exact ⟨by first | rfl | (simp; done) | (simp [*]; done), by repeat (first | exact Drawn0.refl _ | apply Drawn0.step)⟩
                          · rw [if_neg c42] at H
                            have c42b0 : (a1 == 0) = false := beq_eq_false_iff_ne.mpr c42
                            have c42b1 : (a1 != 0) = true := bne_iff_ne.mpr c42
                            by_cases c43 : t118 ≥ 0
                            · rw [if_pos c43] at H
                              have c43b0 : decide (0 ≤ t118) = true := decide_eq_true c43
                              clear c43
                              by_cases c44 : a1 < 0
                              · rw [if_pos c44] at H
                                have c44b0 : decide (a1 < 0) = true := decide_eq_true c44
                                clear c44
                                by_cases c45 : a1 > 0
                                · rw [if_pos c45] at H
                                  have c45b0 : decide (0 < a1) = true := decide_eq_true c45
                                  clear c45
                                  obtain rfl := Option.some.inj H
                                  go_wp2_with (first | ((with_reducible refine gate_callee (f := 22) rfl ?_); refine goesL_ (some 98) rfl rfl Try.func22 (by kernel_rfl) rfl #[.int .i64 a0, .int .i64 a1] rfl (by (try simp only [List.map_toArray, List.map_cons, List.map_nil]); first | done | rfl | (simp only [List.length_drop, List.length_take]; rfl)) ?_; (with_reducible refine (num_Div.calls kj17 a0 a1 t117 t118 true _ A40.out).mono ?_); rintro e w' ⟨rfl, ⟨nd, rfl⟩⟩; refine ⟨_, rfl, ?_⟩))
                                  go_ret
                                  exact ⟨by first | rfl | (simp; done) | (simp [*]; done), by repeat (first | exact Drawn0.refl _ | apply Drawn0.step)⟩
                                · rw [if_neg c45] at H
                                  have c45b0 : decide (0 < a1) = false := decide_eq_false c45
                                  clear c45
                                  by_cases c46 : t118 < (wrap64 (-a1))
                                  · rw [if_pos c46] at H
                                    have c46b0 : decide (t118 < (wrap64 (-a1))) = true := decide_eq_true c46
                                    clear c46
                                    obtain rfl := Option.some.inj H
                                    go_wp2_with (first | ((with_reducible refine gate_callee (f := 22) rfl ?_); refine goesL_ (some 98) rfl rfl Try.func22 (by kernel_rfl) rfl #[.int .i64 a0, .int .i64 a1] rfl (by (try simp only [List.map_toArray, List.map_cons, List.map_nil]); first | done | rfl | (simp only [List.length_drop, List.length_take]; rfl)) ?_; (with_reducible refine (num_Div.calls kj17 a0 a1 t117 t118 true _ A40.out).mono ?_); rintro e w' ⟨rfl, ⟨nd, rfl⟩⟩; refine ⟨_, rfl, ?_⟩))
                                    go_ret
                                    exact ⟨by first | rfl | (simp; done) | (simp [*]; done), by repeat (first | exact Drawn0.refl _ | apply Drawn0.step)⟩
                                  · rw [if_neg c46] at H
                                    have c46b0 : decide (t118 < (wrap64 (-a1))) = false := decide_eq_false c46
                                    clear c46
                                    by_cases c47 : a1 = (-9223372036854775808)
                                    · rw [if_pos c47] at H
                                      have c47b0 : (a1 == (-9223372036854775808)) = true := beq_iff_eq.mpr c47
                                      have c47b1 : (a1 != (-9223372036854775808)) = false := bne_eq_false_iff_eq.mpr c47
                                      clear c47
                                      obtain rfl := Option.some.inj H
                                      go_wp2_with (first | ((with_reducible refine gate_callee (f := 22) rfl ?_); refine goesL_ (some 98) rfl rfl Try.func22 (by kernel_rfl) rfl #[.int .i64 a0, .int .i64 a1] rfl (by (try simp only [List.map_toArray, List.map_cons, List.map_nil]); first | done | rfl | (simp only [List.length_drop, List.length_take]; rfl)) ?_; (with_reducible refine (num_Div.calls kj17 a0 a1 t117 t118 true _ A40.out).mono ?_); rintro e w' ⟨rfl, ⟨nd, rfl⟩⟩; refine ⟨_, rfl, ?_⟩))
                                      go_ret
                                      exact ⟨by first | rfl | (simp; done) | (simp [*]; done), by repeat (first | exact Drawn0.refl _ | apply Drawn0.step)⟩
                                    · rw [if_neg c47] at H
                                      have c47b0 : (a1 == (-9223372036854775808)) = false := beq_eq_false_iff_ne.mpr c47
                                      have c47b1 : (a1 != (-9223372036854775808)) = true := bne_iff_ne.mpr c47
                                      obtain rfl := Option.some.inj H
                                      go_wp2_with (first | ((with_reducible refine gate_callee (f := 22) rfl ?_); refine goesL_ (some 98) rfl rfl Try.func22 (by kernel_rfl) rfl #[.int .i64 a0, .int .i64 a1] rfl (by (try simp only [List.map_toArray, List.map_cons, List.map_nil]); first | done | rfl | (simp only [List.length_drop, List.length_take]; rfl)) ?_; (with_reducible refine (num_Div.calls kj17 a0 a1 t117 t118 true _ A40.out).mono ?_); rintro e w' ⟨rfl, ⟨nd, rfl⟩⟩; refine ⟨_, rfl, ?_⟩))
                                      go_ret
                                      exact ⟨by first | rfl | (simp; done) | (simp [*]; done), by repeat (first | exact Drawn0.refl _ | apply Drawn0.step)⟩
                              · rw [if_neg c44] at H
                                have c44b0 : decide (a1 < 0) = false := decide_eq_false c44
                                clear c44
                                by_cases c48 : t118 < a1
                                · rw [if_pos c48] at H
                                  have c48b0 : decide (t118 < a1) = true := decide_eq_true c48
                                  clear c48
                                  by_cases c49 : a1 > 0
                                  · rw [if_pos c49] at H
                                    have c49b0 : decide (0 < a1) = true := decide_eq_true c49
                                    clear c49
                                    obtain rfl := Option.some.inj H
                                    go_wp2_with (first | ((with_reducible refine gate_callee (f := 22) rfl ?_); refine goesL_ (some 98) rfl rfl Try.func22 (by kernel_rfl) rfl #[.int .i64 a0, .int .i64 a1] rfl (by (try simp only [List.map_toArray, List.map_cons, List.map_nil]); first | done | rfl | (simp only [List.length_drop, List.length_take]; rfl)) ?_; (with_reducible refine (num_Div.calls kj17 a0 a1 t117 t118 true _ A40.out).mono ?_); rintro e w' ⟨rfl, ⟨nd, rfl⟩⟩; refine ⟨_, rfl, ?_⟩))
                                    go_ret
                                    exact ⟨by first | rfl | (simp; done) | (simp [*]; done), by repeat (first | exact Drawn0.refl _ | apply Drawn0.step)⟩
                                  · rw [if_neg c49] at H
                                    have c49b0 : decide (0 < a1) = false := decide_eq_false c49
                                    clear c49
                                    by_cases c50 : t118 < (wrap64 (-a1))
                                    · rw [if_pos c50] at H
                                      have c50b0 : decide (t118 < (wrap64 (-a1))) = true := decide_eq_true c50
                                      clear c50
                                      obtain rfl := Option.some.inj H
                                      go_wp2_with (first | ((with_reducible refine gate_callee (f := 22) rfl ?_); refine goesL_ (some 98) rfl rfl Try.func22 (by kernel_rfl) rfl #[.int .i64 a0, .int .i64 a1] rfl (by (try simp only [List.map_toArray, List.map_cons, List.map_nil]); first | done | rfl | (simp only [List.length_drop, List.length_take]; rfl)) ?_; (with_reducible refine (num_Div.calls kj17 a0 a1 t117 t118 true _ A40.out).mono ?_); rintro e w' ⟨rfl, ⟨nd, rfl⟩⟩; refine ⟨_, rfl, ?_⟩))
                                      go_ret
                                      exact ⟨by first | rfl | (simp; done) | (simp [*]; done), by repeat (first | exact Drawn0.refl _ | apply Drawn0.step)⟩
                                    · rw [if_neg c50] at H
                                      have c50b0 : decide (t118 < (wrap64 (-a1))) = false := decide_eq_false c50
                                      clear c50
                                      by_cases c51 : a1 = (-9223372036854775808)
                                      · rw [if_pos c51] at H
                                        have c51b0 : (a1 == (-9223372036854775808)) = true := beq_iff_eq.mpr c51
                                        have c51b1 : (a1 != (-9223372036854775808)) = false := bne_eq_false_iff_eq.mpr c51
                                        clear c51
                                        obtain rfl := Option.some.inj H
                                        go_wp2_with (first | ((with_reducible refine gate_callee (f := 22) rfl ?_); refine goesL_ (some 98) rfl rfl Try.func22 (by kernel_rfl) rfl #[.int .i64 a0, .int .i64 a1] rfl (by (try simp only [List.map_toArray, List.map_cons, List.map_nil]); first | done | rfl | (simp only [List.length_drop, List.length_take]; rfl)) ?_; (with_reducible refine (num_Div.calls kj17 a0 a1 t117 t118 true _ A40.out).mono ?_); rintro e w' ⟨rfl, ⟨nd, rfl⟩⟩; refine ⟨_, rfl, ?_⟩))
                                        go_ret
                                        exact ⟨by first | rfl | (simp; done) | (simp [*]; done), by repeat (first | exact Drawn0.refl _ | apply Drawn0.step)⟩
                                      · rw [if_neg c51] at H
                                        have c51b0 : (a1 == (-9223372036854775808)) = false := beq_eq_false_iff_ne.mpr c51
                                        have c51b1 : (a1 != (-9223372036854775808)) = true := bne_iff_ne.mpr c51
                                        obtain rfl := Option.some.inj H
                                        go_wp2_with (first | ((with_reducible refine gate_callee (f := 22) rfl ?_); refine goesL_ (some 98) rfl rfl Try.func22 (by kernel_rfl) rfl #[.int .i64 a0, .int .i64 a1] rfl (by (try simp only [List.map_toArray, List.map_cons, List.map_nil]); first | done | rfl | (simp only [List.length_drop, List.length_take]; rfl)) ?_; (with_reducible refine (num_Div.calls kj17 a0 a1 t117 t118 true _ A40.out).mono ?_); rintro e w' ⟨rfl, ⟨nd, rfl⟩⟩; refine ⟨_, rfl, ?_⟩))
                                        go_ret
                                        exact ⟨by first | rfl | (simp; done) | (simp [*]; done), by repeat (first | exact Drawn0.refl _ | apply Drawn0.step)⟩
                                · rw [if_neg c48] at H
                                  have c48b0 : decide (t118 < a1) = false := decide_eq_false c48
                                  clear c48
                                  obtain rfl := Option.some.inj H
                                  go_wp2_with (first | ((with_reducible refine gate_callee (f := 22) rfl ?_); refine goesL_ (some 98) rfl rfl Try.func22 (by kernel_rfl) rfl #[.int .i64 a0, .int .i64 a1] rfl (by (try simp only [List.map_toArray, List.map_cons, List.map_nil]); first | done | rfl | (simp only [List.length_drop, List.length_take]; rfl)) ?_; (with_reducible refine (num_Div.calls kj17 a0 a1 t117 t118 true _ A40.out).mono ?_); rintro e w' ⟨rfl, ⟨nd, rfl⟩⟩; refine ⟨_, rfl, ?_⟩))
                                  go_ret
                                  exact ⟨by first | rfl | (simp; done) | (simp [*]; done), by repeat (first | exact Drawn0.refl _ | apply Drawn0.step)⟩
                            · rw [if_neg c43] at H
                              have c43b0 : decide (0 ≤ t118) = false := decide_eq_false c43
                              clear c43
                              obtain rfl := Option.some.inj H
                              go_wp2_with (first | ((with_reducible refine gate_callee (f := 22) rfl ?_); refine goesL_ (some 98) rfl rfl Try.func22 (by kernel_rfl) rfl #[.int .i64 a0, .int .i64 a1] rfl (by (try simp only [List.map_toArray, List.map_cons, List.map_nil]); first | done | rfl | (simp only [List.length_drop, List.length_take]; rfl)) ?_; (with_reducible refine (num_Div.calls kj17 a0 a1 t117 t118 true _ A40.out).mono ?_); rintro e w' ⟨rfl, ⟨nd, rfl⟩⟩; refine ⟨_, rfl, ?_⟩))
                              go_ret
                              exact ⟨by first | rfl | (simp; done) | (simp [*]; done), by repeat (first | exact Drawn0.refl _ | apply Drawn0.step)⟩
                        · replace c41 := Bool.eq_false_iff.mpr c41
                          subst c41
                          have H1 : (if a1 = 0 then (some true) else (if a1 = (-1) then (some (a0 == (-9223372036854775808))) else (some false))) = some r := by rw [if_neg (show ¬ (false = true) by decide)] at H; exact H
                          clear H
                          have H := H1
                          clear H1
                          by_cases c52 : a1 = 0
                          · rw [if_pos c52] at H
                            have c52b0 : (a1 == 0) = true := beq_iff_eq.mpr c52
                            have c52b1 : (a1 != 0) = false := bne_eq_false_iff_eq.mpr c52
                            clear c52
                            obtain rfl := Option.some.inj H
                            go_wp2_with (first | ((with_reducible refine gate_callee (f := 22) rfl ?_); refine goesL_ (some 98) rfl rfl Try.func22 (by kernel_rfl) rfl #[.int .i64 a0, .int .i64 a1] rfl (by (try simp only [List.map_toArray, List.map_cons, List.map_nil]); first | done | rfl | (simp only [List.length_drop, List.length_take]; rfl)) ?_; (with_reducible refine (num_Div.calls kj17 a0 a1 t117 t118 false _ A40.out).mono ?_); rintro e w' ⟨rfl, ⟨nd, rfl⟩⟩; refine ⟨_, rfl, ?_⟩))
                            go_ret
                            exact ⟨by first | rfl | (simp; done) | (simp [*]; done), by repeat (first | exact Drawn0.refl _ | apply Drawn0.step)⟩
                          · rw [if_neg c52] at H
                            have c52b0 : (a1 == 0) = false := beq_eq_false_iff_ne.mpr c52
                            have c52b1 : (a1 != 0) = true := bne_iff_ne.mpr c52
                            by_cases c53 : a1 = (-1)
                            · rw [if_pos c53] at H
                              have c53b0 : (a1 == (-1)) = true := beq_iff_eq.mpr c53
                              have c53b1 : (a1 != (-1)) = false := bne_eq_false_iff_eq.mpr c53
                              clear c53
                              obtain rfl := Option.some.inj H
                              go_wp2_with (first | ((with_reducible refine gate_callee (f := 22) rfl ?_); refine goesL_ (some 98) rfl rfl Try.func22 (by kernel_rfl) rfl #[.int .i64 a0, .int .i64 a1] rfl (by (try simp only [List.map_toArray, List.map_cons, List.map_nil]); first | done | rfl | (simp only [List.length_drop, List.length_take]; rfl)) ?_; (with_reducible refine (num_Div.calls kj17 a0 a1 t117 t118 false _ A40.out).mono ?_); rintro e w' ⟨rfl, ⟨nd, rfl⟩⟩; refine ⟨_, rfl, ?_⟩))
                              go_ret
                              exact ⟨by first | rfl | (simp; done) | (simp [*]; done), by repeat (first | exact Drawn0.refl _ | apply Drawn0.step)⟩
                            · rw [if_neg c53] at H
                              have c53b0 : (a1 == (-1)) = false := beq_eq_false_iff_ne.mpr c53
                              have c53b1 : (a1 != (-1)) = true := bne_iff_ne.mpr c53
                              obtain rfl := Option.some.inj H
                              go_wp2_with (first | ((with_reducible refine gate_callee (f := 22) rfl ?_); refine goesL_ (some 98) rfl rfl Try.func22 (by kernel_rfl) rfl #[.int .i64 a0, .int .i64 a1] rfl (by (try simp only [List.map_toArray, List.map_cons, List.map_nil]); first | done | rfl | (simp only [List.length_drop, List.length_take]; rfl)) ?_; (with_reducible refine (num_Div.calls kj17 a0 a1 t117 t118 false _ A40.out).mono ?_); rintro e w' ⟨rfl, ⟨nd, rfl⟩⟩; refine ⟨_, rfl, ?_⟩))
                              go_ret
                              exact ⟨by first | rfl | (simp; done) | (simp [*]; done), by repeat (first | exact Drawn0.refl _ | apply Drawn0.step)⟩

/-- THE ONE PURE STATEMENT of bulkheadlaw01_NumDivides: yours. -/
def bulkheadlaw01_NumDivides.Pure : Prop := ∀ (a0 : Int) (a1 : Int), (Lit.int .i64 a0).wf = true → (Lit.int .i64 a1).wf = true → ∃ k, bulkheadlaw01_NumDivides.f k a0 a1 = some true
theorem bulkheadlaw01_NumDivides.walk (P : bulkheadlaw01_NumDivides.Pure) (a0 : Int) (a1 : Int) (w : World) (w0 : (Lit.int .i64 a0).wf = true) (w1 : (Lit.int .i64 a1).wf = true) :
    Calls Try.prog 6 #[.int .i64 a0, .int .i64 a1] w fun e w' => e = .returned (.bool true) ∧ Below w.heap.size w w' := by
  obtain ⟨k, h⟩ := P a0 a1 w0 w1
  refine (bulkheadlaw01_NumDivides.calls k a0 a1 true w h).mono ?_
  rintro e w' ⟨rfl, hd⟩
  exact ⟨rfl, hd.below⟩

end Go.Proofs.Ytceeoifbimlkdaa.PNumDivides
