/- Lean functions for the Go functions of one law, and proofs that the calls come to them: made by a program of this session (wip/tools/plug.py) over the printer of the kit; no conditions. -/
import Derived.Test.YtceeoifbimlkdaaPNumTicksx0
import Derived.Test.YtceeoifbimlkdaaPNumTicksx1
namespace Go.Proofs.Ytceeoifbimlkdaa.PNumTicks
open Go.RowKit Go.Proofs.YtceeoifbimlkdaaW.PrintWords Go.Proofs.YtceeoifbimlkdaaW.PrintLast Go.Proofs.YtceeoifbimlkdaaW.PrintMore
attribute [local go_sem] max2_int min2_int max_two min_two max_three min_three max_four min_four   -- for this text's walks alone
set_option linter.unusedVariables false
set_option linter.unusedSimpArgs false

/-! ### bulkheadlaw01_NumTicks: function 4 -/
mutual
def bulkheadlaw01_NumTicks.j0 : Nat → Int → Int → Int → Int → Int → Int → Bool → Bool → Option (Bool)
  | 0, _, _, _, _, _, _, _, _ => none
  | k + 1, x0, x1, x2, x3, x4, x11, x12, x33 => if x33 = true then ((num_Count.f k x0 x1 x2 x4).bind fun bt105 => (if x12 = true then (some false) else (if x11 = 0 then (if bt105.2 = true then (some false) else (if bt105.1 = 0 then ((num_Later.f k 1 1).bind fun t107 => (some (t107 == 2))) else (some false))) else (some false)))) else (if x12 = true then (if x11 < x2 then (bulkheadlaw01_NumTicks.j1 k x0 x1 x2 x3 x4 x11 x12 true) else (if x11 < x0 then (bulkheadlaw01_NumTicks.j1 k x0 x1 x2 x3 x4 x11 x12 true) else (if x1 = 0 then (none) else (if (Int.tmod (wrap64 (x11 - x0)) x1) = 0 then (if (wrap64 (x11 - x0)) ≥ x1 then (bulkheadlaw01_NumTicks.j1 k x0 x1 x2 x3 x4 x11 x12 (decide ((wrap64 (x11 - x1)) ≥ x2))) else (bulkheadlaw01_NumTicks.j1 k x0 x1 x2 x3 x4 x11 x12 false)) else (bulkheadlaw01_NumTicks.j1 k x0 x1 x2 x3 x4 x11 x12 true))))) else (bulkheadlaw01_NumTicks.j1 k x0 x1 x2 x3 x4 x11 x12 false))
def bulkheadlaw01_NumTicks.j1 : Nat → Int → Int → Int → Int → Int → Int → Bool → Bool → Option (Bool)
  | 0, _, _, _, _, _, _, _, _ => none
  | k + 1, x0, x1, x2, x3, x4, x11, x12, x92 => if x92 = true then (some false) else (if x12 = true then (bulkheadlaw01_NumTicks.j2 k x0 x1 x2 x3 x4 x11 x12 false) else (if x11 = 0 then (bulkheadlaw01_NumTicks.j2 k x0 x1 x2 x3 x4 x11 x12 (decide (x2 ≤ (wrap64 (9223372036854775807 - x1))))) else (bulkheadlaw01_NumTicks.j2 k x0 x1 x2 x3 x4 x11 x12 true)))
def bulkheadlaw01_NumTicks.j2 : Nat → Int → Int → Int → Int → Int → Int → Bool → Bool → Option (Bool)
  | 0, _, _, _, _, _, _, _, _ => none
  | k + 1, x0, x1, x2, x3, x4, x11, x12, x104 => if x104 = true then (some false) else ((num_Count.f k x0 x1 x2 x3).bind fun bt108 => ((num_Count.f k x0 x1 x3 x4).bind fun bt110 => ((num_Count.f k x0 x1 x2 x4).bind fun bt112 => (if bt108.2 = true then (if bt110.2 = true then (if bt112.2 = true then (if bt108.1 < 0 then (bulkheadlaw01_NumTicks.j3 k x0 x1 x2 x4 x11 x12 bt112.1 true) else (if bt110.1 < 0 then (bulkheadlaw01_NumTicks.j3 k x0 x1 x2 x4 x11 x12 bt112.1 true) else (if x2 ≤ x3 then (if x3 ≤ x4 then (bulkheadlaw01_NumTicks.j3 k x0 x1 x2 x4 x11 x12 bt112.1 ((wrap64 (bt108.1 + bt110.1)) != bt112.1)) else (bulkheadlaw01_NumTicks.j3 k x0 x1 x2 x4 x11 x12 bt112.1 false)) else (bulkheadlaw01_NumTicks.j3 k x0 x1 x2 x4 x11 x12 bt112.1 false)))) else (bulkheadlaw01_NumTicks.j3 k x0 x1 x2 x4 x11 x12 bt112.1 true)) else (bulkheadlaw01_NumTicks.j3 k x0 x1 x2 x4 x11 x12 bt112.1 true)) else (bulkheadlaw01_NumTicks.j3 k x0 x1 x2 x4 x11 x12 bt112.1 true)))))
def bulkheadlaw01_NumTicks.j3 : Nat → Int → Int → Int → Int → Int → Bool → Int → Bool → Option (Bool)
  | 0, _, _, _, _, _, _, _, _ => none
  | k + 1, x0, x1, x2, x4, x11, x12, x19, x163 => if x163 = true then (some false) else (if x2 ≥ x4 then (some (x19 == 0)) else (if x12 = true then (if x11 < x4 then (if x19 < 1 then (bulkheadlaw01_NumTicks.j4 k x0 x1 x2 x4 x19 true) else (if x11 ≥ x4 then (bulkheadlaw01_NumTicks.j4 k x0 x1 x2 x4 x19 (x19 != 0)) else (bulkheadlaw01_NumTicks.j4 k x0 x1 x2 x4 x19 false))) else (if x11 ≥ x4 then (bulkheadlaw01_NumTicks.j4 k x0 x1 x2 x4 x19 (x19 != 0)) else (bulkheadlaw01_NumTicks.j4 k x0 x1 x2 x4 x19 false))) else (bulkheadlaw01_NumTicks.j4 k x0 x1 x2 x4 x19 false)))
def bulkheadlaw01_NumTicks.j4 : Nat → Int → Int → Int → Int → Int → Bool → Option (Bool)
  | 0, _, _, _, _, _, _ => none
  | k + 1, x0, x1, x2, x4, x19, x190 => if x190 = true then (some false) else (if (wrap64 (x4 - x2)) = 1 then (if x2 < 0 then (some true) else (if x2 ≥ x0 then (if x1 = 0 then (none) else (some ((x19 == 1) == ((Int.tmod (wrap64 (x2 - x0)) x1) == 0)))) else (some ((x19 == 1) == false)))) else (some true))
end
def bulkheadlaw01_NumTicks.f (k : Nat) (a0 : Int) (a1 : Int) (a2 : Int) (a3 : Int) (a4 : Int) : Option (Bool) := (num_NextAt.f k a0 a1 a2).bind fun bt103 => (if a1 < 1 then (bulkheadlaw01_NumTicks.j0 k a0 a1 a2 a3 a4 bt103.1 bt103.2 true) else (bulkheadlaw01_NumTicks.j0 k a0 a1 a2 a3 a4 bt103.1 bt103.2 (decide (a0 < 0))))
theorem bulkheadlaw01_NumTicks.mono_l : ∀ k, (∀ y0 y1 y2 y3 y4 y5 y6 y7, LeO (bulkheadlaw01_NumTicks.j0 k y0 y1 y2 y3 y4 y5 y6 y7) (bulkheadlaw01_NumTicks.j0 (k + 1) y0 y1 y2 y3 y4 y5 y6 y7)) ∧ (∀ y0 y1 y2 y3 y4 y5 y6 y7, LeO (bulkheadlaw01_NumTicks.j1 k y0 y1 y2 y3 y4 y5 y6 y7) (bulkheadlaw01_NumTicks.j1 (k + 1) y0 y1 y2 y3 y4 y5 y6 y7)) ∧ (∀ y0 y1 y2 y3 y4 y5 y6 y7, LeO (bulkheadlaw01_NumTicks.j2 k y0 y1 y2 y3 y4 y5 y6 y7) (bulkheadlaw01_NumTicks.j2 (k + 1) y0 y1 y2 y3 y4 y5 y6 y7)) ∧ (∀ y0 y1 y2 y3 y4 y5 y6 y7, LeO (bulkheadlaw01_NumTicks.j3 k y0 y1 y2 y3 y4 y5 y6 y7) (bulkheadlaw01_NumTicks.j3 (k + 1) y0 y1 y2 y3 y4 y5 y6 y7)) ∧ (∀ y0 y1 y2 y3 y4 y5, LeO (bulkheadlaw01_NumTicks.j4 k y0 y1 y2 y3 y4 y5) (bulkheadlaw01_NumTicks.j4 (k + 1) y0 y1 y2 y3 y4 y5))
  | 0 => ⟨fun _ _ _ _ _ _ _ _ r h => by simp [bulkheadlaw01_NumTicks.j0] at h, fun _ _ _ _ _ _ _ _ r h => by simp [bulkheadlaw01_NumTicks.j1] at h, fun _ _ _ _ _ _ _ _ r h => by simp [bulkheadlaw01_NumTicks.j2] at h, fun _ _ _ _ _ _ _ _ r h => by simp [bulkheadlaw01_NumTicks.j3] at h, fun _ _ _ _ _ _ r h => by simp [bulkheadlaw01_NumTicks.j4] at h⟩
  | k + 1 => by
    obtain ⟨ih0, ih1, ih2, ih3, ih4⟩ := bulkheadlaw01_NumTicks.mono_l k
    refine ⟨?_, ?_, ?_, ?_, ?_⟩
    · intro y0 y1 y2 y3 y4 y5 y6 y7
      unfold bulkheadlaw01_NumTicks.j0
      repeat' first
      | (with_reducible exact ih0 _ _ _ _ _ _ _ _)
      | (with_reducible exact ih1 _ _ _ _ _ _ _ _)
      | (with_reducible exact ih2 _ _ _ _ _ _ _ _)
      | (with_reducible exact ih3 _ _ _ _ _ _ _ _)
      | (with_reducible exact ih4 _ _ _ _ _ _)
      | (with_reducible exact num_Count.mono _ _ _ _ _)
      | (with_reducible exact num_Later.mono _ _ _)
      | (with_reducible exact num_NextAt.mono _ _ _ _)
      | (with_reducible exact LeO.refl _)
      | (with_reducible exact LeO.none _)
      | (with_reducible refine LeO.ite ?_ ?_)
      | (with_reducible refine LeO.bind ?_ (fun _ => ?_))
      | exact ih0 _ _ _ _ _ _ _ _
      | exact ih1 _ _ _ _ _ _ _ _
      | exact ih2 _ _ _ _ _ _ _ _
      | exact ih3 _ _ _ _ _ _ _ _
      | exact ih4 _ _ _ _ _ _
      | exact num_Count.mono _ _ _ _ _
      | exact num_Later.mono _ _ _
      | exact num_NextAt.mono _ _ _ _
      | exact LeO.none _
      | refine LeO.ite ?_ ?_
      | refine LeO.bind ?_ (fun _ => ?_)
    · intro y0 y1 y2 y3 y4 y5 y6 y7
      unfold bulkheadlaw01_NumTicks.j1
      repeat' first
      | (with_reducible exact ih0 _ _ _ _ _ _ _ _)
      | (with_reducible exact ih1 _ _ _ _ _ _ _ _)
      | (with_reducible exact ih2 _ _ _ _ _ _ _ _)
      | (with_reducible exact ih3 _ _ _ _ _ _ _ _)
      | (with_reducible exact ih4 _ _ _ _ _ _)
      | (with_reducible exact num_Count.mono _ _ _ _ _)
      | (with_reducible exact num_Later.mono _ _ _)
      | (with_reducible exact num_NextAt.mono _ _ _ _)
      | (with_reducible exact LeO.refl _)
      | (with_reducible exact LeO.none _)
      | (with_reducible refine LeO.ite ?_ ?_)
      | (with_reducible refine LeO.bind ?_ (fun _ => ?_))
      | exact ih0 _ _ _ _ _ _ _ _
      | exact ih1 _ _ _ _ _ _ _ _
      | exact ih2 _ _ _ _ _ _ _ _
      | exact ih3 _ _ _ _ _ _ _ _
      | exact ih4 _ _ _ _ _ _
      | exact num_Count.mono _ _ _ _ _
      | exact num_Later.mono _ _ _
      | exact num_NextAt.mono _ _ _ _
      | exact LeO.none _
      | refine LeO.ite ?_ ?_
      | refine LeO.bind ?_ (fun _ => ?_)
    · intro y0 y1 y2 y3 y4 y5 y6 y7
      unfold bulkheadlaw01_NumTicks.j2
      repeat' first
      | (with_reducible exact ih0 _ _ _ _ _ _ _ _)
      | (with_reducible exact ih1 _ _ _ _ _ _ _ _)
      | (with_reducible exact ih2 _ _ _ _ _ _ _ _)
      | (with_reducible exact ih3 _ _ _ _ _ _ _ _)
      | (with_reducible exact ih4 _ _ _ _ _ _)
      | (with_reducible exact num_Count.mono _ _ _ _ _)
      | (with_reducible exact num_Later.mono _ _ _)
      | (with_reducible exact num_NextAt.mono _ _ _ _)
      | (with_reducible exact LeO.refl _)
      | (with_reducible exact LeO.none _)
      | (with_reducible refine LeO.ite ?_ ?_)
      | (with_reducible refine LeO.bind ?_ (fun _ => ?_))
      | exact ih0 _ _ _ _ _ _ _ _
      | exact ih1 _ _ _ _ _ _ _ _
      | exact ih2 _ _ _ _ _ _ _ _
      | exact ih3 _ _ _ _ _ _ _ _
      | exact ih4 _ _ _ _ _ _
      | exact num_Count.mono _ _ _ _ _
      | exact num_Later.mono _ _ _
      | exact num_NextAt.mono _ _ _ _
      | exact LeO.none _
      | refine LeO.ite ?_ ?_
      | refine LeO.bind ?_ (fun _ => ?_)
    · intro y0 y1 y2 y3 y4 y5 y6 y7
      unfold bulkheadlaw01_NumTicks.j3
      repeat' first
      | (with_reducible exact ih0 _ _ _ _ _ _ _ _)
      | (with_reducible exact ih1 _ _ _ _ _ _ _ _)
      | (with_reducible exact ih2 _ _ _ _ _ _ _ _)
      | (with_reducible exact ih3 _ _ _ _ _ _ _ _)
      | (with_reducible exact ih4 _ _ _ _ _ _)
      | (with_reducible exact num_Count.mono _ _ _ _ _)
      | (with_reducible exact num_Later.mono _ _ _)
      | (with_reducible exact num_NextAt.mono _ _ _ _)
      | (with_reducible exact LeO.refl _)
      | (with_reducible exact LeO.none _)
      | (with_reducible refine LeO.ite ?_ ?_)
      | (with_reducible refine LeO.bind ?_ (fun _ => ?_))
      | exact ih0 _ _ _ _ _ _ _ _
      | exact ih1 _ _ _ _ _ _ _ _
      | exact ih2 _ _ _ _ _ _ _ _
      | exact ih3 _ _ _ _ _ _ _ _
      | exact ih4 _ _ _ _ _ _
      | exact num_Count.mono _ _ _ _ _
      | exact num_Later.mono _ _ _
      | exact num_NextAt.mono _ _ _ _
      | exact LeO.none _
      | refine LeO.ite ?_ ?_
      | refine LeO.bind ?_ (fun _ => ?_)
    · intro y0 y1 y2 y3 y4 y5
      unfold bulkheadlaw01_NumTicks.j4
      repeat' first
      | (with_reducible exact ih0 _ _ _ _ _ _ _ _)
      | (with_reducible exact ih1 _ _ _ _ _ _ _ _)
      | (with_reducible exact ih2 _ _ _ _ _ _ _ _)
      | (with_reducible exact ih3 _ _ _ _ _ _ _ _)
      | (with_reducible exact ih4 _ _ _ _ _ _)
      | (with_reducible exact num_Count.mono _ _ _ _ _)
      | (with_reducible exact num_Later.mono _ _ _)
      | (with_reducible exact num_NextAt.mono _ _ _ _)
      | (with_reducible exact LeO.refl _)
      | (with_reducible exact LeO.none _)
      | (with_reducible refine LeO.ite ?_ ?_)
      | (with_reducible refine LeO.bind ?_ (fun _ => ?_))
      | exact ih0 _ _ _ _ _ _ _ _
      | exact ih1 _ _ _ _ _ _ _ _
      | exact ih2 _ _ _ _ _ _ _ _
      | exact ih3 _ _ _ _ _ _ _ _
      | exact ih4 _ _ _ _ _ _
      | exact num_Count.mono _ _ _ _ _
      | exact num_Later.mono _ _ _
      | exact num_NextAt.mono _ _ _ _
      | exact LeO.none _
      | refine LeO.ite ?_ ?_
      | refine LeO.bind ?_ (fun _ => ?_)
theorem bulkheadlaw01_NumTicks.mono : ∀ a0 a1 a2 a3 a4 k, LeO (bulkheadlaw01_NumTicks.f k a0 a1 a2 a3 a4) (bulkheadlaw01_NumTicks.f (k + 1) a0 a1 a2 a3 a4) := by
  intro a0 a1 a2 a3 a4 k
  obtain ⟨ih0, ih1, ih2, ih3, ih4⟩ := bulkheadlaw01_NumTicks.mono_l k
  unfold bulkheadlaw01_NumTicks.f
  repeat' first
      | (with_reducible exact ih0 _ _ _ _ _ _ _ _)
      | (with_reducible exact ih1 _ _ _ _ _ _ _ _)
      | (with_reducible exact ih2 _ _ _ _ _ _ _ _)
      | (with_reducible exact ih3 _ _ _ _ _ _ _ _)
      | (with_reducible exact ih4 _ _ _ _ _ _)
      | (with_reducible exact num_Count.mono _ _ _ _ _)
      | (with_reducible exact num_Later.mono _ _ _)
      | (with_reducible exact num_NextAt.mono _ _ _ _)
      | (with_reducible exact LeO.refl _)
      | (with_reducible exact LeO.none _)
      | (with_reducible refine LeO.ite ?_ ?_)
      | (with_reducible refine LeO.bind ?_ (fun _ => ?_))
      | exact ih0 _ _ _ _ _ _ _ _
      | exact ih1 _ _ _ _ _ _ _ _
      | exact ih2 _ _ _ _ _ _ _ _
      | exact ih3 _ _ _ _ _ _ _ _
      | exact ih4 _ _ _ _ _ _
      | exact num_Count.mono _ _ _ _ _
      | exact num_Later.mono _ _ _
      | exact num_NextAt.mono _ _ _ _
      | exact LeO.none _
      | refine LeO.ite ?_ ?_
      | refine LeO.bind ?_ (fun _ => ?_)
set_option maxHeartbeats 8000000 in
set_option maxRecDepth 100000 in
theorem bulkheadlaw01_NumTicks.calls (k : Nat) (a0 : Int) (a1 : Int) (a2 : Int) (a3 : Int) (a4 : Int) (r : Bool) (w : World) (h : bulkheadlaw01_NumTicks.f k a0 a1 a2 a3 a4 = some r) :
    Calls Try.prog 4 #[.int .i64 a0, .int .i64 a1, .int .i64 a2, .int .i64 a3, .int .i64 a4] w fun e w' => e = .returned (.bool r) ∧ Below w.heap.size w w' := by
  have HB := Aside0.mk (Below.refl w.heap.size w)
  have H : ((num_NextAt.f k a0 a1 a2).bind fun bt103 => (if a1 < 1 then (bulkheadlaw01_NumTicks.j0 k a0 a1 a2 a3 a4 bt103.1 bt103.2 true) else (bulkheadlaw01_NumTicks.j0 k a0 a1 a2 a3 a4 bt103.1 bt103.2 (decide (a0 < 0))))) = some r := h
  clear h
  replace H := Option.bind_eq_some_iff.mp H
  obtain ⟨⟨t103, t104⟩, A60, H⟩ := H
  replace H : (if a1 < 1 then (bulkheadlaw01_NumTicks.j0 k a0 a1 a2 a3 a4 t103 t104 true) else (bulkheadlaw01_NumTicks.j0 k a0 a1 a2 a3 a4 t103 t104 (decide (a0 < 0)))) = some r := H
  have A6 := Aside0.mk A60
  clear A60
  have HC7 := Aside0.mk H
  clear H
  go_enter Try.func4, Try.ntmps4
  go_upto_region 2 with (first | ((with_reducible refine gate_callee (f := 16) rfl ?_); refine goesL_ (some 25) rfl rfl Try.func16 (by kernel_rfl) rfl #[.int .i64 a0, .int .i64 a1, .int .i64 a2] rfl (by (try simp only [List.map_toArray, List.map_cons, List.map_nil]); first | done | rfl | (simp only [List.length_drop, List.length_take]; rfl)) ?_; (with_reducible refine (num_NextAt.calls k a0 a1 a2 t103 t104 _ A6.out).mono ?_); rintro e w8 ⟨rfl, hb⟩; refine ⟨_, rfl, ?_⟩; have n0_ := Aside0.mk (below_step (by repeat (first | (with_reducible first | exact HB.out | apply below_alloc | apply pw_below_drewN | apply below_drew1) | exact HB.out)) hb); clear HB; have HB := n0_; clear n0_; (try clear hb); (try clear hb2); (try clear hk); (try clear hi)))
  (try simp only [Act.put, List.setIfInBounds_toArray, List.set_cons_zero, List.set_cons_succ])
  go_cut [33] (fun v33 wc => ∃ (kq : Nat) (x33_6 : Bool), v33 = .bool x33_6 ∧ Aside0 (bulkheadlaw01_NumTicks.j0 kq a0 a1 a2 a3 a4 t103 t104 x33_6 = some r) ∧ Aside0 (kq ≤ k) ∧ Aside0 (Below w.heap.size w wc))
  case first =>
    have H := HC7.out
    clear HC7
    by_cases c9 : a1 < 1
    · as_aux_lemma =>
      rw [if_pos c9] at H
      have c9b0 : decide (a1 < 1) = true := decide_eq_true c9
      clear c9
      (first | rw [c9b0] | (simp only [i64_w, i32_w]; rw [c9b0]) | skip)
      have H' := Aside0.mk H
      clear H
      go_wp2
      go_meet
      case rel => exact ⟨_, (true), (by first | rfl | (simp; done) | (simp [*]; done)), H', ⟨by first | omega | exact Nat.le_refl _⟩, ⟨by repeat (first | (with_reducible first | exact HB.out | apply below_alloc | apply pw_below_drewN | apply below_drew1) | exact HB.out)⟩⟩
    · as_aux_lemma =>
      rw [if_neg c9] at H
      have c9b0 : decide (a1 < 1) = false := decide_eq_false c9
      clear c9
      (first | rw [c9b0] | (simp only [i64_w, i32_w]; rw [c9b0]) | skip)
      have H' := Aside0.mk H
      clear H
      go_wp2
      go_meet
      case rel => exact ⟨_, (decide (a0 < 0)), (by first | rfl | (simp; done) | (simp [*]; done)), H', ⟨by first | omega | exact Nat.le_refl _⟩, ⟨by repeat (first | (with_reducible first | exact HB.out | apply below_alloc | apply pw_below_drewN | apply below_drew1) | exact HB.out)⟩⟩
  case rest =>
    clear HC7
    try clear c1
    try clear p2
    try clear c4
    try clear c9
    try clear c9b0
    obtain ⟨kq, x33_6, rfl, HA, HJ6, HB⟩ := hcut
    cases kq with
    | zero => exact absurd HA.out (by simp [bulkheadlaw01_NumTicks.j0])
    | succ kj6 =>
      have H := HA.out
      clear HA
      simp only [bulkheadlaw01_NumTicks.j0] at H
      by_cases c10 : x33_6 = true
      · subst c10
        have H1 : ((num_Count.f kj6 a0 a1 a2 a4).bind fun bt105 => (if t104 = true then (some false) else (if t103 = 0 then (if bt105.2 = true then (some false) else (if bt105.1 = 0 then ((num_Later.f kj6 1 1).bind fun t107 => (some (t107 == 2))) else (some false))) else (some false)))) = some r := by rw [if_pos rfl] at H; exact H
        clear H
        have H := H1
        clear H1
        replace H := Option.bind_eq_some_iff.mp H
        obtain ⟨⟨t105, t106⟩, A110, H⟩ := H
        replace H : (if t104 = true then (some false) else (if t103 = 0 then (if t106 = true then (some false) else (if t105 = 0 then ((num_Later.f kj6 1 1).bind fun t107 => (some (t107 == 2))) else (some false))) else (some false))) = some r := H
        have A11 := Aside0.mk A110
        clear A110
        by_cases c12 : t104 = true
        · subst c12
          have H1 : (some false) = some r := by rw [if_pos rfl] at H; exact H
          clear H
          have H := H1
          clear H1
          obtain rfl := Option.some.inj H
          go_wp2_with (first | ((with_reducible refine gate_callee (f := 17) rfl ?_); refine goesL_ (some 39) rfl rfl Try.func17 (by kernel_rfl) rfl #[.int .i64 a0, .int .i64 a1, .int .i64 a2, .int .i64 a4] rfl (by (try simp only [List.map_toArray, List.map_cons, List.map_nil]); first | done | rfl | (simp only [List.length_drop, List.length_take]; rfl)) ?_; (with_reducible refine (num_Count.calls kj6 a0 a1 a2 a4 t105 t106 _ A11.out).mono ?_); rintro e w13 ⟨rfl, hb⟩; refine ⟨_, rfl, ?_⟩; have n0_ := Aside0.mk (below_step (by repeat (first | (with_reducible first | exact HB.out | apply below_alloc | apply pw_below_drewN | apply below_drew1) | exact HB.out)) hb); clear HB; have HB := n0_; clear n0_; (try clear hb); (try clear hb2); (try clear hk); (try clear hi)))
          go_ret
          exact ⟨by first | rfl | (simp [errW_none, errW_some] <;> rfl) | (simp [*, errW_none, errW_some] <;> rfl), by repeat (first | (with_reducible first | exact HB.out | apply below_alloc | apply pw_below_drewN | apply below_drew1) | exact HB.out)⟩
        · replace c12 := Bool.eq_false_iff.mpr c12
          subst c12
          have H1 : (if t103 = 0 then (if t106 = true then (some false) else (if t105 = 0 then ((num_Later.f kj6 1 1).bind fun t107 => (some (t107 == 2))) else (some false))) else (some false)) = some r := by rw [if_neg (show ¬ (false = true) by decide)] at H; exact H
          clear H
          have H := H1
          clear H1
          by_cases c14 : t103 = 0
          · as_aux_lemma =>
            rw [if_pos c14] at H
            have c14b0 : (t103 == 0) = true := beq_iff_eq.mpr c14
            have c14b1 : (t103 != 0) = false := bne_eq_false_iff_eq.mpr c14
            clear c14
            by_cases c15 : t106 = true
            · subst c15
              have H1 : (some false) = some r := by rw [if_pos rfl] at H; exact H
              clear H
              have H := H1
              clear H1
              obtain rfl := Option.some.inj H
              go_wp2_with (first | ((with_reducible refine gate_callee (f := 17) rfl ?_); refine goesL_ (some 39) rfl rfl Try.func17 (by kernel_rfl) rfl #[.int .i64 a0, .int .i64 a1, .int .i64 a2, .int .i64 a4] rfl (by (try simp only [List.map_toArray, List.map_cons, List.map_nil]); first | done | rfl | (simp only [List.length_drop, List.length_take]; rfl)) ?_; (with_reducible refine (num_Count.calls kj6 a0 a1 a2 a4 t105 true _ A11.out).mono ?_); rintro e w16 ⟨rfl, hb⟩; refine ⟨_, rfl, ?_⟩; have n0_ := Aside0.mk (below_step (by repeat (first | (with_reducible first | exact HB.out | apply below_alloc | apply pw_below_drewN | apply below_drew1) | exact HB.out)) hb); clear HB; have HB := n0_; clear n0_; (try clear hb); (try clear hb2); (try clear hk); (try clear hi)))
              go_ret
              exact ⟨by first | rfl | (simp [errW_none, errW_some] <;> rfl) | (simp [*, errW_none, errW_some] <;> rfl), by repeat (first | (with_reducible first | exact HB.out | apply below_alloc | apply pw_below_drewN | apply below_drew1) | exact HB.out)⟩
            · replace c15 := Bool.eq_false_iff.mpr c15
              subst c15
              have H1 : (if t105 = 0 then ((num_Later.f kj6 1 1).bind fun t107 => (some (t107 == 2))) else (some false)) = some r := by rw [if_neg (show ¬ (false = true) by decide)] at H; exact H
              clear H
              have H := H1
              clear H1
              by_cases c17 : t105 = 0
              · as_aux_lemma =>
                rw [if_pos c17] at H
                have c17b0 : (t105 == 0) = true := beq_iff_eq.mpr c17
                have c17b1 : (t105 != 0) = false := bne_eq_false_iff_eq.mpr c17
                clear c17
                replace H := Option.bind_eq_some_iff.mp H
                obtain ⟨t107, A180, H⟩ := H
                replace H : (some (t107 == 2)) = some r := H
                have A18 := Aside0.mk A180
                clear A180
                obtain rfl := Option.some.inj H
                go_wp2_with (first | ((with_reducible refine gate_callee (f := 17) rfl ?_); refine goesL_ (some 39) rfl rfl Try.func17 (by kernel_rfl) rfl #[.int .i64 a0, .int .i64 a1, .int .i64 a2, .int .i64 a4] rfl (by (try simp only [List.map_toArray, List.map_cons, List.map_nil]); first | done | rfl | (simp only [List.length_drop, List.length_take]; rfl)) ?_; (with_reducible refine (num_Count.calls kj6 a0 a1 a2 a4 t105 false _ A11.out).mono ?_); rintro e w19 ⟨rfl, hb⟩; refine ⟨_, rfl, ?_⟩; have n0_ := Aside0.mk (below_step (by repeat (first | (with_reducible first | exact HB.out | apply below_alloc | apply pw_below_drewN | apply below_drew1) | exact HB.out)) hb); clear HB; have HB := n0_; clear n0_; (try clear hb); (try clear hb2); (try clear hk); (try clear hi)) | (go_at_call 14; (with_reducible refine (num_Later.calls kj6 1 1 t107 _ A18.out).mono ?_); rintro e w' ⟨rfl, ⟨nd, rfl⟩⟩))
                go_ret
                exact ⟨by first | rfl | (simp [errW_none, errW_some] <;> rfl) | (simp [*, errW_none, errW_some] <;> rfl), by repeat (first | (with_reducible first | exact HB.out | apply below_alloc | apply pw_below_drewN | apply below_drew1) | exact HB.out)⟩
              · as_aux_lemma =>
                rw [if_neg c17] at H
                have c17b0 : (t105 == 0) = false := beq_eq_false_iff_ne.mpr c17
                have c17b1 : (t105 != 0) = true := bne_iff_ne.mpr c17
                obtain rfl := Option.some.inj H
                go_wp2_with (first | ((with_reducible refine gate_callee (f := 17) rfl ?_); refine goesL_ (some 39) rfl rfl Try.func17 (by kernel_rfl) rfl #[.int .i64 a0, .int .i64 a1, .int .i64 a2, .int .i64 a4] rfl (by (try simp only [List.map_toArray, List.map_cons, List.map_nil]); first | done | rfl | (simp only [List.length_drop, List.length_take]; rfl)) ?_; (with_reducible refine (num_Count.calls kj6 a0 a1 a2 a4 t105 false _ A11.out).mono ?_); rintro e w20 ⟨rfl, hb⟩; refine ⟨_, rfl, ?_⟩; have n0_ := Aside0.mk (below_step (by repeat (first | (with_reducible first | exact HB.out | apply below_alloc | apply pw_below_drewN | apply below_drew1) | exact HB.out)) hb); clear HB; have HB := n0_; clear n0_; (try clear hb); (try clear hb2); (try clear hk); (try clear hi)))
                go_ret
                exact ⟨by first | rfl | (simp [errW_none, errW_some] <;> rfl) | (simp [*, errW_none, errW_some] <;> rfl), by repeat (first | (with_reducible first | exact HB.out | apply below_alloc | apply pw_below_drewN | apply below_drew1) | exact HB.out)⟩
          · as_aux_lemma =>
            rw [if_neg c14] at H
            have c14b0 : (t103 == 0) = false := beq_eq_false_iff_ne.mpr c14
            have c14b1 : (t103 != 0) = true := bne_iff_ne.mpr c14
            obtain rfl := Option.some.inj H
            go_wp2_with (first | ((with_reducible refine gate_callee (f := 17) rfl ?_); refine goesL_ (some 39) rfl rfl Try.func17 (by kernel_rfl) rfl #[.int .i64 a0, .int .i64 a1, .int .i64 a2, .int .i64 a4] rfl (by (try simp only [List.map_toArray, List.map_cons, List.map_nil]); first | done | rfl | (simp only [List.length_drop, List.length_take]; rfl)) ?_; (with_reducible refine (num_Count.calls kj6 a0 a1 a2 a4 t105 t106 _ A11.out).mono ?_); rintro e w21 ⟨rfl, hb⟩; refine ⟨_, rfl, ?_⟩; have n0_ := Aside0.mk (below_step (by repeat (first | (with_reducible first | exact HB.out | apply below_alloc | apply pw_below_drewN | apply below_drew1) | exact HB.out)) hb); clear HB; have HB := n0_; clear n0_; (try clear hb); (try clear hb2); (try clear hk); (try clear hi)))
            go_ret
            exact ⟨by first | rfl | (simp [errW_none, errW_some] <;> rfl) | (simp [*, errW_none, errW_some] <;> rfl), by repeat (first | (with_reducible first | exact HB.out | apply below_alloc | apply pw_below_drewN | apply below_drew1) | exact HB.out)⟩
      · replace c10 := Bool.eq_false_iff.mpr c10
        subst c10
        have H1 : (if t104 = true then (if t103 < a2 then (bulkheadlaw01_NumTicks.j1 kj6 a0 a1 a2 a3 a4 t103 t104 true) else (if t103 < a0 then (bulkheadlaw01_NumTicks.j1 kj6 a0 a1 a2 a3 a4 t103 t104 true) else (if a1 = 0 then (none) else (if (Int.tmod (wrap64 (t103 - a0)) a1) = 0 then (if (wrap64 (t103 - a0)) ≥ a1 then (bulkheadlaw01_NumTicks.j1 kj6 a0 a1 a2 a3 a4 t103 t104 (decide ((wrap64 (t103 - a1)) ≥ a2))) else (bulkheadlaw01_NumTicks.j1 kj6 a0 a1 a2 a3 a4 t103 t104 false)) else (bulkheadlaw01_NumTicks.j1 kj6 a0 a1 a2 a3 a4 t103 t104 true))))) else (bulkheadlaw01_NumTicks.j1 kj6 a0 a1 a2 a3 a4 t103 t104 false)) = some r := by rw [if_neg (show ¬ (false = true) by decide)] at H; exact H
        clear H
        have H := H1
        clear H1
        have HC22 := Aside0.mk H
        clear H
        go_upto_region 5 with (fail)
        go_cut [92] (fun v92 wc => ∃ (kq : Nat) (x92_21 : Bool), v92 = .bool x92_21 ∧ Aside0 (bulkheadlaw01_NumTicks.j1 kq a0 a1 a2 a3 a4 t103 t104 x92_21 = some r) ∧ Aside0 (kq ≤ kj6) ∧ Aside0 (Below w.heap.size w wc))
        case first =>
          have H := HC22.out
          clear HC22
          by_cases c23 : t104 = true
          · subst c23
            have H1 : (if t103 < a2 then (bulkheadlaw01_NumTicks.j1 kj6 a0 a1 a2 a3 a4 t103 true true) else (if t103 < a0 then (bulkheadlaw01_NumTicks.j1 kj6 a0 a1 a2 a3 a4 t103 true true) else (if a1 = 0 then (none) else (if (Int.tmod (wrap64 (t103 - a0)) a1) = 0 then (if (wrap64 (t103 - a0)) ≥ a1 then (bulkheadlaw01_NumTicks.j1 kj6 a0 a1 a2 a3 a4 t103 true (decide ((wrap64 (t103 - a1)) ≥ a2))) else (bulkheadlaw01_NumTicks.j1 kj6 a0 a1 a2 a3 a4 t103 true false)) else (bulkheadlaw01_NumTicks.j1 kj6 a0 a1 a2 a3 a4 t103 true true))))) = some r := by rw [if_pos rfl] at H; exact H
            clear H
            have H := H1
            clear H1
            by_cases c24 : t103 < a2
            · as_aux_lemma =>
              rw [if_pos c24] at H
              have c24b0 : decide (t103 < a2) = true := decide_eq_true c24
              clear c24
              (first | rw [c24b0] | (simp only [i64_w, i32_w]; rw [c24b0]) | skip)
              have H' := Aside0.mk H
              clear H
              go_wp2
              go_meet
              case rel => exact ⟨_, (true), (by first | rfl | (simp; done) | (simp [*]; done)), H', ⟨by have := HJ6.out; first | omega | exact Nat.le_refl _⟩, ⟨by repeat (first | (with_reducible first | exact HB.out | apply below_alloc | apply pw_below_drewN | apply below_drew1) | exact HB.out)⟩⟩
            · as_aux_lemma =>
              rw [if_neg c24] at H
              have c24b0 : decide (t103 < a2) = false := decide_eq_false c24
              clear c24
              (first | rw [c24b0] | (simp only [i64_w, i32_w]; rw [c24b0]) | skip)
              by_cases c25 : t103 < a0
              · as_aux_lemma =>
                rw [if_pos c25] at H
                have c25b0 : decide (t103 < a0) = true := decide_eq_true c25
                clear c25
                have H' := Aside0.mk H
                clear H
                go_wp2
                go_meet
                case rel => exact ⟨_, (true), (by first | rfl | (simp; done) | (simp [*]; done)), H', ⟨by have := HJ6.out; first | omega | exact Nat.le_refl _⟩, ⟨by repeat (first | (with_reducible first | exact HB.out | apply below_alloc | apply pw_below_drewN | apply below_drew1) | exact HB.out)⟩⟩
              · as_aux_lemma =>
                rw [if_neg c25] at H
                have c25b0 : decide (t103 < a0) = false := decide_eq_false c25
                clear c25
                by_cases c26 : a1 = 0
                · as_aux_lemma =>
                  rw [if_pos c26] at H
                  exact absurd H (by simp)
                · as_aux_lemma =>
                  rw [if_neg c26] at H
                  have c26b0 : (a1 == 0) = false := beq_eq_false_iff_ne.mpr c26
                  have c26b1 : (a1 != 0) = true := bne_iff_ne.mpr c26
                  by_cases c27 : (Int.tmod (wrap64 (t103 - a0)) a1) = 0
                  · as_aux_lemma =>
                    rw [if_pos c27] at H
                    have c27b0 : ((Int.tmod (wrap64 (t103 - a0)) a1) == 0) = true := beq_iff_eq.mpr c27
                    have c27b1 : ((Int.tmod (wrap64 (t103 - a0)) a1) != 0) = false := bne_eq_false_iff_eq.mpr c27
                    clear c27
                    by_cases c28 : (wrap64 (t103 - a0)) ≥ a1
                    · as_aux_lemma =>
                      rw [if_pos c28] at H
                      have c28b0 : decide (a1 ≤ (wrap64 (t103 - a0))) = true := decide_eq_true c28
                      clear c28
                      have H' := Aside0.mk H
                      clear H
                      go_wp2
                      go_meet
                      case rel => exact ⟨_, (decide ((wrap64 (t103 - a1)) ≥ a2)), (by first | rfl | (simp; done) | (simp [*]; done)), H', ⟨by have := HJ6.out; first | omega | exact Nat.le_refl _⟩, ⟨by repeat (first | (with_reducible first | exact HB.out | apply below_alloc | apply pw_below_drewN | apply below_drew1) | exact HB.out)⟩⟩
                    · as_aux_lemma =>
                      rw [if_neg c28] at H
                      have c28b0 : decide (a1 ≤ (wrap64 (t103 - a0))) = false := decide_eq_false c28
                      clear c28
                      have H' := Aside0.mk H
                      clear H
                      go_wp2
                      go_meet
                      case rel => exact ⟨_, (false), (by first | rfl | (simp; done) | (simp [*]; done)), H', ⟨by have := HJ6.out; first | omega | exact Nat.le_refl _⟩, ⟨by repeat (first | (with_reducible first | exact HB.out | apply below_alloc | apply pw_below_drewN | apply below_drew1) | exact HB.out)⟩⟩
                  · as_aux_lemma =>
                    rw [if_neg c27] at H
                    have c27b0 : ((Int.tmod (wrap64 (t103 - a0)) a1) == 0) = false := beq_eq_false_iff_ne.mpr c27
                    have c27b1 : ((Int.tmod (wrap64 (t103 - a0)) a1) != 0) = true := bne_iff_ne.mpr c27
                    have H' := Aside0.mk H
                    clear H
                    go_wp2
                    go_meet
                    case rel => exact ⟨_, (true), (by first | rfl | (simp; done) | (simp [*]; done)), H', ⟨by have := HJ6.out; first | omega | exact Nat.le_refl _⟩, ⟨by repeat (first | (with_reducible first | exact HB.out | apply below_alloc | apply pw_below_drewN | apply below_drew1) | exact HB.out)⟩⟩
          · replace c23 := Bool.eq_false_iff.mpr c23
            subst c23
            have H1 : (bulkheadlaw01_NumTicks.j1 kj6 a0 a1 a2 a3 a4 t103 false false) = some r := by rw [if_neg (show ¬ (false = true) by decide)] at H; exact H
            clear H
            have H := H1
            clear H1
            have H' := Aside0.mk H
            clear H
            go_wp2
            go_meet
            case rel => exact ⟨_, (false), (by first | rfl | (simp; done) | (simp [*]; done)), H', ⟨by have := HJ6.out; first | omega | exact Nat.le_refl _⟩, ⟨by repeat (first | (with_reducible first | exact HB.out | apply below_alloc | apply pw_below_drewN | apply below_drew1) | exact HB.out)⟩⟩
        case rest =>
          clear HC22
          try clear c1
          try clear c2
          try clear p2
          try clear c4
          try clear p6
          try clear c9
          try clear c9b0
          try clear c10
          try clear c12
          try clear c14
          try clear c14b0
          try clear c14b1
          try clear c15
          try clear c16
          try clear c17
          try clear c17b0
          try clear c17b1
          try clear c23
          try clear c24
          try clear c24b0
          try clear c25
          try clear c25b0
          try clear c26
          try clear c26b0
          try clear c26b1
          try clear c27
          try clear c27b0
          try clear c27b1
          try clear c28
          try clear c28b0
          try clear p2
          obtain ⟨kq, x92_21, rfl, HA, HJ21, HB⟩ := hcut
          cases kq with
          | zero => exact absurd HA.out (by simp [bulkheadlaw01_NumTicks.j1])
          | succ kj21 =>
            have H := HA.out
            clear HA
            simp only [bulkheadlaw01_NumTicks.j1] at H
            by_cases c29 : x92_21 = true
            · subst c29
              have H1 : (some false) = some r := by rw [if_pos rfl] at H; exact H
              clear H
              have H := H1
              clear H1
              obtain rfl := Option.some.inj H
              go_wp2
              go_ret
              exact ⟨by first | rfl | (simp [errW_none, errW_some] <;> rfl) | (simp [*, errW_none, errW_some] <;> rfl), by repeat (first | (with_reducible first | exact HB.out | apply below_alloc | apply pw_below_drewN | apply below_drew1) | exact HB.out)⟩
            · replace c29 := Bool.eq_false_iff.mpr c29
              subst c29
              have H1 : (if t104 = true then (bulkheadlaw01_NumTicks.j2 kj21 a0 a1 a2 a3 a4 t103 t104 false) else (if t103 = 0 then (bulkheadlaw01_NumTicks.j2 kj21 a0 a1 a2 a3 a4 t103 t104 (decide (a2 ≤ (wrap64 (9223372036854775807 - a1))))) else (bulkheadlaw01_NumTicks.j2 kj21 a0 a1 a2 a3 a4 t103 t104 true))) = some r := by rw [if_neg (show ¬ (false = true) by decide)] at H; exact H
              clear H
              have H := H1
              clear H1
              have HC30 := Aside0.mk H
              clear H
              go_upto_region 7 with (fail)
              go_cut [104] (fun v104 wc => ∃ (kq : Nat) (x104_29 : Bool), v104 = .bool x104_29 ∧ Aside0 (bulkheadlaw01_NumTicks.j2 kq a0 a1 a2 a3 a4 t103 t104 x104_29 = some r) ∧ Aside0 (kq ≤ kj21) ∧ Aside0 (Below w.heap.size w wc))
              case first =>
                have H := HC30.out
                clear HC30
                by_cases c31 : t104 = true
                · subst c31
                  have H1 : (bulkheadlaw01_NumTicks.j2 kj21 a0 a1 a2 a3 a4 t103 true false) = some r := by rw [if_pos rfl] at H; exact H
                  clear H
                  have H := H1
                  clear H1
                  have H' := Aside0.mk H
                  clear H
                  go_wp2
                  go_meet
                  case rel => exact ⟨_, (false), (by first | rfl | (simp; done) | (simp [*]; done)), H', ⟨by have := HJ6.out; have := HJ21.out; first | omega | exact Nat.le_refl _⟩, ⟨by repeat (first | (with_reducible first | exact HB.out | apply below_alloc | apply pw_below_drewN | apply below_drew1) | exact HB.out)⟩⟩
                · replace c31 := Bool.eq_false_iff.mpr c31
                  subst c31
                  have H1 : (if t103 = 0 then (bulkheadlaw01_NumTicks.j2 kj21 a0 a1 a2 a3 a4 t103 false (decide (a2 ≤ (wrap64 (9223372036854775807 - a1))))) else (bulkheadlaw01_NumTicks.j2 kj21 a0 a1 a2 a3 a4 t103 false true)) = some r := by rw [if_neg (show ¬ (false = true) by decide)] at H; exact H
                  clear H
                  have H := H1
                  clear H1
                  by_cases c32 : t103 = 0
                  · as_aux_lemma =>
                    rw [if_pos c32] at H
                    have c32b0 : (t103 == 0) = true := beq_iff_eq.mpr c32
                    have c32b1 : (t103 != 0) = false := bne_eq_false_iff_eq.mpr c32
                    clear c32
                    (first | rw [c32b0] | (simp only [i64_w, i32_w]; rw [c32b0]) | skip)
                    have H' := Aside0.mk H
                    clear H
                    go_wp2
                    go_meet
                    case rel => exact ⟨_, (decide (a2 ≤ (wrap64 (9223372036854775807 - a1)))), (by first | rfl | (simp; done) | (simp [*]; done)), H', ⟨by have := HJ6.out; have := HJ21.out; first | omega | exact Nat.le_refl _⟩, ⟨by repeat (first | (with_reducible first | exact HB.out | apply below_alloc | apply pw_below_drewN | apply below_drew1) | exact HB.out)⟩⟩
                  · as_aux_lemma =>
                    rw [if_neg c32] at H
                    have c32b0 : (t103 == 0) = false := beq_eq_false_iff_ne.mpr c32
                    have c32b1 : (t103 != 0) = true := bne_iff_ne.mpr c32
                    (first | rw [c32b0] | (simp only [i64_w, i32_w]; rw [c32b0]) | skip)
                    have H' := Aside0.mk H
                    clear H
                    go_wp2
                    go_meet
                    case rel => exact ⟨_, (true), (by first | rfl | (simp; done) | (simp [*]; done)), H', ⟨by have := HJ6.out; have := HJ21.out; first | omega | exact Nat.le_refl _⟩, ⟨by repeat (first | (with_reducible first | exact HB.out | apply below_alloc | apply pw_below_drewN | apply below_drew1) | exact HB.out)⟩⟩
              case rest =>
                clear HC30
                try clear c1
                try clear c2
                try clear p2
                try clear c3
                try clear c4
                try clear p6
                try clear c9
                try clear c9b0
                try clear c10
                try clear c12
                try clear c14
                try clear c14b0
                try clear c14b1
                try clear c15
                try clear c16
                try clear c17
                try clear c17b0
                try clear c17b1
                try clear c23
                try clear c24
                try clear c24b0
                try clear c25
                try clear c25b0
                try clear c26
                try clear c26b0
                try clear c26b1
                try clear c27
                try clear c27b0
                try clear c27b1
                try clear c28
                try clear c28b0
                try clear c29
                try clear c31
                try clear c32
                try clear c32b0
                try clear c32b1
                try clear p2
                try clear p6
                obtain ⟨kq, x104_29, rfl, HA, HJ29, HB⟩ := hcut
                cases kq with
                | zero => exact absurd HA.out (by simp [bulkheadlaw01_NumTicks.j2])
                | succ kj29 =>
                  have H := HA.out
                  clear HA
                  simp only [bulkheadlaw01_NumTicks.j2] at H
                  by_cases c33 : x104_29 = true
                  · subst c33
                    have H1 : (some false) = some r := by rw [if_pos rfl] at H; exact H
                    clear H
                    have H := H1
                    clear H1
                    obtain rfl := Option.some.inj H
                    go_wp2
                    go_ret
                    exact ⟨by first | rfl | (simp [errW_none, errW_some] <;> rfl) | (simp [*, errW_none, errW_some] <;> rfl), by repeat (first | (with_reducible first | exact HB.out | apply below_alloc | apply pw_below_drewN | apply below_drew1) | exact HB.out)⟩
                  · replace c33 := Bool.eq_false_iff.mpr c33
                    subst c33
                    have H1 : ((num_Count.f kj29 a0 a1 a2 a3).bind fun bt108 => ((num_Count.f kj29 a0 a1 a3 a4).bind fun bt110 => ((num_Count.f kj29 a0 a1 a2 a4).bind fun bt112 => (if bt108.2 = true then (if bt110.2 = true then (if bt112.2 = true then (if bt108.1 < 0 then (bulkheadlaw01_NumTicks.j3 kj29 a0 a1 a2 a4 t103 t104 bt112.1 true) else (if bt110.1 < 0 then (bulkheadlaw01_NumTicks.j3 kj29 a0 a1 a2 a4 t103 t104 bt112.1 true) else (if a2 ≤ a3 then (if a3 ≤ a4 then (bulkheadlaw01_NumTicks.j3 kj29 a0 a1 a2 a4 t103 t104 bt112.1 ((wrap64 (bt108.1 + bt110.1)) != bt112.1)) else (bulkheadlaw01_NumTicks.j3 kj29 a0 a1 a2 a4 t103 t104 bt112.1 false)) else (bulkheadlaw01_NumTicks.j3 kj29 a0 a1 a2 a4 t103 t104 bt112.1 false)))) else (bulkheadlaw01_NumTicks.j3 kj29 a0 a1 a2 a4 t103 t104 bt112.1 true)) else (bulkheadlaw01_NumTicks.j3 kj29 a0 a1 a2 a4 t103 t104 bt112.1 true)) else (bulkheadlaw01_NumTicks.j3 kj29 a0 a1 a2 a4 t103 t104 bt112.1 true))))) = some r := by rw [if_neg (show ¬ (false = true) by decide)] at H; exact H
                    clear H
                    have H := H1
                    clear H1
                    replace H := Option.bind_eq_some_iff.mp H
                    obtain ⟨⟨t108, t109⟩, A340, H⟩ := H
                    replace H : ((num_Count.f kj29 a0 a1 a3 a4).bind fun bt110 => ((num_Count.f kj29 a0 a1 a2 a4).bind fun bt112 => (if t109 = true then (if bt110.2 = true then (if bt112.2 = true then (if t108 < 0 then (bulkheadlaw01_NumTicks.j3 kj29 a0 a1 a2 a4 t103 t104 bt112.1 true) else (if bt110.1 < 0 then (bulkheadlaw01_NumTicks.j3 kj29 a0 a1 a2 a4 t103 t104 bt112.1 true) else (if a2 ≤ a3 then (if a3 ≤ a4 then (bulkheadlaw01_NumTicks.j3 kj29 a0 a1 a2 a4 t103 t104 bt112.1 ((wrap64 (t108 + bt110.1)) != bt112.1)) else (bulkheadlaw01_NumTicks.j3 kj29 a0 a1 a2 a4 t103 t104 bt112.1 false)) else (bulkheadlaw01_NumTicks.j3 kj29 a0 a1 a2 a4 t103 t104 bt112.1 false)))) else (bulkheadlaw01_NumTicks.j3 kj29 a0 a1 a2 a4 t103 t104 bt112.1 true)) else (bulkheadlaw01_NumTicks.j3 kj29 a0 a1 a2 a4 t103 t104 bt112.1 true)) else (bulkheadlaw01_NumTicks.j3 kj29 a0 a1 a2 a4 t103 t104 bt112.1 true)))) = some r := H
                    have A34 := Aside0.mk A340
                    clear A340
                    replace H := Option.bind_eq_some_iff.mp H
                    obtain ⟨⟨t110, t111⟩, A350, H⟩ := H
                    replace H : ((num_Count.f kj29 a0 a1 a2 a4).bind fun bt112 => (if t109 = true then (if t111 = true then (if bt112.2 = true then (if t108 < 0 then (bulkheadlaw01_NumTicks.j3 kj29 a0 a1 a2 a4 t103 t104 bt112.1 true) else (if t110 < 0 then (bulkheadlaw01_NumTicks.j3 kj29 a0 a1 a2 a4 t103 t104 bt112.1 true) else (if a2 ≤ a3 then (if a3 ≤ a4 then (bulkheadlaw01_NumTicks.j3 kj29 a0 a1 a2 a4 t103 t104 bt112.1 ((wrap64 (t108 + t110)) != bt112.1)) else (bulkheadlaw01_NumTicks.j3 kj29 a0 a1 a2 a4 t103 t104 bt112.1 false)) else (bulkheadlaw01_NumTicks.j3 kj29 a0 a1 a2 a4 t103 t104 bt112.1 false)))) else (bulkheadlaw01_NumTicks.j3 kj29 a0 a1 a2 a4 t103 t104 bt112.1 true)) else (bulkheadlaw01_NumTicks.j3 kj29 a0 a1 a2 a4 t103 t104 bt112.1 true)) else (bulkheadlaw01_NumTicks.j3 kj29 a0 a1 a2 a4 t103 t104 bt112.1 true))) = some r := H
                    have A35 := Aside0.mk A350
                    clear A350
                    replace H := Option.bind_eq_some_iff.mp H
                    obtain ⟨⟨t112, t113⟩, A360, H⟩ := H
                    replace H : (if t109 = true then (if t111 = true then (if t113 = true then (if t108 < 0 then (bulkheadlaw01_NumTicks.j3 kj29 a0 a1 a2 a4 t103 t104 t112 true) else (if t110 < 0 then (bulkheadlaw01_NumTicks.j3 kj29 a0 a1 a2 a4 t103 t104 t112 true) else (if a2 ≤ a3 then (if a3 ≤ a4 then (bulkheadlaw01_NumTicks.j3 kj29 a0 a1 a2 a4 t103 t104 t112 ((wrap64 (t108 + t110)) != t112)) else (bulkheadlaw01_NumTicks.j3 kj29 a0 a1 a2 a4 t103 t104 t112 false)) else (bulkheadlaw01_NumTicks.j3 kj29 a0 a1 a2 a4 t103 t104 t112 false)))) else (bulkheadlaw01_NumTicks.j3 kj29 a0 a1 a2 a4 t103 t104 t112 true)) else (bulkheadlaw01_NumTicks.j3 kj29 a0 a1 a2 a4 t103 t104 t112 true)) else (bulkheadlaw01_NumTicks.j3 kj29 a0 a1 a2 a4 t103 t104 t112 true)) = some r := H
                    have A36 := Aside0.mk A360
                    clear A360
                    have HC37 := Aside0.mk H
                    clear H
                    go_upto_region 12 with (first | ((with_reducible refine gate_callee (f := 17) rfl ?_); refine goesL_ (some 110) rfl rfl Try.func17 (by kernel_rfl) rfl #[.int .i64 a0, .int .i64 a1, .int .i64 a2, .int .i64 a3] rfl (by (try simp only [List.map_toArray, List.map_cons, List.map_nil]); first | done | rfl | (simp only [List.length_drop, List.length_take]; rfl)) ?_; (with_reducible refine (num_Count.calls kj29 a0 a1 a2 a3 t108 t109 _ A34.out).mono ?_); rintro e w38 ⟨rfl, hb⟩; refine ⟨_, rfl, ?_⟩; have n0_ := Aside0.mk (below_step (by repeat (first | (with_reducible first | exact HB.out | apply below_alloc | apply pw_below_drewN | apply below_drew1) | exact HB.out)) hb); clear HB; have HB := n0_; clear n0_; (try clear hb); (try clear hb2); (try clear hk); (try clear hi)) | ((with_reducible refine gate_callee (f := 17) rfl ?_); refine goesL_ (some 118) rfl rfl Try.func17 (by kernel_rfl) rfl #[.int .i64 a0, .int .i64 a1, .int .i64 a3, .int .i64 a4] rfl (by (try simp only [List.map_toArray, List.map_cons, List.map_nil]); first | done | rfl | (simp only [List.length_drop, List.length_take]; rfl)) ?_; (with_reducible refine (num_Count.calls kj29 a0 a1 a3 a4 t110 t111 _ A35.out).mono ?_); rintro e w39 ⟨rfl, hb⟩; refine ⟨_, rfl, ?_⟩; have n0_ := Aside0.mk (below_step (by repeat (first | (with_reducible first | exact HB.out | apply below_alloc | apply pw_below_drewN | apply below_drew1) | exact HB.out)) hb); clear HB; have HB := n0_; clear n0_; (try clear hb); (try clear hb2); (try clear hk); (try clear hi)) | ((with_reducible refine gate_callee (f := 17) rfl ?_); refine goesL_ (some 126) rfl rfl Try.func17 (by kernel_rfl) rfl #[.int .i64 a0, .int .i64 a1, .int .i64 a2, .int .i64 a4] rfl (by (try simp only [List.map_toArray, List.map_cons, List.map_nil]); first | done | rfl | (simp only [List.length_drop, List.length_take]; rfl)) ?_; (with_reducible refine (num_Count.calls kj29 a0 a1 a2 a4 t112 t113 _ A36.out).mono ?_); rintro e w40 ⟨rfl, hb⟩; refine ⟨_, rfl, ?_⟩; have n0_ := Aside0.mk (below_step (by repeat (first | (with_reducible first | exact HB.out | apply below_alloc | apply pw_below_drewN | apply below_drew1) | exact HB.out)) hb); clear HB; have HB := n0_; clear n0_; (try clear hb); (try clear hb2); (try clear hk); (try clear hi)))
                    (try simp only [Act.put, List.setIfInBounds_toArray, List.set_cons_zero, List.set_cons_succ])
                    go_cut [163] (fun v163 wc => ∃ (kq : Nat) (x163_36 : Bool), v163 = .bool x163_36 ∧ Aside0 (bulkheadlaw01_NumTicks.j3 kq a0 a1 a2 a4 t103 t104 t112 x163_36 = some r) ∧ Aside0 (kq ≤ kj29) ∧ Aside0 (Below w.heap.size w wc))
                    case first =>
                      have H := HC37.out
                      clear HC37
                      by_cases c41 : t109 = true
                      · subst c41
                        have H1 : (if t111 = true then (if t113 = true then (if t108 < 0 then (bulkheadlaw01_NumTicks.j3 kj29 a0 a1 a2 a4 t103 t104 t112 true) else (if t110 < 0 then (bulkheadlaw01_NumTicks.j3 kj29 a0 a1 a2 a4 t103 t104 t112 true) else (if a2 ≤ a3 then (if a3 ≤ a4 then (bulkheadlaw01_NumTicks.j3 kj29 a0 a1 a2 a4 t103 t104 t112 ((wrap64 (t108 + t110)) != t112)) else (bulkheadlaw01_NumTicks.j3 kj29 a0 a1 a2 a4 t103 t104 t112 false)) else (bulkheadlaw01_NumTicks.j3 kj29 a0 a1 a2 a4 t103 t104 t112 false)))) else (bulkheadlaw01_NumTicks.j3 kj29 a0 a1 a2 a4 t103 t104 t112 true)) else (bulkheadlaw01_NumTicks.j3 kj29 a0 a1 a2 a4 t103 t104 t112 true)) = some r := by rw [if_pos rfl] at H; exact H
                        clear H
                        have H := H1
                        clear H1
                        by_cases c42 : t111 = true
                        · subst c42
                          have H1 : (if t113 = true then (if t108 < 0 then (bulkheadlaw01_NumTicks.j3 kj29 a0 a1 a2 a4 t103 t104 t112 true) else (if t110 < 0 then (bulkheadlaw01_NumTicks.j3 kj29 a0 a1 a2 a4 t103 t104 t112 true) else (if a2 ≤ a3 then (if a3 ≤ a4 then (bulkheadlaw01_NumTicks.j3 kj29 a0 a1 a2 a4 t103 t104 t112 ((wrap64 (t108 + t110)) != t112)) else (bulkheadlaw01_NumTicks.j3 kj29 a0 a1 a2 a4 t103 t104 t112 false)) else (bulkheadlaw01_NumTicks.j3 kj29 a0 a1 a2 a4 t103 t104 t112 false)))) else (bulkheadlaw01_NumTicks.j3 kj29 a0 a1 a2 a4 t103 t104 t112 true)) = some r := by rw [if_pos rfl] at H; exact H
                          clear H
                          have H := H1
                          clear H1
                          by_cases c43 : t113 = true
                          · subst c43
                            have H1 : (if t108 < 0 then (bulkheadlaw01_NumTicks.j3 kj29 a0 a1 a2 a4 t103 t104 t112 true) else (if t110 < 0 then (bulkheadlaw01_NumTicks.j3 kj29 a0 a1 a2 a4 t103 t104 t112 true) else (if a2 ≤ a3 then (if a3 ≤ a4 then (bulkheadlaw01_NumTicks.j3 kj29 a0 a1 a2 a4 t103 t104 t112 ((wrap64 (t108 + t110)) != t112)) else (bulkheadlaw01_NumTicks.j3 kj29 a0 a1 a2 a4 t103 t104 t112 false)) else (bulkheadlaw01_NumTicks.j3 kj29 a0 a1 a2 a4 t103 t104 t112 false)))) = some r := by rw [if_pos rfl] at H; exact H
                            clear H
                            have H := H1
                            clear H1
                            by_cases c44 : t108 < 0
                            · as_aux_lemma =>
                              rw [if_pos c44] at H
                              have c44b0 : decide (t108 < 0) = true := decide_eq_true c44
                              clear c44
                              (first | rw [c44b0] | (simp only [i64_w, i32_w]; rw [c44b0]) | skip)
                              have H' := Aside0.mk H
                              clear H
                              go_wp2
                              go_meet
                              case rel => exact ⟨_, (true), (by first | rfl | (simp; done) | (simp [*]; done)), H', ⟨by have := HJ6.out; have := HJ21.out; have := HJ29.out; first | omega | exact Nat.le_refl _⟩, ⟨by repeat (first | (with_reducible first | exact HB.out | apply below_alloc | apply pw_below_drewN | apply below_drew1) | exact HB.out)⟩⟩
                            · as_aux_lemma =>
                              rw [if_neg c44] at H
                              have c44b0 : decide (t108 < 0) = false := decide_eq_false c44
                              clear c44
                              (first | rw [c44b0] | (simp only [i64_w, i32_w]; rw [c44b0]) | skip)
                              by_cases c45 : t110 < 0
                              · as_aux_lemma =>
                                rw [if_pos c45] at H
                                have c45b0 : decide (t110 < 0) = true := decide_eq_true c45
                                clear c45
                                have H' := Aside0.mk H
                                clear H
                                go_wp2
                                go_meet
                                case rel => exact ⟨_, (true), (by first | rfl | (simp; done) | (simp [*]; done)), H', ⟨by have := HJ6.out; have := HJ21.out; have := HJ29.out; first | omega | exact Nat.le_refl _⟩, ⟨by repeat (first | (with_reducible first | exact HB.out | apply below_alloc | apply pw_below_drewN | apply below_drew1) | exact HB.out)⟩⟩
                              · as_aux_lemma =>
                                rw [if_neg c45] at H
                                have c45b0 : decide (t110 < 0) = false := decide_eq_false c45
                                clear c45
                                by_cases c46 : a2 ≤ a3
                                · as_aux_lemma =>
                                  rw [if_pos c46] at H
                                  have c46b0 : decide (a2 ≤ a3) = true := decide_eq_true c46
                                  clear c46
                                  by_cases c47 : a3 ≤ a4
                                  · as_aux_lemma =>
                                    rw [if_pos c47] at H
                                    have c47b0 : decide (a3 ≤ a4) = true := decide_eq_true c47
                                    clear c47
                                    have H' := Aside0.mk H
                                    clear H
                                    go_wp2
                                    go_meet
                                    case rel => exact ⟨_, (((wrap64 (t108 + t110)) != t112)), (by first | rfl | (simp; done) | (simp [*]; done)), H', ⟨by have := HJ6.out; have := HJ21.out; have := HJ29.out; first | omega | exact Nat.le_refl _⟩, ⟨by repeat (first | (with_reducible first | exact HB.out | apply below_alloc | apply pw_below_drewN | apply below_drew1) | exact HB.out)⟩⟩
                                  · as_aux_lemma =>
                                    rw [if_neg c47] at H
                                    have c47b0 : decide (a3 ≤ a4) = false := decide_eq_false c47
                                    clear c47
                                    have H' := Aside0.mk H
                                    clear H
                                    go_wp2
                                    go_meet
                                    case rel => exact ⟨_, (false), (by first | rfl | (simp; done) | (simp [*]; done)), H', ⟨by have := HJ6.out; have := HJ21.out; have := HJ29.out; first | omega | exact Nat.le_refl _⟩, ⟨by repeat (first | (with_reducible first | exact HB.out | apply below_alloc | apply pw_below_drewN | apply below_drew1) | exact HB.out)⟩⟩
                                · as_aux_lemma =>
                                  rw [if_neg c46] at H
                                  have c46b0 : decide (a2 ≤ a3) = false := decide_eq_false c46
                                  clear c46
                                  have H' := Aside0.mk H
                                  clear H
                                  go_wp2
                                  go_meet
                                  case rel => exact ⟨_, (false), (by first | rfl | (simp; done) | (simp [*]; done)), H', ⟨by have := HJ6.out; have := HJ21.out; have := HJ29.out; first | omega | exact Nat.le_refl _⟩, ⟨by repeat (first | (with_reducible first | exact HB.out | apply below_alloc | apply pw_below_drewN | apply below_drew1) | exact HB.out)⟩⟩
                          · replace c43 := Bool.eq_false_iff.mpr c43
                            subst c43
                            have H1 : (bulkheadlaw01_NumTicks.j3 kj29 a0 a1 a2 a4 t103 t104 t112 true) = some r := by rw [if_neg (show ¬ (false = true) by decide)] at H; exact H
                            clear H
                            have H := H1
                            clear H1
                            have H' := Aside0.mk H
                            clear H
                            go_wp2
                            go_meet
                            case rel => exact ⟨_, (true), (by first | rfl | (simp; done) | (simp [*]; done)), H', ⟨by have := HJ6.out; have := HJ21.out; have := HJ29.out; first | omega | exact Nat.le_refl _⟩, ⟨by repeat (first | (with_reducible first | exact HB.out | apply below_alloc | apply pw_below_drewN | apply below_drew1) | exact HB.out)⟩⟩
                        · replace c42 := Bool.eq_false_iff.mpr c42
                          subst c42
                          have H1 : (bulkheadlaw01_NumTicks.j3 kj29 a0 a1 a2 a4 t103 t104 t112 true) = some r := by rw [if_neg (show ¬ (false = true) by decide)] at H; exact H
                          clear H
                          have H := H1
                          clear H1
                          have H' := Aside0.mk H
                          clear H
                          go_wp2
                          go_meet
                          case rel => exact ⟨_, (true), (by first | rfl | (simp; done) | (simp [*]; done)), H', ⟨by have := HJ6.out; have := HJ21.out; have := HJ29.out; first | omega | exact Nat.le_refl _⟩, ⟨by repeat (first | (with_reducible first | exact HB.out | apply below_alloc | apply pw_below_drewN | apply below_drew1) | exact HB.out)⟩⟩
                      · replace c41 := Bool.eq_false_iff.mpr c41
                        subst c41
                        have H1 : (bulkheadlaw01_NumTicks.j3 kj29 a0 a1 a2 a4 t103 t104 t112 true) = some r := by rw [if_neg (show ¬ (false = true) by decide)] at H; exact H
                        clear H
                        have H := H1
                        clear H1
                        have H' := Aside0.mk H
                        clear H
                        go_wp2
                        go_meet
                        case rel => exact ⟨_, (true), (by first | rfl | (simp; done) | (simp [*]; done)), H', ⟨by have := HJ6.out; have := HJ21.out; have := HJ29.out; first | omega | exact Nat.le_refl _⟩, ⟨by repeat (first | (with_reducible first | exact HB.out | apply below_alloc | apply pw_below_drewN | apply below_drew1) | exact HB.out)⟩⟩
                    case rest =>
                      clear HC37
                      try clear c1
                      try clear c2
                      try clear p2
                      try clear c3
                      try clear c4
                      try clear p6
                      try clear c9
                      try clear c9b0
                      try clear c10
                      try clear c12
                      try clear c14
                      try clear c14b0
                      try clear c14b1
                      try clear c15
                      try clear c16
                      try clear c17
                      try clear c17b0
                      try clear c17b1
                      try clear c23
                      try clear c24
                      try clear c24b0
                      try clear c25
                      try clear c25b0
                      try clear c26
                      try clear c26b0
                      try clear c26b1
                      try clear c27
                      try clear c27b0
                      try clear c27b1
                      try clear c28
                      try clear c28b0
                      try clear c29
                      try clear c31
                      try clear c32
                      try clear c32b0
                      try clear c32b1
                      try clear c33
                      try clear c41
                      try clear c42
                      try clear c43
                      try clear c44
                      try clear c44b0
                      try clear c45
                      try clear c45b0
                      try clear c46
                      try clear c46b0
                      try clear c47
                      try clear c47b0
                      try clear p2
                      try clear p6
                      obtain ⟨kq, x163_36, rfl, HA, HJ36, HB⟩ := hcut
                      cases kq with
                      | zero => exact absurd HA.out (by simp [bulkheadlaw01_NumTicks.j3])
                      | succ kj36 =>
                        have H := HA.out
                        clear HA
                        simp only [bulkheadlaw01_NumTicks.j3] at H
                        by_cases c48 : x163_36 = true
                        · subst c48
                          have H1 : (some false) = some r := by rw [if_pos rfl] at H; exact H
                          clear H
                          have H := H1
                          clear H1
                          obtain rfl := Option.some.inj H
                          go_wp2
                          go_ret
                          exact ⟨by first | rfl | (simp [errW_none, errW_some] <;> rfl) | (simp [*, errW_none, errW_some] <;> rfl), by repeat (first | (with_reducible first | exact HB.out | apply below_alloc | apply pw_below_drewN | apply below_drew1) | exact HB.out)⟩
                        · replace c48 := Bool.eq_false_iff.mpr c48
                          subst c48
                          have H1 : (if a2 ≥ a4 then (some (t112 == 0)) else (if t104 = true then (if t103 < a4 then (if t112 < 1 then (bulkheadlaw01_NumTicks.j4 kj36 a0 a1 a2 a4 t112 true) else (if t103 ≥ a4 then (bulkheadlaw01_NumTicks.j4 kj36 a0 a1 a2 a4 t112 (t112 != 0)) else (bulkheadlaw01_NumTicks.j4 kj36 a0 a1 a2 a4 t112 false))) else (if t103 ≥ a4 then (bulkheadlaw01_NumTicks.j4 kj36 a0 a1 a2 a4 t112 (t112 != 0)) else (bulkheadlaw01_NumTicks.j4 kj36 a0 a1 a2 a4 t112 false))) else (bulkheadlaw01_NumTicks.j4 kj36 a0 a1 a2 a4 t112 false))) = some r := by rw [if_neg (show ¬ (false = true) by decide)] at H; exact H
                          clear H
                          have H := H1
                          clear H1
                          by_cases c49 : a2 ≥ a4
                          · as_aux_lemma =>
                            rw [if_pos c49] at H
                            have c49b0 : decide (a4 ≤ a2) = true := decide_eq_true c49
                            clear c49
                            obtain rfl := Option.some.inj H
                            go_wp2
                            go_ret
                            exact ⟨by first | rfl | (simp [errW_none, errW_some] <;> rfl) | (simp [*, errW_none, errW_some] <;> rfl), by repeat (first | (with_reducible first | exact HB.out | apply below_alloc | apply pw_below_drewN | apply below_drew1) | exact HB.out)⟩
                          · as_aux_lemma =>
                            rw [if_neg c49] at H
                            have c49b0 : decide (a4 ≤ a2) = false := decide_eq_false c49
                            clear c49
                            have HC50 := Aside0.mk H
                            clear H
                            go_upto_region 16 with (fail)
                            go_cut [190] (fun v190 wc => ∃ (kq : Nat) (x190_49 : Bool), v190 = .bool x190_49 ∧ Aside0 (bulkheadlaw01_NumTicks.j4 kq a0 a1 a2 a4 t112 x190_49 = some r) ∧ Aside0 (kq ≤ kj36) ∧ Aside0 (Below w.heap.size w wc))
                            case first =>
                              have H := HC50.out
                              clear HC50
                              by_cases c51 : t104 = true
                              · subst c51
                                have H1 : (if t103 < a4 then (if t112 < 1 then (bulkheadlaw01_NumTicks.j4 kj36 a0 a1 a2 a4 t112 true) else (if t103 ≥ a4 then (bulkheadlaw01_NumTicks.j4 kj36 a0 a1 a2 a4 t112 (t112 != 0)) else (bulkheadlaw01_NumTicks.j4 kj36 a0 a1 a2 a4 t112 false))) else (if t103 ≥ a4 then (bulkheadlaw01_NumTicks.j4 kj36 a0 a1 a2 a4 t112 (t112 != 0)) else (bulkheadlaw01_NumTicks.j4 kj36 a0 a1 a2 a4 t112 false))) = some r := by rw [if_pos rfl] at H; exact H
                                clear H
                                have H := H1
                                clear H1
                                by_cases c52 : t103 < a4
                                · as_aux_lemma =>
                                  rw [if_pos c52] at H
                                  have c52b0 : decide (t103 < a4) = true := decide_eq_true c52
                                  clear c52
                                  (first | rw [c52b0] | (simp only [i64_w, i32_w]; rw [c52b0]) | skip)
                                  by_cases c53 : t112 < 1
                                  · as_aux_lemma =>
                                    rw [if_pos c53] at H
                                    have c53b0 : decide (t112 < 1) = true := decide_eq_true c53
                                    clear c53
                                    have H' := Aside0.mk H
                                    clear H
                                    go_wp2
                                    go_meet
                                    case rel => exact ⟨_, (true), (by first | rfl | (simp; done) | (simp [*]; done)), H', ⟨by have := HJ6.out; have := HJ21.out; have := HJ29.out; have := HJ36.out; first | omega | exact Nat.le_refl _⟩, ⟨by repeat (first | (with_reducible first | exact HB.out | apply below_alloc | apply pw_below_drewN | apply below_drew1) | exact HB.out)⟩⟩
                                  · as_aux_lemma =>
                                    rw [if_neg c53] at H
                                    have c53b0 : decide (t112 < 1) = false := decide_eq_false c53
                                    clear c53
                                    by_cases c54 : t103 ≥ a4
                                    · as_aux_lemma =>
                                      rw [if_pos c54] at H
                                      have c54b0 : decide (a4 ≤ t103) = true := decide_eq_true c54
                                      clear c54
                                      have H' := Aside0.mk H
                                      clear H
                                      go_wp2
                                      go_meet
                                      case rel => exact ⟨_, ((t112 != 0)), (by first | rfl | (simp; done) | (simp [*]; done)), H', ⟨by have := HJ6.out; have := HJ21.out; have := HJ29.out; have := HJ36.out; first | omega | exact Nat.le_refl _⟩, ⟨by repeat (first | (with_reducible first | exact HB.out | apply below_alloc | apply pw_below_drewN | apply below_drew1) | exact HB.out)⟩⟩
                                    · as_aux_lemma =>
                                      rw [if_neg c54] at H
                                      have c54b0 : decide (a4 ≤ t103) = false := decide_eq_false c54
                                      clear c54
                                      have H' := Aside0.mk H
                                      clear H
                                      go_wp2
                                      go_meet
                                      case rel => exact ⟨_, (false), (by first | rfl | (simp; done) | (simp [*]; done)), H', ⟨by have := HJ6.out; have := HJ21.out; have := HJ29.out; have := HJ36.out; first | omega | exact Nat.le_refl _⟩, ⟨by repeat (first | (with_reducible first | exact HB.out | apply below_alloc | apply pw_below_drewN | apply below_drew1) | exact HB.out)⟩⟩
                                · as_aux_lemma =>
                                  rw [if_neg c52] at H
                                  have c52b0 : decide (t103 < a4) = false := decide_eq_false c52
                                  clear c52
                                  (first | rw [c52b0] | (simp only [i64_w, i32_w]; rw [c52b0]) | skip)
                                  by_cases c55 : t103 ≥ a4
                                  · as_aux_lemma =>
                                    rw [if_pos c55] at H
                                    have c55b0 : decide (a4 ≤ t103) = true := decide_eq_true c55
                                    clear c55
                                    have H' := Aside0.mk H
                                    clear H
                                    go_wp2
                                    go_meet
                                    case rel => exact ⟨_, ((t112 != 0)), (by first | rfl | (simp; done) | (simp [*]; done)), H', ⟨by have := HJ6.out; have := HJ21.out; have := HJ29.out; have := HJ36.out; first | omega | exact Nat.le_refl _⟩, ⟨by repeat (first | (with_reducible first | exact HB.out | apply below_alloc | apply pw_below_drewN | apply below_drew1) | exact HB.out)⟩⟩
                                  · as_aux_lemma =>
                                    rw [if_neg c55] at H
                                    have c55b0 : decide (a4 ≤ t103) = false := decide_eq_false c55
                                    clear c55
                                    have H' := Aside0.mk H
                                    clear H
                                    go_wp2
                                    go_meet
                                    case rel => exact ⟨_, (false), (by first | rfl | (simp; done) | (simp [*]; done)), H', ⟨by have := HJ6.out; have := HJ21.out; have := HJ29.out; have := HJ36.out; first | omega | exact Nat.le_refl _⟩, ⟨by repeat (first | (with_reducible first | exact HB.out | apply below_alloc | apply pw_below_drewN | apply below_drew1) | exact HB.out)⟩⟩
                              · replace c51 := Bool.eq_false_iff.mpr c51
                                subst c51
                                have H1 : (bulkheadlaw01_NumTicks.j4 kj36 a0 a1 a2 a4 t112 false) = some r := by rw [if_neg (show ¬ (false = true) by decide)] at H; exact H
                                clear H
                                have H := H1
                                clear H1
                                have H' := Aside0.mk H
                                clear H
                                go_wp2
                                go_meet
                                case rel => exact ⟨_, (false), (by first | rfl | (simp; done) | (simp [*]; done)), H', ⟨by have := HJ6.out; have := HJ21.out; have := HJ29.out; have := HJ36.out; first | omega | exact Nat.le_refl _⟩, ⟨by repeat (first | (with_reducible first | exact HB.out | apply below_alloc | apply pw_below_drewN | apply below_drew1) | exact HB.out)⟩⟩
                            case rest =>
                              clear HC50
                              try clear c1
                              try clear c2
                              try clear p2
                              try clear c3
                              try clear c4
                              try clear c5
                              try clear p6
                              try clear c9
                              try clear c9b0
                              try clear c10
                              try clear c12
                              try clear c14
                              try clear c14b0
                              try clear c14b1
                              try clear c15
                              try clear c16
                              try clear c17
                              try clear c17b0
                              try clear c17b1
                              try clear c23
                              try clear c24
                              try clear c24b0
                              try clear c25
                              try clear c25b0
                              try clear c26
                              try clear c26b0
                              try clear c26b1
                              try clear c27
                              try clear c27b0
                              try clear c27b1
                              try clear c28
                              try clear c28b0
                              try clear c29
                              try clear c31
                              try clear c32
                              try clear c32b0
                              try clear c32b1
                              try clear c33
                              try clear c41
                              try clear c42
                              try clear c43
                              try clear c44
                              try clear c44b0
                              try clear c45
                              try clear c45b0
                              try clear c46
                              try clear c46b0
                              try clear c47
                              try clear c47b0
                              try clear c48
                              try clear c49
                              try clear c49b0
                              try clear c51
                              try clear c52
                              try clear c52b0
                              try clear c53
                              try clear c53b0
                              try clear c54
                              try clear c54b0
                              try clear c55
                              try clear c55b0
                              try clear p2
                              try clear p6
                              obtain ⟨kq, x190_49, rfl, HA, HJ49, HB⟩ := hcut
                              cases kq with
                              | zero => exact absurd HA.out (by simp [bulkheadlaw01_NumTicks.j4])
                              | succ kj49 =>
                                have H := HA.out
                                clear HA
                                simp only [bulkheadlaw01_NumTicks.j4] at H
                                by_cases c56 : x190_49 = true
                                · subst c56
                                  have H1 : (some false) = some r := by rw [if_pos rfl] at H; exact H
                                  clear H
                                  have H := H1
                                  clear H1
                                  obtain rfl := Option.some.inj H
                                  go_wp2
                                  go_ret
                                  exact ⟨by first | rfl | (simp [errW_none, errW_some] <;> rfl) | (simp [*, errW_none, errW_some] <;> rfl), by repeat (first | (with_reducible first | exact HB.out | apply below_alloc | apply pw_below_drewN | apply below_drew1) | exact HB.out)⟩
                                · replace c56 := Bool.eq_false_iff.mpr c56
                                  subst c56
                                  have H1 : (if (wrap64 (a4 - a2)) = 1 then (if a2 < 0 then (some true) else (if a2 ≥ a0 then (if a1 = 0 then (none) else (some ((t112 == 1) == ((Int.tmod (wrap64 (a2 - a0)) a1) == 0)))) else (some ((t112 == 1) == false)))) else (some true)) = some r := by rw [if_neg (show ¬ (false = true) by decide)] at H; exact H
                                  clear H
                                  have H := H1
                                  clear H1
                                  by_cases c57 : (wrap64 (a4 - a2)) = 1
                                  · as_aux_lemma =>
                                    rw [if_pos c57] at H
                                    have c57b0 : ((wrap64 (a4 - a2)) == 1) = true := beq_iff_eq.mpr c57
                                    have c57b1 : ((wrap64 (a4 - a2)) != 1) = false := bne_eq_false_iff_eq.mpr c57
                                    clear c57
                                    by_cases c58 : a2 < 0
                                    · as_aux_lemma =>
                                      rw [if_pos c58] at H
                                      have c58b0 : decide (a2 < 0) = true := decide_eq_true c58
                                      clear c58
                                      obtain rfl := Option.some.inj H
                                      go_wp2
                                      go_ret
                                      exact ⟨by first | rfl | (simp [errW_none, errW_some] <;> rfl) | (simp [*, errW_none, errW_some] <;> rfl), by repeat (first | (with_reducible first | exact HB.out | apply below_alloc | apply pw_below_drewN | apply below_drew1) | exact HB.out)⟩
                                    · as_aux_lemma =>
                                      rw [if_neg c58] at H
                                      have c58b0 : decide (a2 < 0) = false := decide_eq_false c58
                                      clear c58
                                      by_cases c59 : a2 ≥ a0
                                      · as_aux_lemma =>
                                        rw [if_pos c59] at H
                                        have c59b0 : decide (a0 ≤ a2) = true := decide_eq_true c59
                                        clear c59
                                        by_cases c60 : a1 = 0
                                        · as_aux_lemma =>
                                          rw [if_pos c60] at H
                                          exact absurd H (by simp)
                                        · as_aux_lemma =>
                                          rw [if_neg c60] at H
                                          have c60b0 : (a1 == 0) = false := beq_eq_false_iff_ne.mpr c60
                                          have c60b1 : (a1 != 0) = true := bne_iff_ne.mpr c60
                                          obtain rfl := Option.some.inj H
                                          go_wp2
                                          go_ret
                                          exact ⟨by first | rfl | (simp [errW_none, errW_some] <;> rfl) | (simp [*, errW_none, errW_some] <;> rfl), by repeat (first | (with_reducible first | exact HB.out | apply below_alloc | apply pw_below_drewN | apply below_drew1) | exact HB.out)⟩
                                      · as_aux_lemma =>
                                        rw [if_neg c59] at H
                                        have c59b0 : decide (a0 ≤ a2) = false := decide_eq_false c59
                                        clear c59
                                        obtain rfl := Option.some.inj H
                                        go_wp2
                                        go_ret
                                        exact ⟨by first | rfl | (simp [errW_none, errW_some] <;> rfl) | (simp [*, errW_none, errW_some] <;> rfl), by repeat (first | (with_reducible first | exact HB.out | apply below_alloc | apply pw_below_drewN | apply below_drew1) | exact HB.out)⟩
                                  · as_aux_lemma =>
                                    rw [if_neg c57] at H
                                    have c57b0 : ((wrap64 (a4 - a2)) == 1) = false := beq_eq_false_iff_ne.mpr c57
                                    have c57b1 : ((wrap64 (a4 - a2)) != 1) = true := bne_iff_ne.mpr c57
                                    obtain rfl := Option.some.inj H
                                    go_wp2
                                    go_ret
                                    exact ⟨by first | rfl | (simp [errW_none, errW_some] <;> rfl) | (simp [*, errW_none, errW_some] <;> rfl), by repeat (first | (with_reducible first | exact HB.out | apply below_alloc | apply pw_below_drewN | apply below_drew1) | exact HB.out)⟩

/-- THE ONE PURE STATEMENT of bulkheadlaw01_NumTicks: yours. -/
def bulkheadlaw01_NumTicks.Pure : Prop := ∀ (a0 : Int) (a1 : Int) (a2 : Int) (a3 : Int) (a4 : Int), (Lit.int .i64 a0).wf = true → (Lit.int .i64 a1).wf = true → (Lit.int .i64 a2).wf = true → (Lit.int .i64 a3).wf = true → (Lit.int .i64 a4).wf = true → ∃ k, bulkheadlaw01_NumTicks.f k a0 a1 a2 a3 a4 = some true
theorem bulkheadlaw01_NumTicks.walk (P : bulkheadlaw01_NumTicks.Pure) (a0 : Int) (a1 : Int) (a2 : Int) (a3 : Int) (a4 : Int) (w : World) (w0 : (Lit.int .i64 a0).wf = true) (w1 : (Lit.int .i64 a1).wf = true) (w2 : (Lit.int .i64 a2).wf = true) (w3 : (Lit.int .i64 a3).wf = true) (w4 : (Lit.int .i64 a4).wf = true) :
    Calls Try.prog 4 #[.int .i64 a0, .int .i64 a1, .int .i64 a2, .int .i64 a3, .int .i64 a4] w fun e w' => e = .returned (.bool true) ∧ Below w.heap.size w w' := by
  obtain ⟨k, h⟩ := P a0 a1 a2 a3 a4 w0 w1 w2 w3 w4
  refine (bulkheadlaw01_NumTicks.calls k a0 a1 a2 a3 a4 true w h).mono ?_
  rintro e w' ⟨rfl, hd⟩
  exact ⟨rfl, hd⟩

end Go.Proofs.Ytceeoifbimlkdaa.PNumTicks
