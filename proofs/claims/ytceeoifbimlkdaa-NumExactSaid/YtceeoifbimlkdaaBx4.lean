/- Lean functions for the Go functions of one law, and proofs that the calls come to them: made by a program of this session (wip/tools/plug.py) over the printer of the kit; no conditions. -/
import Derived.Test.YtceeoifbimlkdaaBx0
import Derived.Test.YtceeoifbimlkdaaBx1
import Derived.Test.YtceeoifbimlkdaaBx2
namespace Go.Proofs.Ytceeoifbimlkdaa.B
open Go.RowKit Go.Proofs.YtceeoifbimlkdaaW.PrintWords Go.Proofs.YtceeoifbimlkdaaW.PrintLast Go.Proofs.YtceeoifbimlkdaaW.PrintMore
attribute [local go_sem] max2_int min2_int max_two min_two max_three min_three max_four min_four   -- for this text's walks alone
set_option linter.unusedVariables false
set_option linter.unusedSimpArgs false

/-! ### num_Lcm_int64: function 18 -/
mutual
def num_Lcm_int64.l0 : Nat → List Int → Int → Int → Option (Int × Bool)
  | 0, _, _, _ => none
  | k + 1, x0, x1, x6 => num_Lcm_int64.l1 k x0 x1 x6 x0 (x0.length : Int) 0
def num_Lcm_int64.l1 : Nat → List Int → Int → Int → List Int → Int → Int → Option (Int × Bool)
  | 0, _, _, _, _, _, _ => none
  | k + 1, x0, x1, x6, x12, x13, x14 => if x14 < x13 then (if 0 ≤ x14 then (if x14 < (x12.length : Int) then (if (rd x12 x14) < 1 then (some (0, false)) else (num_Lcm_int64.l1 k x0 x1 x6 x12 x13 (wrap64 (x14 + 1)))) else (none)) else (none)) else (num_Lcm_int64.l2 k x1 x6 x0 (x0.length : Int) 0)
def num_Lcm_int64.l2 : Nat → Int → Int → List Int → Int → Int → Option (Int × Bool)
  | 0, _, _, _, _, _ => none
  | k + 1, x1, x6, x21, x22, x23 => if x23 < x22 then (if 0 ≤ x23 then (if x23 < (x21.length : Int) then ((num_Gcd_int64.f k x6 (rd x21 x23)).bind fun t146 => (if t146 = 0 then (none) else (if x6 = 0 then (none) else (if (wrap64 (Int.tdiv (rd x21 x23) t146)) > (wrap64 (Int.tdiv x1 x6)) then (some (0, false)) else (num_Lcm_int64.l2 k x1 (wrap64 (x6 * (wrap64 (Int.tdiv (rd x21 x23) t146)))) x21 x22 (wrap64 (x23 + 1))))))) else (none)) else (none)) else (if x6 > x1 then (some (0, false)) else (some (x6, true)))
end
def num_Lcm_int64.f (k : Nat) (l0 : List Int) (a1 : Int) : Option (Int × Bool) := num_Lcm_int64.l0 k l0 a1 1
theorem num_Lcm_int64.mono_l : ∀ k, (∀ y0 y1 y2, LeO (num_Lcm_int64.l0 k y0 y1 y2) (num_Lcm_int64.l0 (k + 1) y0 y1 y2)) ∧ (∀ y0 y1 y2 y3 y4 y5, LeO (num_Lcm_int64.l1 k y0 y1 y2 y3 y4 y5) (num_Lcm_int64.l1 (k + 1) y0 y1 y2 y3 y4 y5)) ∧ (∀ y0 y1 y2 y3 y4, LeO (num_Lcm_int64.l2 k y0 y1 y2 y3 y4) (num_Lcm_int64.l2 (k + 1) y0 y1 y2 y3 y4))
  | 0 => ⟨fun _ _ _ r h => by simp [num_Lcm_int64.l0] at h, fun _ _ _ _ _ _ r h => by simp [num_Lcm_int64.l1] at h, fun _ _ _ _ _ r h => by simp [num_Lcm_int64.l2] at h⟩
  | k + 1 => by
    obtain ⟨ih0, ih1, ih2⟩ := num_Lcm_int64.mono_l k
    refine ⟨?_, ?_, ?_⟩
    · intro y0 y1 y2
      unfold num_Lcm_int64.l0
      repeat' first
      | (with_reducible exact ih0 _ _ _)
      | (with_reducible exact ih1 _ _ _ _ _ _)
      | (with_reducible exact ih2 _ _ _ _ _)
      | (with_reducible exact num_Gcd_int64.mono _ _ _)
      | (with_reducible exact LeO.refl _)
      | (with_reducible exact LeO.none _)
      | (with_reducible refine LeO.ite ?_ ?_)
      | (with_reducible refine LeO.bind ?_ (fun _ => ?_))
      | exact ih0 _ _ _
      | exact ih1 _ _ _ _ _ _
      | exact ih2 _ _ _ _ _
      | exact num_Gcd_int64.mono _ _ _
      | exact LeO.none _
      | refine LeO.ite ?_ ?_
      | refine LeO.bind ?_ (fun _ => ?_)
    · intro y0 y1 y2 y3 y4 y5
      unfold num_Lcm_int64.l1
      repeat' first
      | (with_reducible exact ih0 _ _ _)
      | (with_reducible exact ih1 _ _ _ _ _ _)
      | (with_reducible exact ih2 _ _ _ _ _)
      | (with_reducible exact num_Gcd_int64.mono _ _ _)
      | (with_reducible exact LeO.refl _)
      | (with_reducible exact LeO.none _)
      | (with_reducible refine LeO.ite ?_ ?_)
      | (with_reducible refine LeO.bind ?_ (fun _ => ?_))
      | exact ih0 _ _ _
      | exact ih1 _ _ _ _ _ _
      | exact ih2 _ _ _ _ _
      | exact num_Gcd_int64.mono _ _ _
      | exact LeO.none _
      | refine LeO.ite ?_ ?_
      | refine LeO.bind ?_ (fun _ => ?_)
    · intro y0 y1 y2 y3 y4
      unfold num_Lcm_int64.l2
      repeat' first
      | (with_reducible exact ih0 _ _ _)
      | (with_reducible exact ih1 _ _ _ _ _ _)
      | (with_reducible exact ih2 _ _ _ _ _)
      | (with_reducible exact num_Gcd_int64.mono _ _ _)
      | (with_reducible exact LeO.refl _)
      | (with_reducible exact LeO.none _)
      | (with_reducible refine LeO.ite ?_ ?_)
      | (with_reducible refine LeO.bind ?_ (fun _ => ?_))
      | exact ih0 _ _ _
      | exact ih1 _ _ _ _ _ _
      | exact ih2 _ _ _ _ _
      | exact num_Gcd_int64.mono _ _ _
      | exact LeO.none _
      | refine LeO.ite ?_ ?_
      | refine LeO.bind ?_ (fun _ => ?_)
theorem num_Lcm_int64.mono : ∀ a0 a1 k, LeO (num_Lcm_int64.f k a0 a1) (num_Lcm_int64.f (k + 1) a0 a1) := by
  intro a0 a1 k
  obtain ⟨ih0, ih1, ih2⟩ := num_Lcm_int64.mono_l k
  unfold num_Lcm_int64.f
  repeat' first
      | (with_reducible exact ih0 _ _ _)
      | (with_reducible exact ih1 _ _ _ _ _ _)
      | (with_reducible exact ih2 _ _ _ _ _)
      | (with_reducible exact num_Gcd_int64.mono _ _ _)
      | (with_reducible exact LeO.refl _)
      | (with_reducible exact LeO.none _)
      | (with_reducible refine LeO.ite ?_ ?_)
      | (with_reducible refine LeO.bind ?_ (fun _ => ?_))
      | exact ih0 _ _ _
      | exact ih1 _ _ _ _ _ _
      | exact ih2 _ _ _ _ _
      | exact num_Gcd_int64.mono _ _ _
      | exact LeO.none _
      | refine LeO.ite ?_ ?_
      | refine LeO.bind ?_ (fun _ => ?_)
set_option maxHeartbeats 8000000 in
set_option maxRecDepth 100000 in
theorem num_Lcm_int64.calls (k : Nat) (A0 : Option Addr) (c0 : Nat) (l0 : List Int) (a1 : Int) (r1 : Int) (r2 : Bool) (w : World) (hr0 : Kd.C (Kd.int .i64) w A0 l0.length l0) (hc0 : l0.length ≤ c0) (h : num_Lcm_int64.f k l0 a1 = some (r1, r2)) :
    Calls Try.prog 18 #[.slice A0 l0.length c0, .int .i64 a1] w fun e w' => e = .returned (.tuple #[.int .i64 r1, .bool r2]) ∧ Below w.heap.size w w' := by
  have HR0 := Aside0.mk hr0
  have HC0 := Aside0.mk hc0
  clear hr0 hc0
  have HB := Aside0.mk (Below.refl w.heap.size w)
  have H : (num_Lcm_int64.l0 k l0 a1 1) = some (r1, r2) := h
  clear h
  have H' := Aside0.mk H
  clear H
  go_enter Try.func18, Try.ntmps18
  (go_wp2; repeat (go_step3; go_wp2))
  go_loopg [6] k (fun kq v6 w' => ∃ (x6_1 : Int), v6 = .int .i64 x6_1 ∧ Aside0 (num_Lcm_int64.l0 kq l0 a1 x6_1 = some (r1, r2)) ∧ Aside0 (kq ≤ k) ∧ Aside0 (Below w.heap.size w w'))
  case atStart => exact ⟨(1), (by first | rfl | (simp; done) | (simp [*]; done)), H', ⟨Nat.le_refl _⟩, ⟨by repeat (first | (with_reducible first | exact HB.out | apply below_alloc | apply pw_below_drewN | apply below_drew1) | exact HB.out)⟩⟩
  case round =>
    clear H'
    try clear c1
    try clear p2
    obtain ⟨x6_1, rfl, HA, HK1, HB⟩ := hrel
    cases gk with
    | zero => exact absurd HA.out (by simp [num_Lcm_int64.l0])
    | succ k1 =>
      have H := HA.out
      clear HA
      simp only [num_Lcm_int64.l0] at H
      have H' := Aside0.mk H
      clear H
      (go_wp2; repeat (go_step3; go_wp2))
      go_loopg [14] k1 (fun kq v14 w' => ∃ (x14_2 : Int), v14 = .int .i64 x14_2 ∧ Aside0 (num_Lcm_int64.l1 kq l0 a1 x6_1 l0 (l0.length : Int) x14_2 = some (r1, r2)) ∧ Aside0 (kq ≤ k1) ∧ Aside0 (Below w.heap.size w w'))
      case atStart => exact ⟨(0), (by first | rfl | (simp; done) | (simp [*]; done)), H', ⟨Nat.le_refl _⟩, ⟨by repeat (first | (with_reducible first | exact HB.out | apply below_alloc | apply pw_below_drewN | apply below_drew1) | exact HB.out)⟩⟩
      case round =>
        clear H'
        try clear c1
        try clear p2
        try clear p2
        obtain ⟨x14_2, rfl, HA, HK2, HB⟩ := hrel
        cases gk with
        | zero => exact absurd HA.out (by simp [num_Lcm_int64.l1])
        | succ k2 =>
          have H := HA.out
          clear HA
          simp only [num_Lcm_int64.l1] at H
          by_cases c3 : x14_2 < (l0.length : Int)
          · as_aux_lemma =>
            rw [if_pos c3] at H
            have c3b0 : decide (x14_2 < (l0.length : Int)) = true := decide_eq_true c3
            clear c3
            by_cases c4 : 0 ≤ x14_2
            · as_aux_lemma =>
              rw [if_pos c4] at H
              have c4b0 : decide (0 ≤ x14_2) = true := decide_eq_true c4
              clear c4
              by_cases c5 : x14_2 < (l0.length : Int)
              · as_aux_lemma =>
                rw [if_pos c5] at H
                have c5b0 : decide (x14_2 < (l0.length : Int)) = true := decide_eq_true c5
                clear c5
                by_cases c6 : (rd l0 x14_2) < 1
                · as_aux_lemma =>
                  rw [if_pos c6] at H
                  have c6b0 : decide ((rd l0 x14_2) < 1) = true := decide_eq_true c6
                  clear c6
                  simp only [Option.some.injEq, Prod.mk.injEq] at H
                  obtain ⟨rfl, rfl⟩ := H
                  have p144 : 0 ≤ (x14_2 : Int) := of_decide_eq_true (by first | (with_reducible assumption) | assumption)
                  have q144 : x14_2 < (l0.length : Int) := of_decide_eq_true (by first | (with_reducible assumption) | assumption)
                  obtain ⟨ad144, e144, hx144_0⟩ := Kd.at_int HR0.out x14_2 p144 q144
                  cases e144
                  replace hx144_0 := (HB.out.cell (World.block_lt_of_cell? w _ hx144_0)).trans hx144_0
                  replace p144 := eq_true p144
                  replace q144 := eq_true q144
                  (go_wp2; repeat (go_step3; go_wp2))
                  ((try rw [Exit.noGoto_ret]); go_ret2)
                  exact ⟨by first | rfl | (simp [errW_none, errW_some] <;> rfl) | (simp [*, errW_none, errW_some] <;> rfl), by repeat (first | (with_reducible first | exact HB.out | apply below_alloc | apply pw_below_drewN | apply below_drew1) | exact HB.out)⟩
                · as_aux_lemma =>
                  rw [if_neg c6] at H
                  have c6b0 : decide ((rd l0 x14_2) < 1) = false := decide_eq_false c6
                  clear c6
                  have H' := Aside0.mk H
                  clear H
                  have p144 : 0 ≤ (x14_2 : Int) := of_decide_eq_true (by first | (with_reducible assumption) | assumption)
                  have q144 : x14_2 < (l0.length : Int) := of_decide_eq_true (by first | (with_reducible assumption) | assumption)
                  obtain ⟨ad144, e144, hx144_0⟩ := Kd.at_int HR0.out x14_2 p144 q144
                  cases e144
                  replace hx144_0 := (HB.out.cell (World.block_lt_of_cell? w _ hx144_0)).trans hx144_0
                  replace p144 := eq_true p144
                  replace q144 := eq_true q144
                  (go_wp2; repeat (go_step3; go_wp2))
                  go_roundg k2
                  case measure => have := HK1.out; have := HK2.out; omega
                  case rel => exact ⟨(wrap64 (x14_2 + 1)), (by first | rfl | (simp; done) | (simp [*]; done)), H', ⟨by have := HK1.out; have := HK2.out; omega⟩, ⟨by repeat (first | (with_reducible first | exact HB.out | apply below_alloc | apply pw_below_drewN | apply below_drew1) | exact HB.out)⟩⟩
              · as_aux_lemma =>
                rw [if_neg c5] at H
                exact absurd H (by simp)
            · as_aux_lemma =>
              rw [if_neg c4] at H
              exact absurd H (by simp)
          · as_aux_lemma =>
            rw [if_neg c3] at H
            have c3b0 : decide (x14_2 < (l0.length : Int)) = false := decide_eq_false c3
            clear c3
            have H' := Aside0.mk H
            clear H
            (go_wp2; repeat (go_step3; go_wp2))
            go_loopg [6, 23] k2 (fun kq v6 v23 w' => ∃ (x6_3 : Int) (x23_3 : Int), v6 = .int .i64 x6_3 ∧ v23 = .int .i64 x23_3 ∧ Aside0 (num_Lcm_int64.l2 kq a1 x6_3 l0 (l0.length : Int) x23_3 = some (r1, r2)) ∧ Aside0 (kq ≤ k2) ∧ Aside0 (Below w.heap.size w w'))
            case atStart => exact ⟨(x6_1), (0), (by first | rfl | (simp; done) | (simp [*]; done)), (by first | rfl | (simp; done) | (simp [*]; done)), H', ⟨Nat.le_refl _⟩, ⟨by repeat (first | (with_reducible first | exact HB.out | apply below_alloc | apply pw_below_drewN | apply below_drew1) | exact HB.out)⟩⟩
            case round =>
              clear H'
              try clear c1
              try clear p1
              try clear q1
              try clear hx1
              try clear p2
              try clear c3
              try clear c3b0
              try clear c4
              try clear c4b0
              try clear c5
              try clear c5b0
              try clear c6
              try clear c6b0
              try clear p6
              try clear hx144_0
              try clear p144
              try clear p2
              try clear q144
              obtain ⟨x6_3, x23_3, rfl, rfl, HA, HK3, HB⟩ := hrel
              cases gk with
              | zero => exact absurd HA.out (by simp [num_Lcm_int64.l2])
              | succ k3 =>
                have H := HA.out
                clear HA
                simp only [num_Lcm_int64.l2] at H
                by_cases c7 : x23_3 < (l0.length : Int)
                · as_aux_lemma =>
                  rw [if_pos c7] at H
                  have c7b0 : decide (x23_3 < (l0.length : Int)) = true := decide_eq_true c7
                  clear c7
                  by_cases c8 : 0 ≤ x23_3
                  · as_aux_lemma =>
                    rw [if_pos c8] at H
                    have c8b0 : decide (0 ≤ x23_3) = true := decide_eq_true c8
                    clear c8
                    by_cases c9 : x23_3 < (l0.length : Int)
                    · as_aux_lemma =>
                      rw [if_pos c9] at H
                      have c9b0 : decide (x23_3 < (l0.length : Int)) = true := decide_eq_true c9
                      clear c9
                      replace H := Option.bind_eq_some_iff.mp H
                      obtain ⟨t146, A100, H⟩ := H
                      replace H : (if t146 = 0 then (none) else (if x6_3 = 0 then (none) else (if (wrap64 (Int.tdiv (rd l0 x23_3) t146)) > (wrap64 (Int.tdiv a1 x6_3)) then (some (0, false)) else (num_Lcm_int64.l2 k3 a1 (wrap64 (x6_3 * (wrap64 (Int.tdiv (rd l0 x23_3) t146)))) l0 (l0.length : Int) (wrap64 (x23_3 + 1)))))) = some (r1, r2) := H
                      have A10 := Aside0.mk A100
                      clear A100
                      by_cases c11 : t146 = 0
                      · as_aux_lemma =>
                        rw [if_pos c11] at H
                        exact absurd H (by simp)
                      · as_aux_lemma =>
                        rw [if_neg c11] at H
                        have c11b0 : (t146 == 0) = false := beq_eq_false_iff_ne.mpr c11
                        have c11b1 : (t146 != 0) = true := bne_iff_ne.mpr c11
                        by_cases c12 : x6_3 = 0
                        · as_aux_lemma =>
                          rw [if_pos c12] at H
                          exact absurd H (by simp)
                        · as_aux_lemma =>
                          rw [if_neg c12] at H
                          have c12b0 : (x6_3 == 0) = false := beq_eq_false_iff_ne.mpr c12
                          have c12b1 : (x6_3 != 0) = true := bne_iff_ne.mpr c12
                          by_cases c13 : (wrap64 (Int.tdiv (rd l0 x23_3) t146)) > (wrap64 (Int.tdiv a1 x6_3))
                          · as_aux_lemma =>
                            rw [if_pos c13] at H
                            have c13b0 : decide ((wrap64 (Int.tdiv a1 x6_3)) < (wrap64 (Int.tdiv (rd l0 x23_3) t146))) = true := decide_eq_true c13
                            clear c13
                            simp only [Option.some.injEq, Prod.mk.injEq] at H
                            obtain ⟨rfl, rfl⟩ := H
                            have p145 : 0 ≤ (x23_3 : Int) := of_decide_eq_true (by first | (with_reducible assumption) | assumption)
                            have q145 : x23_3 < (l0.length : Int) := of_decide_eq_true (by first | (with_reducible assumption) | assumption)
                            obtain ⟨ad145, e145, hx145_0⟩ := Kd.at_int HR0.out x23_3 p145 q145
                            cases e145
                            replace hx145_0 := (HB.out.cell (World.block_lt_of_cell? w _ hx145_0)).trans hx145_0
                            replace p145 := eq_true p145
                            replace q145 := eq_true q145
                            go_wp2_with (first | ((with_reducible refine gate_callee (f := 19) rfl ?_); refine goesL_ (some 30) rfl rfl Try.func19 (by kernel_rfl) rfl #[.int .i64 x6_3, .int .i64 (rd l0 x23_3)] rfl (by (try simp only [List.map_toArray, List.map_cons, List.map_nil]); first | done | rfl | (simp only [List.length_drop, List.length_take]; rfl)) ?_; (with_reducible refine (num_Gcd_int64.calls k3 x6_3 (rd l0 x23_3) t146 _ A10.out).mono ?_); rintro e w14 ⟨rfl, hb⟩; refine ⟨_, rfl, ?_⟩; have n0_ := Aside0.mk (below_step (by repeat (first | (with_reducible first | exact HB.out | apply below_alloc | apply pw_below_drewN | apply below_drew1) | exact HB.out)) hb); clear HB; have HB := n0_; clear n0_; (try clear hb); (try clear hb2); (try clear hk); (try clear hi)))
                            ((try rw [Exit.noGoto_ret]); go_ret2)
                            exact ⟨by first | rfl | (simp [errW_none, errW_some] <;> rfl) | (simp [*, errW_none, errW_some] <;> rfl), by repeat (first | (with_reducible first | exact HB.out | apply below_alloc | apply pw_below_drewN | apply below_drew1) | exact HB.out)⟩
                          · as_aux_lemma =>
                            rw [if_neg c13] at H
                            have c13b0 : decide ((wrap64 (Int.tdiv a1 x6_3)) < (wrap64 (Int.tdiv (rd l0 x23_3) t146))) = false := decide_eq_false c13
                            clear c13
                            have H' := Aside0.mk H
                            clear H
                            have p145 : 0 ≤ (x23_3 : Int) := of_decide_eq_true (by first | (with_reducible assumption) | assumption)
                            have q145 : x23_3 < (l0.length : Int) := of_decide_eq_true (by first | (with_reducible assumption) | assumption)
                            obtain ⟨ad145, e145, hx145_0⟩ := Kd.at_int HR0.out x23_3 p145 q145
                            cases e145
                            replace hx145_0 := (HB.out.cell (World.block_lt_of_cell? w _ hx145_0)).trans hx145_0
                            replace p145 := eq_true p145
                            replace q145 := eq_true q145
                            go_wp2_with (first | ((with_reducible refine gate_callee (f := 19) rfl ?_); refine goesL_ (some 30) rfl rfl Try.func19 (by kernel_rfl) rfl #[.int .i64 x6_3, .int .i64 (rd l0 x23_3)] rfl (by (try simp only [List.map_toArray, List.map_cons, List.map_nil]); first | done | rfl | (simp only [List.length_drop, List.length_take]; rfl)) ?_; (with_reducible refine (num_Gcd_int64.calls k3 x6_3 (rd l0 x23_3) t146 _ A10.out).mono ?_); rintro e w15 ⟨rfl, hb⟩; refine ⟨_, rfl, ?_⟩; have n0_ := Aside0.mk (below_step (by repeat (first | (with_reducible first | exact HB.out | apply below_alloc | apply pw_below_drewN | apply below_drew1) | exact HB.out)) hb); clear HB; have HB := n0_; clear n0_; (try clear hb); (try clear hb2); (try clear hk); (try clear hi)))
                            go_roundg k3
                            case measure => have := HK1.out; have := HK2.out; have := HK3.out; omega
                            case rel => exact ⟨(wrap64 (x6_3 * (wrap64 (Int.tdiv (rd l0 x23_3) t146)))), (wrap64 (x23_3 + 1)), (by first | rfl | (simp; done) | (simp [*]; done)), (by first | rfl | (simp; done) | (simp [*]; done)), H', ⟨by have := HK1.out; have := HK2.out; have := HK3.out; omega⟩, ⟨by repeat (first | (with_reducible first | exact HB.out | apply below_alloc | apply pw_below_drewN | apply below_drew1) | exact HB.out)⟩⟩
                    · as_aux_lemma =>
                      rw [if_neg c9] at H
                      exact absurd H (by simp)
                  · as_aux_lemma =>
                    rw [if_neg c8] at H
                    exact absurd H (by simp)
                · as_aux_lemma =>
                  rw [if_neg c7] at H
                  have c7b0 : decide (x23_3 < (l0.length : Int)) = false := decide_eq_false c7
                  clear c7
                  by_cases c16 : x6_3 > a1
                  · as_aux_lemma =>
                    rw [if_pos c16] at H
                    have c16b0 : decide (a1 < x6_3) = true := decide_eq_true c16
                    clear c16
                    simp only [Option.some.injEq, Prod.mk.injEq] at H
                    obtain ⟨rfl, rfl⟩ := H
                    (go_wp2; repeat (go_step3; go_wp2))
                    ((try rw [Exit.noGoto_ret]); go_ret2)
                    exact ⟨by first | rfl | (simp [errW_none, errW_some] <;> rfl) | (simp [*, errW_none, errW_some] <;> rfl), by repeat (first | (with_reducible first | exact HB.out | apply below_alloc | apply pw_below_drewN | apply below_drew1) | exact HB.out)⟩
                  · as_aux_lemma =>
                    rw [if_neg c16] at H
                    have c16b0 : decide (a1 < x6_3) = false := decide_eq_false c16
                    clear c16
                    simp only [Option.some.injEq, Prod.mk.injEq] at H
                    obtain ⟨rfl, rfl⟩ := H
                    (go_wp2; repeat (go_step3; go_wp2))
                    ((try rw [Exit.noGoto_ret]); go_ret2)
                    exact ⟨by first | rfl | (simp [errW_none, errW_some] <;> rfl) | (simp [*, errW_none, errW_some] <;> rfl), by repeat (first | (with_reducible first | exact HB.out | apply below_alloc | apply pw_below_drewN | apply below_drew1) | exact HB.out)⟩

/-! ### num_Lcm_int: function 109 -/
mutual
def num_Lcm_int.l0 : Nat → List Int → Int → Int → Option (Int × Bool)
  | 0, _, _, _ => none
  | k + 1, x0, x1, x6 => num_Lcm_int.l1 k x0 x1 x6 x0 (x0.length : Int) 0
def num_Lcm_int.l1 : Nat → List Int → Int → Int → List Int → Int → Int → Option (Int × Bool)
  | 0, _, _, _, _, _, _ => none
  | k + 1, x0, x1, x6, x12, x13, x14 => if x14 < x13 then (if 0 ≤ x14 then (if x14 < (x12.length : Int) then (if (rd x12 x14) < 1 then (some (0, false)) else (num_Lcm_int.l1 k x0 x1 x6 x12 x13 (wrap64 (x14 + 1)))) else (none)) else (none)) else (num_Lcm_int.l2 k x1 x6 x0 (x0.length : Int) 0)
def num_Lcm_int.l2 : Nat → Int → Int → List Int → Int → Int → Option (Int × Bool)
  | 0, _, _, _, _, _ => none
  | k + 1, x1, x6, x21, x22, x23 => if x23 < x22 then (if 0 ≤ x23 then (if x23 < (x21.length : Int) then ((num_Gcd_int.f k x6 (rd x21 x23)).bind fun t149 => (if t149 = 0 then (none) else (if x6 = 0 then (none) else (if (wrap64 (Int.tdiv (rd x21 x23) t149)) > (wrap64 (Int.tdiv x1 x6)) then (some (0, false)) else (num_Lcm_int.l2 k x1 (wrap64 (x6 * (wrap64 (Int.tdiv (rd x21 x23) t149)))) x21 x22 (wrap64 (x23 + 1))))))) else (none)) else (none)) else (if x6 > x1 then (some (0, false)) else (some (x6, true)))
end
def num_Lcm_int.f (k : Nat) (l0 : List Int) (a1 : Int) : Option (Int × Bool) := num_Lcm_int.l0 k l0 a1 1
theorem num_Lcm_int.mono_l : ∀ k, (∀ y0 y1 y2, LeO (num_Lcm_int.l0 k y0 y1 y2) (num_Lcm_int.l0 (k + 1) y0 y1 y2)) ∧ (∀ y0 y1 y2 y3 y4 y5, LeO (num_Lcm_int.l1 k y0 y1 y2 y3 y4 y5) (num_Lcm_int.l1 (k + 1) y0 y1 y2 y3 y4 y5)) ∧ (∀ y0 y1 y2 y3 y4, LeO (num_Lcm_int.l2 k y0 y1 y2 y3 y4) (num_Lcm_int.l2 (k + 1) y0 y1 y2 y3 y4))
  | 0 => ⟨fun _ _ _ r h => by simp [num_Lcm_int.l0] at h, fun _ _ _ _ _ _ r h => by simp [num_Lcm_int.l1] at h, fun _ _ _ _ _ r h => by simp [num_Lcm_int.l2] at h⟩
  | k + 1 => by
    obtain ⟨ih0, ih1, ih2⟩ := num_Lcm_int.mono_l k
    refine ⟨?_, ?_, ?_⟩
    · intro y0 y1 y2
      unfold num_Lcm_int.l0
      repeat' first
      | (with_reducible exact ih0 _ _ _)
      | (with_reducible exact ih1 _ _ _ _ _ _)
      | (with_reducible exact ih2 _ _ _ _ _)
      | (with_reducible exact num_Gcd_int.mono _ _ _)
      | (with_reducible exact LeO.refl _)
      | (with_reducible exact LeO.none _)
      | (with_reducible refine LeO.ite ?_ ?_)
      | (with_reducible refine LeO.bind ?_ (fun _ => ?_))
      | exact ih0 _ _ _
      | exact ih1 _ _ _ _ _ _
      | exact ih2 _ _ _ _ _
      | exact num_Gcd_int.mono _ _ _
      | exact LeO.none _
      | refine LeO.ite ?_ ?_
      | refine LeO.bind ?_ (fun _ => ?_)
    · intro y0 y1 y2 y3 y4 y5
      unfold num_Lcm_int.l1
      repeat' first
      | (with_reducible exact ih0 _ _ _)
      | (with_reducible exact ih1 _ _ _ _ _ _)
      | (with_reducible exact ih2 _ _ _ _ _)
      | (with_reducible exact num_Gcd_int.mono _ _ _)
      | (with_reducible exact LeO.refl _)
      | (with_reducible exact LeO.none _)
      | (with_reducible refine LeO.ite ?_ ?_)
      | (with_reducible refine LeO.bind ?_ (fun _ => ?_))
      | exact ih0 _ _ _
      | exact ih1 _ _ _ _ _ _
      | exact ih2 _ _ _ _ _
      | exact num_Gcd_int.mono _ _ _
      | exact LeO.none _
      | refine LeO.ite ?_ ?_
      | refine LeO.bind ?_ (fun _ => ?_)
    · intro y0 y1 y2 y3 y4
      unfold num_Lcm_int.l2
      repeat' first
      | (with_reducible exact ih0 _ _ _)
      | (with_reducible exact ih1 _ _ _ _ _ _)
      | (with_reducible exact ih2 _ _ _ _ _)
      | (with_reducible exact num_Gcd_int.mono _ _ _)
      | (with_reducible exact LeO.refl _)
      | (with_reducible exact LeO.none _)
      | (with_reducible refine LeO.ite ?_ ?_)
      | (with_reducible refine LeO.bind ?_ (fun _ => ?_))
      | exact ih0 _ _ _
      | exact ih1 _ _ _ _ _ _
      | exact ih2 _ _ _ _ _
      | exact num_Gcd_int.mono _ _ _
      | exact LeO.none _
      | refine LeO.ite ?_ ?_
      | refine LeO.bind ?_ (fun _ => ?_)
theorem num_Lcm_int.mono : ∀ a0 a1 k, LeO (num_Lcm_int.f k a0 a1) (num_Lcm_int.f (k + 1) a0 a1) := by
  intro a0 a1 k
  obtain ⟨ih0, ih1, ih2⟩ := num_Lcm_int.mono_l k
  unfold num_Lcm_int.f
  repeat' first
      | (with_reducible exact ih0 _ _ _)
      | (with_reducible exact ih1 _ _ _ _ _ _)
      | (with_reducible exact ih2 _ _ _ _ _)
      | (with_reducible exact num_Gcd_int.mono _ _ _)
      | (with_reducible exact LeO.refl _)
      | (with_reducible exact LeO.none _)
      | (with_reducible refine LeO.ite ?_ ?_)
      | (with_reducible refine LeO.bind ?_ (fun _ => ?_))
      | exact ih0 _ _ _
      | exact ih1 _ _ _ _ _ _
      | exact ih2 _ _ _ _ _
      | exact num_Gcd_int.mono _ _ _
      | exact LeO.none _
      | refine LeO.ite ?_ ?_
      | refine LeO.bind ?_ (fun _ => ?_)
set_option maxHeartbeats 8000000 in
set_option maxRecDepth 100000 in
theorem num_Lcm_int.calls (k : Nat) (A0 : Option Addr) (c0 : Nat) (l0 : List Int) (a1 : Int) (r1 : Int) (r2 : Bool) (w : World) (hr0 : Kd.C (Kd.int .i64) w A0 l0.length l0) (hc0 : l0.length ≤ c0) (h : num_Lcm_int.f k l0 a1 = some (r1, r2)) :
    Calls Try.prog 109 #[.slice A0 l0.length c0, .int .i64 a1] w fun e w' => e = .returned (.tuple #[.int .i64 r1, .bool r2]) ∧ Below w.heap.size w w' := by
  have HR0 := Aside0.mk hr0
  have HC0 := Aside0.mk hc0
  clear hr0 hc0
  have HB := Aside0.mk (Below.refl w.heap.size w)
  have H : (num_Lcm_int.l0 k l0 a1 1) = some (r1, r2) := h
  clear h
  have H' := Aside0.mk H
  clear H
  go_enter Try.func109, Try.ntmps109
  (go_wp2; repeat (go_step3; go_wp2))
  go_loopg [6] k (fun kq v6 w' => ∃ (x6_1 : Int), v6 = .int .i64 x6_1 ∧ Aside0 (num_Lcm_int.l0 kq l0 a1 x6_1 = some (r1, r2)) ∧ Aside0 (kq ≤ k) ∧ Aside0 (Below w.heap.size w w'))
  case atStart => exact ⟨(1), (by first | rfl | (simp; done) | (simp [*]; done)), H', ⟨Nat.le_refl _⟩, ⟨by repeat (first | (with_reducible first | exact HB.out | apply below_alloc | apply pw_below_drewN | apply below_drew1) | exact HB.out)⟩⟩
  case round =>
    clear H'
    try clear c1
    try clear p2
    obtain ⟨x6_1, rfl, HA, HK1, HB⟩ := hrel
    cases gk with
    | zero => exact absurd HA.out (by simp [num_Lcm_int.l0])
    | succ k1 =>
      have H := HA.out
      clear HA
      simp only [num_Lcm_int.l0] at H
      have H' := Aside0.mk H
      clear H
      (go_wp2; repeat (go_step3; go_wp2))
      go_loopg [14] k1 (fun kq v14 w' => ∃ (x14_2 : Int), v14 = .int .i64 x14_2 ∧ Aside0 (num_Lcm_int.l1 kq l0 a1 x6_1 l0 (l0.length : Int) x14_2 = some (r1, r2)) ∧ Aside0 (kq ≤ k1) ∧ Aside0 (Below w.heap.size w w'))
      case atStart => exact ⟨(0), (by first | rfl | (simp; done) | (simp [*]; done)), H', ⟨Nat.le_refl _⟩, ⟨by repeat (first | (with_reducible first | exact HB.out | apply below_alloc | apply pw_below_drewN | apply below_drew1) | exact HB.out)⟩⟩
      case round =>
        clear H'
        try clear c1
        try clear p2
        try clear p2
        obtain ⟨x14_2, rfl, HA, HK2, HB⟩ := hrel
        cases gk with
        | zero => exact absurd HA.out (by simp [num_Lcm_int.l1])
        | succ k2 =>
          have H := HA.out
          clear HA
          simp only [num_Lcm_int.l1] at H
          by_cases c3 : x14_2 < (l0.length : Int)
          · as_aux_lemma =>
            rw [if_pos c3] at H
            have c3b0 : decide (x14_2 < (l0.length : Int)) = true := decide_eq_true c3
            clear c3
            by_cases c4 : 0 ≤ x14_2
            · as_aux_lemma =>
              rw [if_pos c4] at H
              have c4b0 : decide (0 ≤ x14_2) = true := decide_eq_true c4
              clear c4
              by_cases c5 : x14_2 < (l0.length : Int)
              · as_aux_lemma =>
                rw [if_pos c5] at H
                have c5b0 : decide (x14_2 < (l0.length : Int)) = true := decide_eq_true c5
                clear c5
                by_cases c6 : (rd l0 x14_2) < 1
                · as_aux_lemma =>
                  rw [if_pos c6] at H
                  have c6b0 : decide ((rd l0 x14_2) < 1) = true := decide_eq_true c6
                  clear c6
                  simp only [Option.some.injEq, Prod.mk.injEq] at H
                  obtain ⟨rfl, rfl⟩ := H
                  have p147 : 0 ≤ (x14_2 : Int) := of_decide_eq_true (by first | (with_reducible assumption) | assumption)
                  have q147 : x14_2 < (l0.length : Int) := of_decide_eq_true (by first | (with_reducible assumption) | assumption)
                  obtain ⟨ad147, e147, hx147_0⟩ := Kd.at_int HR0.out x14_2 p147 q147
                  cases e147
                  replace hx147_0 := (HB.out.cell (World.block_lt_of_cell? w _ hx147_0)).trans hx147_0
                  replace p147 := eq_true p147
                  replace q147 := eq_true q147
                  (go_wp2; repeat (go_step3; go_wp2))
                  ((try rw [Exit.noGoto_ret]); go_ret2)
                  exact ⟨by first | rfl | (simp [errW_none, errW_some] <;> rfl) | (simp [*, errW_none, errW_some] <;> rfl), by repeat (first | (with_reducible first | exact HB.out | apply below_alloc | apply pw_below_drewN | apply below_drew1) | exact HB.out)⟩
                · as_aux_lemma =>
                  rw [if_neg c6] at H
                  have c6b0 : decide ((rd l0 x14_2) < 1) = false := decide_eq_false c6
                  clear c6
                  have H' := Aside0.mk H
                  clear H
                  have p147 : 0 ≤ (x14_2 : Int) := of_decide_eq_true (by first | (with_reducible assumption) | assumption)
                  have q147 : x14_2 < (l0.length : Int) := of_decide_eq_true (by first | (with_reducible assumption) | assumption)
                  obtain ⟨ad147, e147, hx147_0⟩ := Kd.at_int HR0.out x14_2 p147 q147
                  cases e147
                  replace hx147_0 := (HB.out.cell (World.block_lt_of_cell? w _ hx147_0)).trans hx147_0
                  replace p147 := eq_true p147
                  replace q147 := eq_true q147
                  (go_wp2; repeat (go_step3; go_wp2))
                  go_roundg k2
                  case measure => have := HK1.out; have := HK2.out; omega
                  case rel => exact ⟨(wrap64 (x14_2 + 1)), (by first | rfl | (simp; done) | (simp [*]; done)), H', ⟨by have := HK1.out; have := HK2.out; omega⟩, ⟨by repeat (first | (with_reducible first | exact HB.out | apply below_alloc | apply pw_below_drewN | apply below_drew1) | exact HB.out)⟩⟩
              · as_aux_lemma =>
                rw [if_neg c5] at H
                exact absurd H (by simp)
            · as_aux_lemma =>
              rw [if_neg c4] at H
              exact absurd H (by simp)
          · as_aux_lemma =>
            rw [if_neg c3] at H
            have c3b0 : decide (x14_2 < (l0.length : Int)) = false := decide_eq_false c3
            clear c3
            have H' := Aside0.mk H
            clear H
            (go_wp2; repeat (go_step3; go_wp2))
            go_loopg [6, 23] k2 (fun kq v6 v23 w' => ∃ (x6_3 : Int) (x23_3 : Int), v6 = .int .i64 x6_3 ∧ v23 = .int .i64 x23_3 ∧ Aside0 (num_Lcm_int.l2 kq a1 x6_3 l0 (l0.length : Int) x23_3 = some (r1, r2)) ∧ Aside0 (kq ≤ k2) ∧ Aside0 (Below w.heap.size w w'))
            case atStart => exact ⟨(x6_1), (0), (by first | rfl | (simp; done) | (simp [*]; done)), (by first | rfl | (simp; done) | (simp [*]; done)), H', ⟨Nat.le_refl _⟩, ⟨by repeat (first | (with_reducible first | exact HB.out | apply below_alloc | apply pw_below_drewN | apply below_drew1) | exact HB.out)⟩⟩
            case round =>
              clear H'
              try clear c1
              try clear p1
              try clear q1
              try clear hx1
              try clear p2
              try clear c3
              try clear c3b0
              try clear c4
              try clear c4b0
              try clear c5
              try clear c5b0
              try clear c6
              try clear c6b0
              try clear p6
              try clear hx147_0
              try clear p147
              try clear p2
              try clear q147
              obtain ⟨x6_3, x23_3, rfl, rfl, HA, HK3, HB⟩ := hrel
              cases gk with
              | zero => exact absurd HA.out (by simp [num_Lcm_int.l2])
              | succ k3 =>
                have H := HA.out
                clear HA
                simp only [num_Lcm_int.l2] at H
                by_cases c7 : x23_3 < (l0.length : Int)
                · as_aux_lemma =>
                  rw [if_pos c7] at H
                  have c7b0 : decide (x23_3 < (l0.length : Int)) = true := decide_eq_true c7
                  clear c7
                  by_cases c8 : 0 ≤ x23_3
                  · as_aux_lemma =>
                    rw [if_pos c8] at H
                    have c8b0 : decide (0 ≤ x23_3) = true := decide_eq_true c8
                    clear c8
                    by_cases c9 : x23_3 < (l0.length : Int)
                    · as_aux_lemma =>
                      rw [if_pos c9] at H
                      have c9b0 : decide (x23_3 < (l0.length : Int)) = true := decide_eq_true c9
                      clear c9
                      replace H := Option.bind_eq_some_iff.mp H
                      obtain ⟨t149, A100, H⟩ := H
                      replace H : (if t149 = 0 then (none) else (if x6_3 = 0 then (none) else (if (wrap64 (Int.tdiv (rd l0 x23_3) t149)) > (wrap64 (Int.tdiv a1 x6_3)) then (some (0, false)) else (num_Lcm_int.l2 k3 a1 (wrap64 (x6_3 * (wrap64 (Int.tdiv (rd l0 x23_3) t149)))) l0 (l0.length : Int) (wrap64 (x23_3 + 1)))))) = some (r1, r2) := H
                      have A10 := Aside0.mk A100
                      clear A100
                      by_cases c11 : t149 = 0
                      · as_aux_lemma =>
                        rw [if_pos c11] at H
                        exact absurd H (by simp)
                      · as_aux_lemma =>
                        rw [if_neg c11] at H
                        have c11b0 : (t149 == 0) = false := beq_eq_false_iff_ne.mpr c11
                        have c11b1 : (t149 != 0) = true := bne_iff_ne.mpr c11
                        by_cases c12 : x6_3 = 0
                        · as_aux_lemma =>
                          rw [if_pos c12] at H
                          exact absurd H (by simp)
                        · as_aux_lemma =>
                          rw [if_neg c12] at H
                          have c12b0 : (x6_3 == 0) = false := beq_eq_false_iff_ne.mpr c12
                          have c12b1 : (x6_3 != 0) = true := bne_iff_ne.mpr c12
                          by_cases c13 : (wrap64 (Int.tdiv (rd l0 x23_3) t149)) > (wrap64 (Int.tdiv a1 x6_3))
                          · as_aux_lemma =>
                            rw [if_pos c13] at H
                            have c13b0 : decide ((wrap64 (Int.tdiv a1 x6_3)) < (wrap64 (Int.tdiv (rd l0 x23_3) t149))) = true := decide_eq_true c13
                            clear c13
                            simp only [Option.some.injEq, Prod.mk.injEq] at H
                            obtain ⟨rfl, rfl⟩ := H
                            have p148 : 0 ≤ (x23_3 : Int) := of_decide_eq_true (by first | (with_reducible assumption) | assumption)
                            have q148 : x23_3 < (l0.length : Int) := of_decide_eq_true (by first | (with_reducible assumption) | assumption)
                            obtain ⟨ad148, e148, hx148_0⟩ := Kd.at_int HR0.out x23_3 p148 q148
                            cases e148
                            replace hx148_0 := (HB.out.cell (World.block_lt_of_cell? w _ hx148_0)).trans hx148_0
                            replace p148 := eq_true p148
                            replace q148 := eq_true q148
                            go_wp2_with (first | ((with_reducible refine gate_callee (f := 108) rfl ?_); refine goesL_ (some 30) rfl rfl Try.func108 (by kernel_rfl) rfl #[.int .i64 x6_3, .int .i64 (rd l0 x23_3)] rfl (by (try simp only [List.map_toArray, List.map_cons, List.map_nil]); first | done | rfl | (simp only [List.length_drop, List.length_take]; rfl)) ?_; (with_reducible refine (num_Gcd_int.calls k3 x6_3 (rd l0 x23_3) t149 _ A10.out).mono ?_); rintro e w14 ⟨rfl, hb⟩; refine ⟨_, rfl, ?_⟩; have n0_ := Aside0.mk (below_step (by repeat (first | (with_reducible first | exact HB.out | apply below_alloc | apply pw_below_drewN | apply below_drew1) | exact HB.out)) hb); clear HB; have HB := n0_; clear n0_; (try clear hb); (try clear hb2); (try clear hk); (try clear hi)))
                            ((try rw [Exit.noGoto_ret]); go_ret2)
                            exact ⟨by first | rfl | (simp [errW_none, errW_some] <;> rfl) | (simp [*, errW_none, errW_some] <;> rfl), by repeat (first | (with_reducible first | exact HB.out | apply below_alloc | apply pw_below_drewN | apply below_drew1) | exact HB.out)⟩
                          · as_aux_lemma =>
                            rw [if_neg c13] at H
                            have c13b0 : decide ((wrap64 (Int.tdiv a1 x6_3)) < (wrap64 (Int.tdiv (rd l0 x23_3) t149))) = false := decide_eq_false c13
                            clear c13
                            have H' := Aside0.mk H
                            clear H
                            have p148 : 0 ≤ (x23_3 : Int) := of_decide_eq_true (by first | (with_reducible assumption) | assumption)
                            have q148 : x23_3 < (l0.length : Int) := of_decide_eq_true (by first | (with_reducible assumption) | assumption)
                            obtain ⟨ad148, e148, hx148_0⟩ := Kd.at_int HR0.out x23_3 p148 q148
                            cases e148
                            replace hx148_0 := (HB.out.cell (World.block_lt_of_cell? w _ hx148_0)).trans hx148_0
                            replace p148 := eq_true p148
                            replace q148 := eq_true q148
                            go_wp2_with (first | ((with_reducible refine gate_callee (f := 108) rfl ?_); refine goesL_ (some 30) rfl rfl Try.func108 (by kernel_rfl) rfl #[.int .i64 x6_3, .int .i64 (rd l0 x23_3)] rfl (by (try simp only [List.map_toArray, List.map_cons, List.map_nil]); first | done | rfl | (simp only [List.length_drop, List.length_take]; rfl)) ?_; (with_reducible refine (num_Gcd_int.calls k3 x6_3 (rd l0 x23_3) t149 _ A10.out).mono ?_); rintro e w15 ⟨rfl, hb⟩; refine ⟨_, rfl, ?_⟩; have n0_ := Aside0.mk (below_step (by repeat (first | (with_reducible first | exact HB.out | apply below_alloc | apply pw_below_drewN | apply below_drew1) | exact HB.out)) hb); clear HB; have HB := n0_; clear n0_; (try clear hb); (try clear hb2); (try clear hk); (try clear hi)))
                            go_roundg k3
                            case measure => have := HK1.out; have := HK2.out; have := HK3.out; omega
                            case rel => exact ⟨(wrap64 (x6_3 * (wrap64 (Int.tdiv (rd l0 x23_3) t149)))), (wrap64 (x23_3 + 1)), (by first | rfl | (simp; done) | (simp [*]; done)), (by first | rfl | (simp; done) | (simp [*]; done)), H', ⟨by have := HK1.out; have := HK2.out; have := HK3.out; omega⟩, ⟨by repeat (first | (with_reducible first | exact HB.out | apply below_alloc | apply pw_below_drewN | apply below_drew1) | exact HB.out)⟩⟩
                    · as_aux_lemma =>
                      rw [if_neg c9] at H
                      exact absurd H (by simp)
                  · as_aux_lemma =>
                    rw [if_neg c8] at H
                    exact absurd H (by simp)
                · as_aux_lemma =>
                  rw [if_neg c7] at H
                  have c7b0 : decide (x23_3 < (l0.length : Int)) = false := decide_eq_false c7
                  clear c7
                  by_cases c16 : x6_3 > a1
                  · as_aux_lemma =>
                    rw [if_pos c16] at H
                    have c16b0 : decide (a1 < x6_3) = true := decide_eq_true c16
                    clear c16
                    simp only [Option.some.injEq, Prod.mk.injEq] at H
                    obtain ⟨rfl, rfl⟩ := H
                    (go_wp2; repeat (go_step3; go_wp2))
                    ((try rw [Exit.noGoto_ret]); go_ret2)
                    exact ⟨by first | rfl | (simp [errW_none, errW_some] <;> rfl) | (simp [*, errW_none, errW_some] <;> rfl), by repeat (first | (with_reducible first | exact HB.out | apply below_alloc | apply pw_below_drewN | apply below_drew1) | exact HB.out)⟩
                  · as_aux_lemma =>
                    rw [if_neg c16] at H
                    have c16b0 : decide (a1 < x6_3) = false := decide_eq_false c16
                    clear c16
                    simp only [Option.some.injEq, Prod.mk.injEq] at H
                    obtain ⟨rfl, rfl⟩ := H
                    (go_wp2; repeat (go_step3; go_wp2))
                    ((try rw [Exit.noGoto_ret]); go_ret2)
                    exact ⟨by first | rfl | (simp [errW_none, errW_some] <;> rfl) | (simp [*, errW_none, errW_some] <;> rfl), by repeat (first | (with_reducible first | exact HB.out | apply below_alloc | apply pw_below_drewN | apply below_drew1) | exact HB.out)⟩

end Go.Proofs.Ytceeoifbimlkdaa.B
