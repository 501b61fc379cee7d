/- Lean functions for the Go functions of one law, and proofs that the calls come to them: made by a program of this session (wip/tools/plug.py) over the printer of the kit; no conditions. -/
import Derived.Test.YtmphhgcmmcomjaaDoorMx0
import Derived.Test.YtmphhgcmmcomjaaDoorHCheck2
import Derived.Test.YtmphhgcmmcomjaaDoorHSupply2
import Derived.Test.YtmphhgcmmcomjaaDoorLx1
import Derived.Test.YtmphhgcmmcomjaaDoorHCheck2
namespace Go.Proofs.YtmphhgcmmcomjaaDoor.B
open Go.RowKit Go.Proofs.YtmphhgcmmcomjaaDoorW.PrintWords Go.Proofs.YtmphhgcmmcomjaaDoorW.PrintLast Go.Proofs.YtmphhgcmmcomjaaDoorW.PrintMore
attribute [local go_sem] max2_int min2_int max_two min_two max_three min_three max_four min_four   -- for this text's walks alone
set_option linter.unusedVariables false
set_option linter.unusedSimpArgs false

-- check_within: function 61: in Derived.Test.YtmphhgcmmcomjaaDoorBx1

-- NOT PRINTED: function 51 (check_servers)

-- num_Gcd_int: function 62: in Derived.Test.YtmphhgcmmcomjaaDoorBx1

-- num_Lcm_int: function 52: in Derived.Test.YtmphhgcmmcomjaaDoorBx1

-- NOT PRINTED: function 32 (check_hyper)

-- NOT PRINTED: function 63 (reflectlite_ValueOf)

-- NOT PRINTED: function 64 (reflectlite_Value_Type)

-- NOT PRINTED: function 65 (reflectlite_Value_IsNil)

-- NOT PRINTED: function 69 (reflectlite_TypeOf)

-- NOT PRINTED: function 70 (reflectlite_Value_Elem)

-- NOT PRINTED: function 71 (reflectlite_Value_Set)

-- NOT PRINTED: function 66 (errors_as)

-- NOT PRINTED: function 53 (errors_As)

-- NOT PRINTED: function 33 (check_face)

-- check_Hyper: function 10, by hand: Derived.Test.YtmphhgcmmcomjaaDoorHCheck2

-- NOT PRINTED: function 34 (occ_play)

-- occ_fold: function 35: in Derived.Test.YtmphhgcmmcomjaaDoorBx1

-- occ_At: function 12, by hand: Derived.Test.YtmphhgcmmcomjaaDoorHAt

-- bulkheadlaw11_works: function 11: in Derived.Test.YtmphhgcmmcomjaaDoorLx1

-- occ_span: function 36: in Derived.Test.YtmphhgcmmcomjaaDoorBx1

-- NOT PRINTED: function 56 (occ_supplier_within)

-- NOT PRINTED: function 37 (occ_supply)

-- NOT PRINTED: function 38 (occ_supplier_below)

-- occ_Supply: function 13, by hand: Derived.Test.YtmphhgcmmcomjaaDoorHSupply2

/-! ### bulkheadlaw11_OccBudget: function 4 -/
mutual
def bulkheadlaw11_OccBudget.j0 : Nat → List (S30) → Int → Int → Bool → Option (Bool)
  | 0, _, _, _, _ => none
  | k + 1, x0, x1, x2, x39 => if x39 = true then ((bulkheadlaw11_works.f).bind fun t120 => (some t120)) else (if 0 ≤ (wrap64 (x1 - 1)) then (if (wrap64 (x1 - 1)) < (x0.length : Int) then (if ((rd_T30 x0 (wrap64 (x1 - 1))).f0) = 0 then (none) else (if x2 > (wrap64 ((wrap64 (Int.tdiv (wrap64 (1099511627776 - ((rd_T30 x0 (wrap64 (x1 - 1))).f2))) ((rd_T30 x0 (wrap64 (x1 - 1))).f0))) - 1)) then ((bulkheadlaw11_works.f).bind fun t123 => (some t123)) else ((occ_Supply.f x0 x1 (wrap64 (((rd_T30 x0 (wrap64 (x1 - 1))).f2) + (wrap64 (x2 * ((rd_T30 x0 (wrap64 (x1 - 1))).f0))))) (wrap64 ((wrap64 (((rd_T30 x0 (wrap64 (x1 - 1))).f2) + (wrap64 (x2 * ((rd_T30 x0 (wrap64 (x1 - 1))).f0))))) + ((rd_T30 x0 (wrap64 (x1 - 1))).f0)))).bind fun bt124 => (if bt124.2 = 0 then (if bt124.1 > ((rd_T30 x0 (wrap64 (x1 - 1))).f1) then (bulkheadlaw11_OccBudget.j1 k x0 bt124.1 true ((rd_T30 x0 (wrap64 (x1 - 1))).f0) ((rd_T30 x0 (wrap64 (x1 - 1))).f1) ((rd_T30 x0 (wrap64 (x1 - 1))).f2) ((rd_T30 x0 (wrap64 (x1 - 1))).f3)) else (bulkheadlaw11_OccBudget.j1 k x0 bt124.1 (decide (bt124.1 < 0)) ((rd_T30 x0 (wrap64 (x1 - 1))).f0) ((rd_T30 x0 (wrap64 (x1 - 1))).f1) ((rd_T30 x0 (wrap64 (x1 - 1))).f2) ((rd_T30 x0 (wrap64 (x1 - 1))).f3))) else (bulkheadlaw11_OccBudget.j1 k x0 bt124.1 true ((rd_T30 x0 (wrap64 (x1 - 1))).f0) ((rd_T30 x0 (wrap64 (x1 - 1))).f1) ((rd_T30 x0 (wrap64 (x1 - 1))).f2) ((rd_T30 x0 (wrap64 (x1 - 1))).f3)))))) else (none)) else (none))
def bulkheadlaw11_OccBudget.j1 : Nat → List (S30) → Int → Bool → Int → Int → Int → Int → Option (Bool)
  | 0, _, _, _, _, _, _, _ => none
  | k + 1, x0, x11, x85, x123000, x123001, x123002, x123003 => if x85 = true then (some false) else (bulkheadlaw11_OccBudget.l0 k x0 x11 true 0 x123000 x123001 x123002 x123003)
def bulkheadlaw11_OccBudget.l0 : Nat → List (S30) → Int → Bool → Int → Int → Int → Int → Int → Option (Bool)
  | 0, _, _, _, _, _, _, _, _ => none
  | k + 1, x0, x11, x13, x14, x123000, x123001, x123002, x123003 => if x14 < (x0.length : Int) then (if x13 = true then (if 0 ≤ x14 then (bulkheadlaw11_OccBudget.l0 k x0 x11 (decide (((rd_T30 x0 x14).f3) ≤ x123003)) (wrap64 (x14 + 1)) x123000 x123001 x123002 x123003) else (none)) else (bulkheadlaw11_OccBudget.l0 k x0 x11 false (wrap64 (x14 + 1)) x123000 x123001 x123002 x123003)) else (if x13 = true then (if x11 = x123001 then ((bulkheadlaw11_works.f).bind fun t127 => (some t127)) else (some false)) else ((bulkheadlaw11_works.f).bind fun t128 => (some t128)))
end
def bulkheadlaw11_OccBudget.f (k : Nat) (l0 : List (S30)) (a1 : Int) (a2 : Int) : Option (Bool) := (check_Hyper.f l0).bind fun bt118 => (if bt118.2 = 0 then (if a1 < 1 then (bulkheadlaw11_OccBudget.j0 k l0 a1 a2 true) else (if a1 > (l0.length : Int) then (bulkheadlaw11_OccBudget.j0 k l0 a1 a2 true) else (if a2 < 0 then (bulkheadlaw11_OccBudget.j0 k l0 a1 a2 true) else (bulkheadlaw11_OccBudget.j0 k l0 a1 a2 (decide (a2 ≥ 1099511627776)))))) else (bulkheadlaw11_OccBudget.j0 k l0 a1 a2 true))
theorem bulkheadlaw11_OccBudget.mono_l : ∀ k, (∀ y0 y1 y2 y3, LeO (bulkheadlaw11_OccBudget.j0 k y0 y1 y2 y3) (bulkheadlaw11_OccBudget.j0 (k + 1) y0 y1 y2 y3)) ∧ (∀ y0 y1 y2 y3 y4 y5 y6, LeO (bulkheadlaw11_OccBudget.j1 k y0 y1 y2 y3 y4 y5 y6) (bulkheadlaw11_OccBudget.j1 (k + 1) y0 y1 y2 y3 y4 y5 y6)) ∧ (∀ y0 y1 y2 y3 y4 y5 y6 y7, LeO (bulkheadlaw11_OccBudget.l0 k y0 y1 y2 y3 y4 y5 y6 y7) (bulkheadlaw11_OccBudget.l0 (k + 1) y0 y1 y2 y3 y4 y5 y6 y7))
  | 0 => ⟨fun _ _ _ _ r h => by simp [bulkheadlaw11_OccBudget.j0] at h, fun _ _ _ _ _ _ _ r h => by simp [bulkheadlaw11_OccBudget.j1] at h, fun _ _ _ _ _ _ _ _ r h => by simp [bulkheadlaw11_OccBudget.l0] at h⟩
  | k + 1 => by
    obtain ⟨ih0, ih1, ih2⟩ := bulkheadlaw11_OccBudget.mono_l k
    refine ⟨?_, ?_, ?_⟩
    · intro y0 y1 y2 y3
      unfold bulkheadlaw11_OccBudget.j0
      repeat' first
      | (with_reducible exact ih0 _ _ _ _)
      | (with_reducible exact ih1 _ _ _ _ _ _ _)
      | (with_reducible exact ih2 _ _ _ _ _ _ _ _)
      | (with_reducible exact LeO.refl _)
      | (with_reducible exact LeO.none _)
      | (with_reducible refine LeO.ite ?_ ?_)
      | (with_reducible refine LeO.bind ?_ (fun _ => ?_))
      | exact ih0 _ _ _ _
      | exact ih1 _ _ _ _ _ _ _
      | exact ih2 _ _ _ _ _ _ _ _
      | exact LeO.none _
      | refine LeO.ite ?_ ?_
      | refine LeO.bind ?_ (fun _ => ?_)
    · intro y0 y1 y2 y3 y4 y5 y6
      unfold bulkheadlaw11_OccBudget.j1
      repeat' first
      | (with_reducible exact ih0 _ _ _ _)
      | (with_reducible exact ih1 _ _ _ _ _ _ _)
      | (with_reducible exact ih2 _ _ _ _ _ _ _ _)
      | (with_reducible exact LeO.refl _)
      | (with_reducible exact LeO.none _)
      | (with_reducible refine LeO.ite ?_ ?_)
      | (with_reducible refine LeO.bind ?_ (fun _ => ?_))
      | exact ih0 _ _ _ _
      | exact ih1 _ _ _ _ _ _ _
      | exact ih2 _ _ _ _ _ _ _ _
      | exact LeO.none _
      | refine LeO.ite ?_ ?_
      | refine LeO.bind ?_ (fun _ => ?_)
    · intro y0 y1 y2 y3 y4 y5 y6 y7
      unfold bulkheadlaw11_OccBudget.l0
      repeat' first
      | (with_reducible exact ih0 _ _ _ _)
      | (with_reducible exact ih1 _ _ _ _ _ _ _)
      | (with_reducible exact ih2 _ _ _ _ _ _ _ _)
      | (with_reducible exact LeO.refl _)
      | (with_reducible exact LeO.none _)
      | (with_reducible refine LeO.ite ?_ ?_)
      | (with_reducible refine LeO.bind ?_ (fun _ => ?_))
      | exact ih0 _ _ _ _
      | exact ih1 _ _ _ _ _ _ _
      | exact ih2 _ _ _ _ _ _ _ _
      | exact LeO.none _
      | refine LeO.ite ?_ ?_
      | refine LeO.bind ?_ (fun _ => ?_)
theorem bulkheadlaw11_OccBudget.mono : ∀ a0 a1 a2 k, LeO (bulkheadlaw11_OccBudget.f k a0 a1 a2) (bulkheadlaw11_OccBudget.f (k + 1) a0 a1 a2) := by
  intro a0 a1 a2 k
  obtain ⟨ih0, ih1, ih2⟩ := bulkheadlaw11_OccBudget.mono_l k
  unfold bulkheadlaw11_OccBudget.f
  repeat' first
      | (with_reducible exact ih0 _ _ _ _)
      | (with_reducible exact ih1 _ _ _ _ _ _ _)
      | (with_reducible exact ih2 _ _ _ _ _ _ _ _)
      | (with_reducible exact LeO.refl _)
      | (with_reducible exact LeO.none _)
      | (with_reducible refine LeO.ite ?_ ?_)
      | (with_reducible refine LeO.bind ?_ (fun _ => ?_))
      | exact ih0 _ _ _ _
      | exact ih1 _ _ _ _ _ _ _
      | exact ih2 _ _ _ _ _ _ _ _
      | exact LeO.none _
      | refine LeO.ite ?_ ?_
      | refine LeO.bind ?_ (fun _ => ?_)
set_option maxHeartbeats 8000000 in
set_option maxRecDepth 100000 in
theorem bulkheadlaw11_OccBudget.calls (k : Nat) (A0 : Option Addr) (c0 : Nat) (l0 : List (S30)) (a1 : Int) (a2 : Int) (r : Bool) (w : World) (hr0 : Kd.C k30 w A0 l0.length l0) (hc0 : l0.length ≤ c0) (hG : GH w) (h : bulkheadlaw11_OccBudget.f k l0 a1 a2 = some r) :
    Calls Tryd.prog 4 #[.slice A0 l0.length c0, .int .i64 a1, .int .i64 a2] w fun e w' => e = .returned (.bool r) ∧ Below w.heap.size w w' := by
  have hu30 := Tryd.underlying30
  have HR0 := Aside0.mk hr0
  have HC0 := Aside0.mk hc0
  clear hr0 hc0
  have HG := Aside0.mk hG
  clear hG
  have HB := Aside0.mk (Below.refl w.heap.size w)
  have H : ((check_Hyper.f l0).bind fun bt118 => (if bt118.2 = 0 then (if a1 < 1 then (bulkheadlaw11_OccBudget.j0 k l0 a1 a2 true) else (if a1 > (l0.length : Int) then (bulkheadlaw11_OccBudget.j0 k l0 a1 a2 true) else (if a2 < 0 then (bulkheadlaw11_OccBudget.j0 k l0 a1 a2 true) else (bulkheadlaw11_OccBudget.j0 k l0 a1 a2 (decide (a2 ≥ 1099511627776)))))) else (bulkheadlaw11_OccBudget.j0 k l0 a1 a2 true))) = some r := h
  clear h
  replace H := Option.bind_eq_some_iff.mp H
  obtain ⟨⟨t118, t119⟩, A40, H⟩ := H
  replace H : (if t119 = 0 then (if a1 < 1 then (bulkheadlaw11_OccBudget.j0 k l0 a1 a2 true) else (if a1 > (l0.length : Int) then (bulkheadlaw11_OccBudget.j0 k l0 a1 a2 true) else (if a2 < 0 then (bulkheadlaw11_OccBudget.j0 k l0 a1 a2 true) else (bulkheadlaw11_OccBudget.j0 k l0 a1 a2 (decide (a2 ≥ 1099511627776)))))) else (bulkheadlaw11_OccBudget.j0 k l0 a1 a2 true)) = some r := H
  have A4 := Aside0.mk A40
  clear A40
  have HC5 := Aside0.mk H
  clear H
  go_enter Tryd.func4, Tryd.ntmps4
  go_upto_region 2 with (first | (go_at_call 10; (with_reducible refine (check_Hyper.calls _ _ l0 t118 t119 _ ?side1 ?side2 ?side3 A4.out).mono ?_); (case side1 => repeat (first | exact HR0.out | (with_reducible refine Kd.C_alloc ?_ _) | (with_reducible refine Kd.C_drewN ?_ _) | (with_reducible refine Kd.C_drew ?_))); (case side2 => exact HC0.out); (case side3 => repeat (first | exact HG.out | (with_reducible refine GH_alloc ?_ _) | (with_reducible refine GH_drewN ?_ _) | (with_reducible refine GH_drew ?_))); rintro e w6 ⟨rfl, hb⟩; have n0_ := Aside0.mk (below_step (by repeat (first | (with_reducible first | exact HB.out | apply below_alloc | apply pw_below_drewN | apply below_drew1) | exact HB.out)) hb); clear HB; have HB := n0_; clear n0_; (try clear hb); (try clear hb2); (try clear hk); (try clear hi)))
  repeat (go_quiet (first | (go_at_call 10; (with_reducible refine (check_Hyper.calls _ _ l0 t118 t119 _ ?side1 ?side2 ?side3 A4.out).mono ?_); (case side1 => repeat (first | exact HR0.out | (with_reducible refine Kd.C_alloc ?_ _) | (with_reducible refine Kd.C_drewN ?_ _) | (with_reducible refine Kd.C_drew ?_))); (case side2 => exact HC0.out); (case side3 => repeat (first | exact HG.out | (with_reducible refine GH_alloc ?_ _) | (with_reducible refine GH_drewN ?_ _) | (with_reducible refine GH_drew ?_))); rintro e w6 ⟨rfl, hb⟩; have n0_ := Aside0.mk (below_step (by repeat (first | (with_reducible first | exact HB.out | apply below_alloc | apply pw_below_drewN | apply below_drew1) | exact HB.out)) hb); clear HB; have HB := n0_; clear n0_; (try clear hb); (try clear hb2); (try clear hk); (try clear hi))); go_upto_region 2 with (first | (go_at_call 10; (with_reducible refine (check_Hyper.calls _ _ l0 t118 t119 _ ?side1 ?side2 ?side3 A4.out).mono ?_); (case side1 => repeat (first | exact HR0.out | (with_reducible refine Kd.C_alloc ?_ _) | (with_reducible refine Kd.C_drewN ?_ _) | (with_reducible refine Kd.C_drew ?_))); (case side2 => exact HC0.out); (case side3 => repeat (first | exact HG.out | (with_reducible refine GH_alloc ?_ _) | (with_reducible refine GH_drewN ?_ _) | (with_reducible refine GH_drew ?_))); rintro e w6 ⟨rfl, hb⟩; have n0_ := Aside0.mk (below_step (by repeat (first | (with_reducible first | exact HB.out | apply below_alloc | apply pw_below_drewN | apply below_drew1) | exact HB.out)) hb); clear HB; have HB := n0_; clear n0_; (try clear hb); (try clear hb2); (try clear hk); (try clear hi))))
  (try simp only [Act.put, List.setIfInBounds_toArray, List.set_cons_zero, List.set_cons_succ])
  go_cut [39] (fun v39 wc => ∃ (kq : Nat) (x39_4 : Bool), v39 = .bool x39_4 ∧ Aside0 (bulkheadlaw11_OccBudget.j0 kq l0 a1 a2 x39_4 = some r) ∧ Aside0 (kq ≤ k) ∧ Aside0 (Below w.heap.size w wc))
  case first =>
    have H := HC5.out
    clear HC5
    by_cases c7 : t119 = 0
    · as_aux_lemma =>
      rw [if_pos c7] at H
      have c7b0 : (t119 == 0) = true := beq_iff_eq.mpr c7
      have c7b1 : (t119 != 0) = false := bne_eq_false_iff_eq.mpr c7
      clear c7
      (first | rw [c7b0] | (simp only [i64_w, i32_w]; rw [c7b0]) | skip)
      by_cases c8 : a1 < 1
      · as_aux_lemma =>
        rw [if_pos c8] at H
        have c8b0 : decide (a1 < 1) = true := decide_eq_true c8
        clear c8
        have H' := Aside0.mk H
        clear H
        go_wp2
        repeat (go_quiet (fail); try go_wp2)
        go_meet
        case rel => exact ⟨_, (true), (by first | rfl | (simp; done) | (simp [*]; done)), H', ⟨by first | omega | exact Nat.le_refl _⟩, ⟨by repeat (first | (with_reducible first | exact HB.out | apply below_alloc | apply pw_below_drewN | apply below_drew1) | exact HB.out)⟩⟩
      · as_aux_lemma =>
        rw [if_neg c8] at H
        have c8b0 : decide (a1 < 1) = false := decide_eq_false c8
        clear c8
        by_cases c9 : a1 > (l0.length : Int)
        · as_aux_lemma =>
          rw [if_pos c9] at H
          have c9b0 : decide ((l0.length : Int) < a1) = true := decide_eq_true c9
          clear c9
          have H' := Aside0.mk H
          clear H
          go_wp2
          repeat (go_quiet (fail); try go_wp2)
          go_meet
          case rel => exact ⟨_, (true), (by first | rfl | (simp; done) | (simp [*]; done)), H', ⟨by first | omega | exact Nat.le_refl _⟩, ⟨by repeat (first | (with_reducible first | exact HB.out | apply below_alloc | apply pw_below_drewN | apply below_drew1) | exact HB.out)⟩⟩
        · as_aux_lemma =>
          rw [if_neg c9] at H
          have c9b0 : decide ((l0.length : Int) < a1) = false := decide_eq_false c9
          clear c9
          by_cases c10 : a2 < 0
          · as_aux_lemma =>
            rw [if_pos c10] at H
            have c10b0 : decide (a2 < 0) = true := decide_eq_true c10
            clear c10
            have H' := Aside0.mk H
            clear H
            go_wp2
            repeat (go_quiet (fail); try go_wp2)
            go_meet
            case rel => exact ⟨_, (true), (by first | rfl | (simp; done) | (simp [*]; done)), H', ⟨by first | omega | exact Nat.le_refl _⟩, ⟨by repeat (first | (with_reducible first | exact HB.out | apply below_alloc | apply pw_below_drewN | apply below_drew1) | exact HB.out)⟩⟩
          · as_aux_lemma =>
            rw [if_neg c10] at H
            have c10b0 : decide (a2 < 0) = false := decide_eq_false c10
            clear c10
            have H' := Aside0.mk H
            clear H
            go_wp2
            repeat (go_quiet (fail); try go_wp2)
            go_meet
            case rel => exact ⟨_, (decide (a2 ≥ 1099511627776)), (by first | rfl | (simp; done) | (simp [*]; done)), H', ⟨by first | omega | exact Nat.le_refl _⟩, ⟨by repeat (first | (with_reducible first | exact HB.out | apply below_alloc | apply pw_below_drewN | apply below_drew1) | exact HB.out)⟩⟩
    · as_aux_lemma =>
      rw [if_neg c7] at H
      have c7b0 : (t119 == 0) = false := beq_eq_false_iff_ne.mpr c7
      have c7b1 : (t119 != 0) = true := bne_iff_ne.mpr c7
      (first | rw [c7b0] | (simp only [i64_w, i32_w]; rw [c7b0]) | skip)
      have H' := Aside0.mk H
      clear H
      go_wp2
      repeat (go_quiet (fail); try go_wp2)
      go_meet
      case rel => exact ⟨_, (true), (by first | rfl | (simp; done) | (simp [*]; done)), H', ⟨by first | omega | exact Nat.le_refl _⟩, ⟨by repeat (first | (with_reducible first | exact HB.out | apply below_alloc | apply pw_below_drewN | apply below_drew1) | exact HB.out)⟩⟩
  case rest =>
    clear HC5
    try clear c1
    try clear p2
    try clear c4
    try clear c7
    try clear c7b0
    try clear c7b1
    try clear c8
    try clear c8b0
    try clear c9
    try clear c9b0
    try clear c10
    try clear c10b0
    obtain ⟨kq, x39_4, rfl, HA, HJ4, HB⟩ := hcut
    cases kq with
    | zero => exact absurd HA.out (by simp [bulkheadlaw11_OccBudget.j0])
    | succ kj4 =>
      have H := HA.out
      clear HA
      simp only [bulkheadlaw11_OccBudget.j0] at H
      by_cases c11 : x39_4 = true
      · subst c11
        have H1 : ((bulkheadlaw11_works.f).bind fun t120 => (some t120)) = some r := by rw [if_pos rfl] at H; exact H
        clear H
        have H := H1
        clear H1
        replace H := Option.bind_eq_some_iff.mp H
        obtain ⟨t120, A120, H⟩ := H
        replace H : (some t120) = some r := H
        have A12 := Aside0.mk A120
        clear A120
        obtain rfl := Option.some.inj H
        go_wp2_with (first | (go_at_call 11; (with_reducible refine (bulkheadlaw11_works.calls  t120 _ ?side1 A12.out).mono ?_); (case side1 => repeat (first | exact (GH_below HG.out HB.out) | (with_reducible refine GH_alloc ?_ _) | (with_reducible refine GH_drewN ?_ _) | (with_reducible refine GH_drew ?_))); rintro e w13 ⟨rfl, hb⟩; have n0_ := Aside0.mk (below_step (by repeat (first | (with_reducible first | exact HB.out | apply below_alloc | apply pw_below_drewN | apply below_drew1) | exact HB.out)) hb); clear HB; have HB := n0_; clear n0_; (try clear hb); (try clear hb2); (try clear hk); (try clear hi)))
        repeat (go_quiet (first | (go_at_call 11; (with_reducible refine (bulkheadlaw11_works.calls  t120 _ ?side1 A12.out).mono ?_); (case side1 => repeat (first | exact (GH_below HG.out HB.out) | (with_reducible refine GH_alloc ?_ _) | (with_reducible refine GH_drewN ?_ _) | (with_reducible refine GH_drew ?_))); rintro e w13 ⟨rfl, hb⟩; have n0_ := Aside0.mk (below_step (by repeat (first | (with_reducible first | exact HB.out | apply below_alloc | apply pw_below_drewN | apply below_drew1) | exact HB.out)) hb); clear HB; have HB := n0_; clear n0_; (try clear hb); (try clear hb2); (try clear hk); (try clear hi))); try go_wp2_with (first | (go_at_call 11; (with_reducible refine (bulkheadlaw11_works.calls  t120 _ ?side1 A12.out).mono ?_); (case side1 => repeat (first | exact (GH_below HG.out HB.out) | (with_reducible refine GH_alloc ?_ _) | (with_reducible refine GH_drewN ?_ _) | (with_reducible refine GH_drew ?_))); rintro e w13 ⟨rfl, hb⟩; have n0_ := Aside0.mk (below_step (by repeat (first | (with_reducible first | exact HB.out | apply below_alloc | apply pw_below_drewN | apply below_drew1) | exact HB.out)) hb); clear HB; have HB := n0_; clear n0_; (try clear hb); (try clear hb2); (try clear hk); (try clear hi))))
        go_ret
        exact ⟨by first | rfl | (simp [errW_none, errW_some] <;> rfl) | (simp [*, errW_none, errW_some] <;> rfl), by repeat (first | (with_reducible first | exact HB.out | apply below_alloc | apply pw_below_drewN | apply below_drew1) | exact HB.out)⟩
      · replace c11 := Bool.eq_false_iff.mpr c11
        subst c11
        have H1 : (if 0 ≤ (wrap64 (a1 - 1)) then (if (wrap64 (a1 - 1)) < (l0.length : Int) then (if ((rd_T30 l0 (wrap64 (a1 - 1))).f0) = 0 then (none) else (if a2 > (wrap64 ((wrap64 (Int.tdiv (wrap64 (1099511627776 - ((rd_T30 l0 (wrap64 (a1 - 1))).f2))) ((rd_T30 l0 (wrap64 (a1 - 1))).f0))) - 1)) then ((bulkheadlaw11_works.f).bind fun t123 => (some t123)) else ((occ_Supply.f l0 a1 (wrap64 (((rd_T30 l0 (wrap64 (a1 - 1))).f2) + (wrap64 (a2 * ((rd_T30 l0 (wrap64 (a1 - 1))).f0))))) (wrap64 ((wrap64 (((rd_T30 l0 (wrap64 (a1 - 1))).f2) + (wrap64 (a2 * ((rd_T30 l0 (wrap64 (a1 - 1))).f0))))) + ((rd_T30 l0 (wrap64 (a1 - 1))).f0)))).bind fun bt124 => (if bt124.2 = 0 then (if bt124.1 > ((rd_T30 l0 (wrap64 (a1 - 1))).f1) then (bulkheadlaw11_OccBudget.j1 kj4 l0 bt124.1 true ((rd_T30 l0 (wrap64 (a1 - 1))).f0) ((rd_T30 l0 (wrap64 (a1 - 1))).f1) ((rd_T30 l0 (wrap64 (a1 - 1))).f2) ((rd_T30 l0 (wrap64 (a1 - 1))).f3)) else (bulkheadlaw11_OccBudget.j1 kj4 l0 bt124.1 (decide (bt124.1 < 0)) ((rd_T30 l0 (wrap64 (a1 - 1))).f0) ((rd_T30 l0 (wrap64 (a1 - 1))).f1) ((rd_T30 l0 (wrap64 (a1 - 1))).f2) ((rd_T30 l0 (wrap64 (a1 - 1))).f3))) else (bulkheadlaw11_OccBudget.j1 kj4 l0 bt124.1 true ((rd_T30 l0 (wrap64 (a1 - 1))).f0) ((rd_T30 l0 (wrap64 (a1 - 1))).f1) ((rd_T30 l0 (wrap64 (a1 - 1))).f2) ((rd_T30 l0 (wrap64 (a1 - 1))).f3)))))) else (none)) else (none)) = some r := by rw [if_neg (show ¬ (false = true) by decide)] at H; exact H
        clear H
        have H := H1
        clear H1
        obtain ⟨ji14, hji14⟩ : ∃ j_ : Int, (wrap64 (a1 - 1)) = j_ := ⟨_, rfl⟩
        replace H : (if 0 ≤ (ji14) then (if (ji14) < (l0.length : Int) then (if ((rd_T30 l0 (ji14)).f0) = 0 then (none) else (if a2 > (wrap64 ((wrap64 (Int.tdiv (wrap64 (1099511627776 - ((rd_T30 l0 (ji14)).f2))) ((rd_T30 l0 (ji14)).f0))) - 1)) then ((bulkheadlaw11_works.f).bind fun t123 => (some t123)) else ((occ_Supply.f l0 a1 (wrap64 (((rd_T30 l0 (ji14)).f2) + (wrap64 (a2 * ((rd_T30 l0 (ji14)).f0))))) (wrap64 ((wrap64 (((rd_T30 l0 (ji14)).f2) + (wrap64 (a2 * ((rd_T30 l0 (ji14)).f0))))) + ((rd_T30 l0 (ji14)).f0)))).bind fun bt124 => (if bt124.2 = 0 then (if bt124.1 > ((rd_T30 l0 (ji14)).f1) then (bulkheadlaw11_OccBudget.j1 kj4 l0 bt124.1 true ((rd_T30 l0 (ji14)).f0) ((rd_T30 l0 (ji14)).f1) ((rd_T30 l0 (ji14)).f2) ((rd_T30 l0 (ji14)).f3)) else (bulkheadlaw11_OccBudget.j1 kj4 l0 bt124.1 (decide (bt124.1 < 0)) ((rd_T30 l0 (ji14)).f0) ((rd_T30 l0 (ji14)).f1) ((rd_T30 l0 (ji14)).f2) ((rd_T30 l0 (ji14)).f3))) else (bulkheadlaw11_OccBudget.j1 kj4 l0 bt124.1 true ((rd_T30 l0 (ji14)).f0) ((rd_T30 l0 (ji14)).f1) ((rd_T30 l0 (ji14)).f2) ((rd_T30 l0 (ji14)).f3)))))) else (none)) else (none)) = some r := by first | (rw [hji14] at H; exact H) | (simp only [hji14] at H ⊢; exact H)
        have hji14w : (IntKind.i64.wrap (a1 - 1)) = ji14 := (i64_w _).trans hji14
        by_cases c15 : 0 ≤ (ji14)
        · as_aux_lemma =>
          rw [if_pos c15] at H
          have c15b0 : decide (0 ≤ (ji14)) = true := decide_eq_true c15
          clear c15
          by_cases c16 : (ji14) < (l0.length : Int)
          · as_aux_lemma =>
            rw [if_pos c16] at H
            have c16b0 : decide ((ji14) < (l0.length : Int)) = true := decide_eq_true c16
            clear c16
            by_cases c17 : ((rd_T30 l0 (ji14)).f0) = 0
            · as_aux_lemma =>
              rw [if_pos c17] at H
              exact absurd H (by simp)
            · as_aux_lemma =>
              rw [if_neg c17] at H
              have c17b0 : (((rd_T30 l0 (ji14)).f0) == 0) = false := beq_eq_false_iff_ne.mpr c17
              have c17b1 : (((rd_T30 l0 (ji14)).f0) != 0) = true := bne_iff_ne.mpr c17
              by_cases c18 : a2 > (wrap64 ((wrap64 (Int.tdiv (wrap64 (1099511627776 - ((rd_T30 l0 (ji14)).f2))) ((rd_T30 l0 (ji14)).f0))) - 1))
              · as_aux_lemma =>
                rw [if_pos c18] at H
                have c18b0 : decide ((wrap64 ((wrap64 (Int.tdiv (wrap64 (1099511627776 - ((rd_T30 l0 (ji14)).f2))) ((rd_T30 l0 (ji14)).f0))) - 1)) < a2) = true := decide_eq_true c18
                clear c18
                replace H := Option.bind_eq_some_iff.mp H
                obtain ⟨t123, A190, H⟩ := H
                replace H : (some t123) = some r := H
                have A19 := Aside0.mk A190
                clear A190
                obtain rfl := Option.some.inj H
                have p121 : 0 ≤ ((ji14) : Int) := of_decide_eq_true (by first | (with_reducible assumption) | assumption)
                have q121 : (ji14) < (l0.length : Int) := of_decide_eq_true (by first | (with_reducible assumption) | assumption)
                obtain ⟨ad121, e121, hx121_0, hx121_1, hx121_2, hx121_3⟩ := at_T30 HR0.out (ji14) p121 q121
                cases e121
                replace hx121_0 := (HB.out.cell (World.block_lt_of_cell? w _ hx121_0)).trans hx121_0
                replace hx121_1 := (HB.out.cell (World.block_lt_of_cell? w _ hx121_1)).trans hx121_1
                replace hx121_2 := (HB.out.cell (World.block_lt_of_cell? w _ hx121_2)).trans hx121_2
                replace hx121_3 := (HB.out.cell (World.block_lt_of_cell? w _ hx121_3)).trans hx121_3
                replace p121 := eq_true p121
                replace q121 := eq_true q121
                go_wp2_with (first | ((with_reducible refine gate_dst (N := 9) rfl ?_); (try (refine gate_guard (by rfl) ?_; dsimp only)); refine box_event ?hg (N := 9) ?hd (cs := #[.int .i64 0, .int .i64 0, .int .i64 0, .int .i64 0]) (t := 30) ?hr ?_; (case hd => rfl); (case hg => rfl); (case hr => first | (go_simp; done) | (go_simp; rfl)); intro gb122 hg w20 hbox hb; have n0_ := Aside0.mk (below_step (by repeat (first | (with_reducible first | exact HB.out | apply below_alloc | apply pw_below_drewN | apply below_drew1) | exact HB.out)) hb); have n1_ := Aside0.mk (hbox); have n2_ := Aside0.mk ((by rw [hg]; exact (below_size (by repeat (first | (with_reducible first | exact HB.out | apply below_alloc | apply pw_below_drewN | apply below_drew1) | exact HB.out))) : w.heap.size ≤ gb122)); have n3_ := Aside0.mk ((by rw [hg]; exact (below_size (by repeat (first | (with_reducible first | exact HB.out | apply below_alloc | apply pw_below_drewN | apply below_drew1) | exact HB.out))) : w.heap.size ≤ gb122)); clear HB; have HB := n0_; have BK122 := n1_; have GW122 := n2_; have GE122 := n3_; clear n0_ n1_ n2_ n3_; clear hb hbox hg; have hcz21_0 : w20.cell? ⟨gb122, 0, none⟩ = some (.int .i64 0) := (blk_cell BK122.out 0).trans rfl; have hcz21_1 : w20.cell? ⟨gb122, 1, none⟩ = some (.int .i64 0) := (blk_cell BK122.out 1).trans rfl; have hcz21_2 : w20.cell? ⟨gb122, 2, none⟩ = some (.int .i64 0) := (blk_cell BK122.out 2).trans rfl; have hcz21_3 : w20.cell? ⟨gb122, 3, none⟩ = some (.int .i64 0) := (blk_cell BK122.out 3).trans rfl; have hfz21_0 := blk_frozen BK122.out 0; have hfz21_1 := blk_frozen BK122.out 1; have hfz21_2 := blk_frozen BK122.out 2; have hfz21_3 := blk_frozen BK122.out 3) | (go_at_call 11; (with_reducible refine (bulkheadlaw11_works.calls  t123 _ ?side1 A19.out).mono ?_); (case side1 => exact GH_below HG.out (by repeat (first | (with_reducible first | exact HB.out | apply below_alloc | apply pw_below_drewN | apply below_drew1 | refine below_set ?_ GE122.out) | exact HB.out))); rintro e w22 ⟨rfl, hb⟩; have n0_ := Aside0.mk (blk_below (g := gb122) (o := .cells #[.int .i64 ((rd_T30 l0 (ji14)).f0), .int .i64 ((rd_T30 l0 (ji14)).f1), .int .i64 ((rd_T30 l0 (ji14)).f2), .int .i64 ((rd_T30 l0 (ji14)).f3)] 30 (0, 0)) (by (with_reducible repeat (first | refine blk_drewN ?_ _ | refine blk_drew ?_ | refine blk_alloc ?_ _)); refine blk_put (cs := #[.int .i64 ((rd_T30 l0 (ji14)).f0), .int .i64 ((rd_T30 l0 (ji14)).f1), .int .i64 ((rd_T30 l0 (ji14)).f2), .int .i64 0]) ?_ 3 _ rfl; (with_reducible repeat (first | refine blk_drewN ?_ _ | refine blk_drew ?_ | refine blk_alloc ?_ _)); refine blk_put (cs := #[.int .i64 ((rd_T30 l0 (ji14)).f0), .int .i64 ((rd_T30 l0 (ji14)).f1), .int .i64 0, .int .i64 0]) ?_ 2 _ rfl; (with_reducible repeat (first | refine blk_drewN ?_ _ | refine blk_drew ?_ | refine blk_alloc ?_ _)); refine blk_put (cs := #[.int .i64 ((rd_T30 l0 (ji14)).f0), .int .i64 0, .int .i64 0, .int .i64 0]) ?_ 1 _ rfl; (with_reducible repeat (first | refine blk_drewN ?_ _ | refine blk_drew ?_ | refine blk_alloc ?_ _)); refine blk_put (cs := #[.int .i64 0, .int .i64 0, .int .i64 0, .int .i64 0]) ?_ 0 _ rfl; (with_reducible repeat (first | refine blk_drewN ?_ _ | refine blk_drew ?_ | refine blk_alloc ?_ _)); exact BK122.out) hb); have n1_ := Aside0.mk (below_step (by repeat (first | (with_reducible first | exact HB.out | apply below_alloc | apply pw_below_drewN | apply below_drew1 | refine below_set ?_ GE122.out) | exact HB.out)) hb); clear BK122; clear HB; have BK122 := n0_; have HB := n1_; clear n0_ n1_; (try clear hb); (try clear hb2); (try clear hk); (try clear hi)))
                repeat (go_quiet (first | ((with_reducible refine gate_dst (N := 9) rfl ?_); (try (refine gate_guard (by rfl) ?_; dsimp only)); refine box_event ?hg (N := 9) ?hd (cs := #[.int .i64 0, .int .i64 0, .int .i64 0, .int .i64 0]) (t := 30) ?hr ?_; (case hd => rfl); (case hg => rfl); (case hr => first | (go_simp; done) | (go_simp; rfl)); intro gb122 hg w20 hbox hb; have n0_ := Aside0.mk (below_step (by repeat (first | (with_reducible first | exact HB.out | apply below_alloc | apply pw_below_drewN | apply below_drew1) | exact HB.out)) hb); have n1_ := Aside0.mk (hbox); have n2_ := Aside0.mk ((by rw [hg]; exact (below_size (by repeat (first | (with_reducible first | exact HB.out | apply below_alloc | apply pw_below_drewN | apply below_drew1) | exact HB.out))) : w.heap.size ≤ gb122)); have n3_ := Aside0.mk ((by rw [hg]; exact (below_size (by repeat (first | (with_reducible first | exact HB.out | apply below_alloc | apply pw_below_drewN | apply below_drew1) | exact HB.out))) : w.heap.size ≤ gb122)); clear HB; have HB := n0_; have BK122 := n1_; have GW122 := n2_; have GE122 := n3_; clear n0_ n1_ n2_ n3_; clear hb hbox hg; have hcz21_0 : w20.cell? ⟨gb122, 0, none⟩ = some (.int .i64 0) := (blk_cell BK122.out 0).trans rfl; have hcz21_1 : w20.cell? ⟨gb122, 1, none⟩ = some (.int .i64 0) := (blk_cell BK122.out 1).trans rfl; have hcz21_2 : w20.cell? ⟨gb122, 2, none⟩ = some (.int .i64 0) := (blk_cell BK122.out 2).trans rfl; have hcz21_3 : w20.cell? ⟨gb122, 3, none⟩ = some (.int .i64 0) := (blk_cell BK122.out 3).trans rfl; have hfz21_0 := blk_frozen BK122.out 0; have hfz21_1 := blk_frozen BK122.out 1; have hfz21_2 := blk_frozen BK122.out 2; have hfz21_3 := blk_frozen BK122.out 3) | (go_at_call 11; (with_reducible refine (bulkheadlaw11_works.calls  t123 _ ?side1 A19.out).mono ?_); (case side1 => exact GH_below HG.out (by repeat (first | (with_reducible first | exact HB.out | apply below_alloc | apply pw_below_drewN | apply below_drew1 | refine below_set ?_ GE122.out) | exact HB.out))); rintro e w22 ⟨rfl, hb⟩; have n0_ := Aside0.mk (blk_below (g := gb122) (o := .cells #[.int .i64 ((rd_T30 l0 (ji14)).f0), .int .i64 ((rd_T30 l0 (ji14)).f1), .int .i64 ((rd_T30 l0 (ji14)).f2), .int .i64 ((rd_T30 l0 (ji14)).f3)] 30 (0, 0)) (by (with_reducible repeat (first | refine blk_drewN ?_ _ | refine blk_drew ?_ | refine blk_alloc ?_ _)); refine blk_put (cs := #[.int .i64 ((rd_T30 l0 (ji14)).f0), .int .i64 ((rd_T30 l0 (ji14)).f1), .int .i64 ((rd_T30 l0 (ji14)).f2), .int .i64 0]) ?_ 3 _ rfl; (with_reducible repeat (first | refine blk_drewN ?_ _ | refine blk_drew ?_ | refine blk_alloc ?_ _)); refine blk_put (cs := #[.int .i64 ((rd_T30 l0 (ji14)).f0), .int .i64 ((rd_T30 l0 (ji14)).f1), .int .i64 0, .int .i64 0]) ?_ 2 _ rfl; (with_reducible repeat (first | refine blk_drewN ?_ _ | refine blk_drew ?_ | refine blk_alloc ?_ _)); refine blk_put (cs := #[.int .i64 ((rd_T30 l0 (ji14)).f0), .int .i64 0, .int .i64 0, .int .i64 0]) ?_ 1 _ rfl; (with_reducible repeat (first | refine blk_drewN ?_ _ | refine blk_drew ?_ | refine blk_alloc ?_ _)); refine blk_put (cs := #[.int .i64 0, .int .i64 0, .int .i64 0, .int .i64 0]) ?_ 0 _ rfl; (with_reducible repeat (first | refine blk_drewN ?_ _ | refine blk_drew ?_ | refine blk_alloc ?_ _)); exact BK122.out) hb); have n1_ := Aside0.mk (below_step (by repeat (first | (with_reducible first | exact HB.out | apply below_alloc | apply pw_below_drewN | apply below_drew1 | refine below_set ?_ GE122.out) | exact HB.out)) hb); clear BK122; clear HB; have BK122 := n0_; have HB := n1_; clear n0_ n1_; (try clear hb); (try clear hb2); (try clear hk); (try clear hi))); try go_wp2_with (first | ((with_reducible refine gate_dst (N := 9) rfl ?_); (try (refine gate_guard (by rfl) ?_; dsimp only)); refine box_event ?hg (N := 9) ?hd (cs := #[.int .i64 0, .int .i64 0, .int .i64 0, .int .i64 0]) (t := 30) ?hr ?_; (case hd => rfl); (case hg => rfl); (case hr => first | (go_simp; done) | (go_simp; rfl)); intro gb122 hg w20 hbox hb; have n0_ := Aside0.mk (below_step (by repeat (first | (with_reducible first | exact HB.out | apply below_alloc | apply pw_below_drewN | apply below_drew1) | exact HB.out)) hb); have n1_ := Aside0.mk (hbox); have n2_ := Aside0.mk ((by rw [hg]; exact (below_size (by repeat (first | (with_reducible first | exact HB.out | apply below_alloc | apply pw_below_drewN | apply below_drew1) | exact HB.out))) : w.heap.size ≤ gb122)); have n3_ := Aside0.mk ((by rw [hg]; exact (below_size (by repeat (first | (with_reducible first | exact HB.out | apply below_alloc | apply pw_below_drewN | apply below_drew1) | exact HB.out))) : w.heap.size ≤ gb122)); clear HB; have HB := n0_; have BK122 := n1_; have GW122 := n2_; have GE122 := n3_; clear n0_ n1_ n2_ n3_; clear hb hbox hg; have hcz21_0 : w20.cell? ⟨gb122, 0, none⟩ = some (.int .i64 0) := (blk_cell BK122.out 0).trans rfl; have hcz21_1 : w20.cell? ⟨gb122, 1, none⟩ = some (.int .i64 0) := (blk_cell BK122.out 1).trans rfl; have hcz21_2 : w20.cell? ⟨gb122, 2, none⟩ = some (.int .i64 0) := (blk_cell BK122.out 2).trans rfl; have hcz21_3 : w20.cell? ⟨gb122, 3, none⟩ = some (.int .i64 0) := (blk_cell BK122.out 3).trans rfl; have hfz21_0 := blk_frozen BK122.out 0; have hfz21_1 := blk_frozen BK122.out 1; have hfz21_2 := blk_frozen BK122.out 2; have hfz21_3 := blk_frozen BK122.out 3) | (go_at_call 11; (with_reducible refine (bulkheadlaw11_works.calls  t123 _ ?side1 A19.out).mono ?_); (case side1 => exact GH_below HG.out (by repeat (first | (with_reducible first | exact HB.out | apply below_alloc | apply pw_below_drewN | apply below_drew1 | refine below_set ?_ GE122.out) | exact HB.out))); rintro e w22 ⟨rfl, hb⟩; have n0_ := Aside0.mk (blk_below (g := gb122) (o := .cells #[.int .i64 ((rd_T30 l0 (ji14)).f0), .int .i64 ((rd_T30 l0 (ji14)).f1), .int .i64 ((rd_T30 l0 (ji14)).f2), .int .i64 ((rd_T30 l0 (ji14)).f3)] 30 (0, 0)) (by (with_reducible repeat (first | refine blk_drewN ?_ _ | refine blk_drew ?_ | refine blk_alloc ?_ _)); refine blk_put (cs := #[.int .i64 ((rd_T30 l0 (ji14)).f0), .int .i64 ((rd_T30 l0 (ji14)).f1), .int .i64 ((rd_T30 l0 (ji14)).f2), .int .i64 0]) ?_ 3 _ rfl; (with_reducible repeat (first | refine blk_drewN ?_ _ | refine blk_drew ?_ | refine blk_alloc ?_ _)); refine blk_put (cs := #[.int .i64 ((rd_T30 l0 (ji14)).f0), .int .i64 ((rd_T30 l0 (ji14)).f1), .int .i64 0, .int .i64 0]) ?_ 2 _ rfl; (with_reducible repeat (first | refine blk_drewN ?_ _ | refine blk_drew ?_ | refine blk_alloc ?_ _)); refine blk_put (cs := #[.int .i64 ((rd_T30 l0 (ji14)).f0), .int .i64 0, .int .i64 0, .int .i64 0]) ?_ 1 _ rfl; (with_reducible repeat (first | refine blk_drewN ?_ _ | refine blk_drew ?_ | refine blk_alloc ?_ _)); refine blk_put (cs := #[.int .i64 0, .int .i64 0, .int .i64 0, .int .i64 0]) ?_ 0 _ rfl; (with_reducible repeat (first | refine blk_drewN ?_ _ | refine blk_drew ?_ | refine blk_alloc ?_ _)); exact BK122.out) hb); have n1_ := Aside0.mk (below_step (by repeat (first | (with_reducible first | exact HB.out | apply below_alloc | apply pw_below_drewN | apply below_drew1 | refine below_set ?_ GE122.out) | exact HB.out)) hb); clear BK122; clear HB; have BK122 := n0_; have HB := n1_; clear n0_ n1_; (try clear hb); (try clear hb2); (try clear hk); (try clear hi))))
                go_ret
                exact ⟨by first | rfl | (simp [errW_none, errW_some] <;> rfl) | (simp only [← hji14]; first | rfl | (simp [errW_none, errW_some] <;> rfl)) | (simp [*, errW_none, errW_some] <;> rfl), by repeat (first | (with_reducible first | exact HB.out | apply below_alloc | apply pw_below_drewN | apply below_drew1 | refine below_set ?_ GE122.out) | exact HB.out)⟩
              · as_aux_lemma =>
                rw [if_neg c18] at H
                have c18b0 : decide ((wrap64 ((wrap64 (Int.tdiv (wrap64 (1099511627776 - ((rd_T30 l0 (ji14)).f2))) ((rd_T30 l0 (ji14)).f0))) - 1)) < a2) = false := decide_eq_false c18
                clear c18
                replace H := Option.bind_eq_some_iff.mp H
                obtain ⟨⟨t124, t125⟩, A230, H⟩ := H
                replace H : (if t125 = 0 then (if t124 > ((rd_T30 l0 (ji14)).f1) then (bulkheadlaw11_OccBudget.j1 kj4 l0 t124 true ((rd_T30 l0 (ji14)).f0) ((rd_T30 l0 (ji14)).f1) ((rd_T30 l0 (ji14)).f2) ((rd_T30 l0 (ji14)).f3)) else (bulkheadlaw11_OccBudget.j1 kj4 l0 t124 (decide (t124 < 0)) ((rd_T30 l0 (ji14)).f0) ((rd_T30 l0 (ji14)).f1) ((rd_T30 l0 (ji14)).f2) ((rd_T30 l0 (ji14)).f3))) else (bulkheadlaw11_OccBudget.j1 kj4 l0 t124 true ((rd_T30 l0 (ji14)).f0) ((rd_T30 l0 (ji14)).f1) ((rd_T30 l0 (ji14)).f2) ((rd_T30 l0 (ji14)).f3))) = some r := H
                have A23 := Aside0.mk A230
                clear A230
                have HC24 := Aside0.mk H
                clear H
                have p121 : 0 ≤ ((ji14) : Int) := of_decide_eq_true (by first | (with_reducible assumption) | assumption)
                have q121 : (ji14) < (l0.length : Int) := of_decide_eq_true (by first | (with_reducible assumption) | assumption)
                obtain ⟨ad121, e121, hx121_0, hx121_1, hx121_2, hx121_3⟩ := at_T30 HR0.out (ji14) p121 q121
                cases e121
                replace hx121_0 := (HB.out.cell (World.block_lt_of_cell? w _ hx121_0)).trans hx121_0
                replace hx121_1 := (HB.out.cell (World.block_lt_of_cell? w _ hx121_1)).trans hx121_1
                replace hx121_2 := (HB.out.cell (World.block_lt_of_cell? w _ hx121_2)).trans hx121_2
                replace hx121_3 := (HB.out.cell (World.block_lt_of_cell? w _ hx121_3)).trans hx121_3
                replace p121 := eq_true p121
                replace q121 := eq_true q121
                go_upto_region 9 with (first | ((with_reducible refine gate_dst (N := 9) rfl ?_); (try (refine gate_guard (by rfl) ?_; dsimp only)); refine box_event ?hg (N := 9) ?hd (cs := #[.int .i64 0, .int .i64 0, .int .i64 0, .int .i64 0]) (t := 30) ?hr ?_; (case hd => rfl); (case hg => rfl); (case hr => first | (go_simp; done) | (go_simp; rfl)); intro gb122 hg w25 hbox hb; have n0_ := Aside0.mk (below_step (by repeat (first | (with_reducible first | exact HB.out | apply below_alloc | apply pw_below_drewN | apply below_drew1) | exact HB.out)) hb); have n1_ := Aside0.mk (hbox); have n2_ := Aside0.mk ((by rw [hg]; exact (below_size (by repeat (first | (with_reducible first | exact HB.out | apply below_alloc | apply pw_below_drewN | apply below_drew1) | exact HB.out))) : w.heap.size ≤ gb122)); have n3_ := Aside0.mk ((by rw [hg]; exact (below_size (by repeat (first | (with_reducible first | exact HB.out | apply below_alloc | apply pw_below_drewN | apply below_drew1) | exact HB.out))) : w.heap.size ≤ gb122)); clear HB; have HB := n0_; have BK122 := n1_; have GW122 := n2_; have GE122 := n3_; clear n0_ n1_ n2_ n3_; clear hb hbox hg; have hcz26_0 : w25.cell? ⟨gb122, 0, none⟩ = some (.int .i64 0) := (blk_cell BK122.out 0).trans rfl; have hcz26_1 : w25.cell? ⟨gb122, 1, none⟩ = some (.int .i64 0) := (blk_cell BK122.out 1).trans rfl; have hcz26_2 : w25.cell? ⟨gb122, 2, none⟩ = some (.int .i64 0) := (blk_cell BK122.out 2).trans rfl; have hcz26_3 : w25.cell? ⟨gb122, 3, none⟩ = some (.int .i64 0) := (blk_cell BK122.out 3).trans rfl; have hfz26_0 := blk_frozen BK122.out 0; have hfz26_1 := blk_frozen BK122.out 1; have hfz26_2 := blk_frozen BK122.out 2; have hfz26_3 := blk_frozen BK122.out 3) | (go_at_call 13; (with_reducible refine (occ_Supply.calls _ _ l0 a1 (wrap64 (((rd_T30 l0 (ji14)).f2) + (wrap64 (a2 * ((rd_T30 l0 (ji14)).f0))))) (wrap64 ((wrap64 (((rd_T30 l0 (ji14)).f2) + (wrap64 (a2 * ((rd_T30 l0 (ji14)).f0))))) + ((rd_T30 l0 (ji14)).f0))) t124 t125 _ ?side1 ?side2 ?side3 A23.out).mono ?_); (case side1 => exact Kd.C_below HR0.out (by repeat (first | (with_reducible first | exact HB.out | apply below_alloc | apply pw_below_drewN | apply below_drew1 | refine below_set ?_ GE122.out) | exact HB.out))); (case side2 => exact HC0.out); (case side3 => exact GH_below HG.out (by repeat (first | (with_reducible first | exact HB.out | apply below_alloc | apply pw_below_drewN | apply below_drew1 | refine below_set ?_ GE122.out) | exact HB.out))); rintro e w27 ⟨rfl, hb⟩; have n0_ := Aside0.mk (blk_below (g := gb122) (o := .cells #[.int .i64 ((rd_T30 l0 (ji14)).f0), .int .i64 ((rd_T30 l0 (ji14)).f1), .int .i64 ((rd_T30 l0 (ji14)).f2), .int .i64 ((rd_T30 l0 (ji14)).f3)] 30 (0, 0)) (by (with_reducible repeat (first | refine blk_drewN ?_ _ | refine blk_drew ?_ | refine blk_alloc ?_ _)); refine blk_put (cs := #[.int .i64 ((rd_T30 l0 (ji14)).f0), .int .i64 ((rd_T30 l0 (ji14)).f1), .int .i64 ((rd_T30 l0 (ji14)).f2), .int .i64 0]) ?_ 3 _ rfl; (with_reducible repeat (first | refine blk_drewN ?_ _ | refine blk_drew ?_ | refine blk_alloc ?_ _)); refine blk_put (cs := #[.int .i64 ((rd_T30 l0 (ji14)).f0), .int .i64 ((rd_T30 l0 (ji14)).f1), .int .i64 0, .int .i64 0]) ?_ 2 _ rfl; (with_reducible repeat (first | refine blk_drewN ?_ _ | refine blk_drew ?_ | refine blk_alloc ?_ _)); refine blk_put (cs := #[.int .i64 ((rd_T30 l0 (ji14)).f0), .int .i64 0, .int .i64 0, .int .i64 0]) ?_ 1 _ rfl; (with_reducible repeat (first | refine blk_drewN ?_ _ | refine blk_drew ?_ | refine blk_alloc ?_ _)); refine blk_put (cs := #[.int .i64 0, .int .i64 0, .int .i64 0, .int .i64 0]) ?_ 0 _ rfl; (with_reducible repeat (first | refine blk_drewN ?_ _ | refine blk_drew ?_ | refine blk_alloc ?_ _)); exact BK122.out) hb); have n1_ := Aside0.mk (below_step (by repeat (first | (with_reducible first | exact HB.out | apply below_alloc | apply pw_below_drewN | apply below_drew1 | refine below_set ?_ GE122.out) | exact HB.out)) hb); clear BK122; clear HB; have BK122 := n0_; have HB := n1_; clear n0_ n1_; (try clear hb); (try clear hb2); (try clear hk); (try clear hi)))
                repeat (go_quiet (first | ((with_reducible refine gate_dst (N := 9) rfl ?_); (try (refine gate_guard (by rfl) ?_; dsimp only)); refine box_event ?hg (N := 9) ?hd (cs := #[.int .i64 0, .int .i64 0, .int .i64 0, .int .i64 0]) (t := 30) ?hr ?_; (case hd => rfl); (case hg => rfl); (case hr => first | (go_simp; done) | (go_simp; rfl)); intro gb122 hg w25 hbox hb; have n0_ := Aside0.mk (below_step (by repeat (first | (with_reducible first | exact HB.out | apply below_alloc | apply pw_below_drewN | apply below_drew1) | exact HB.out)) hb); have n1_ := Aside0.mk (hbox); have n2_ := Aside0.mk ((by rw [hg]; exact (below_size (by repeat (first | (with_reducible first | exact HB.out | apply below_alloc | apply pw_below_drewN | apply below_drew1) | exact HB.out))) : w.heap.size ≤ gb122)); have n3_ := Aside0.mk ((by rw [hg]; exact (below_size (by repeat (first | (with_reducible first | exact HB.out | apply below_alloc | apply pw_below_drewN | apply below_drew1) | exact HB.out))) : w.heap.size ≤ gb122)); clear HB; have HB := n0_; have BK122 := n1_; have GW122 := n2_; have GE122 := n3_; clear n0_ n1_ n2_ n3_; clear hb hbox hg; have hcz26_0 : w25.cell? ⟨gb122, 0, none⟩ = some (.int .i64 0) := (blk_cell BK122.out 0).trans rfl; have hcz26_1 : w25.cell? ⟨gb122, 1, none⟩ = some (.int .i64 0) := (blk_cell BK122.out 1).trans rfl; have hcz26_2 : w25.cell? ⟨gb122, 2, none⟩ = some (.int .i64 0) := (blk_cell BK122.out 2).trans rfl; have hcz26_3 : w25.cell? ⟨gb122, 3, none⟩ = some (.int .i64 0) := (blk_cell BK122.out 3).trans rfl; have hfz26_0 := blk_frozen BK122.out 0; have hfz26_1 := blk_frozen BK122.out 1; have hfz26_2 := blk_frozen BK122.out 2; have hfz26_3 := blk_frozen BK122.out 3) | (go_at_call 13; (with_reducible refine (occ_Supply.calls _ _ l0 a1 (wrap64 (((rd_T30 l0 (ji14)).f2) + (wrap64 (a2 * ((rd_T30 l0 (ji14)).f0))))) (wrap64 ((wrap64 (((rd_T30 l0 (ji14)).f2) + (wrap64 (a2 * ((rd_T30 l0 (ji14)).f0))))) + ((rd_T30 l0 (ji14)).f0))) t124 t125 _ ?side1 ?side2 ?side3 A23.out).mono ?_); (case side1 => exact Kd.C_below HR0.out (by repeat (first | (with_reducible first | exact HB.out | apply below_alloc | apply pw_below_drewN | apply below_drew1 | refine below_set ?_ GE122.out) | exact HB.out))); (case side2 => exact HC0.out); (case side3 => exact GH_below HG.out (by repeat (first | (with_reducible first | exact HB.out | apply below_alloc | apply pw_below_drewN | apply below_drew1 | refine below_set ?_ GE122.out) | exact HB.out))); rintro e w27 ⟨rfl, hb⟩; have n0_ := Aside0.mk (blk_below (g := gb122) (o := .cells #[.int .i64 ((rd_T30 l0 (ji14)).f0), .int .i64 ((rd_T30 l0 (ji14)).f1), .int .i64 ((rd_T30 l0 (ji14)).f2), .int .i64 ((rd_T30 l0 (ji14)).f3)] 30 (0, 0)) (by (with_reducible repeat (first | refine blk_drewN ?_ _ | refine blk_drew ?_ | refine blk_alloc ?_ _)); refine blk_put (cs := #[.int .i64 ((rd_T30 l0 (ji14)).f0), .int .i64 ((rd_T30 l0 (ji14)).f1), .int .i64 ((rd_T30 l0 (ji14)).f2), .int .i64 0]) ?_ 3 _ rfl; (with_reducible repeat (first | refine blk_drewN ?_ _ | refine blk_drew ?_ | refine blk_alloc ?_ _)); refine blk_put (cs := #[.int .i64 ((rd_T30 l0 (ji14)).f0), .int .i64 ((rd_T30 l0 (ji14)).f1), .int .i64 0, .int .i64 0]) ?_ 2 _ rfl; (with_reducible repeat (first | refine blk_drewN ?_ _ | refine blk_drew ?_ | refine blk_alloc ?_ _)); refine blk_put (cs := #[.int .i64 ((rd_T30 l0 (ji14)).f0), .int .i64 0, .int .i64 0, .int .i64 0]) ?_ 1 _ rfl; (with_reducible repeat (first | refine blk_drewN ?_ _ | refine blk_drew ?_ | refine blk_alloc ?_ _)); refine blk_put (cs := #[.int .i64 0, .int .i64 0, .int .i64 0, .int .i64 0]) ?_ 0 _ rfl; (with_reducible repeat (first | refine blk_drewN ?_ _ | refine blk_drew ?_ | refine blk_alloc ?_ _)); exact BK122.out) hb); have n1_ := Aside0.mk (below_step (by repeat (first | (with_reducible first | exact HB.out | apply below_alloc | apply pw_below_drewN | apply below_drew1 | refine below_set ?_ GE122.out) | exact HB.out)) hb); clear BK122; clear HB; have BK122 := n0_; have HB := n1_; clear n0_ n1_; (try clear hb); (try clear hb2); (try clear hk); (try clear hi))); go_upto_region 9 with (first | ((with_reducible refine gate_dst (N := 9) rfl ?_); (try (refine gate_guard (by rfl) ?_; dsimp only)); refine box_event ?hg (N := 9) ?hd (cs := #[.int .i64 0, .int .i64 0, .int .i64 0, .int .i64 0]) (t := 30) ?hr ?_; (case hd => rfl); (case hg => rfl); (case hr => first | (go_simp; done) | (go_simp; rfl)); intro gb122 hg w25 hbox hb; have n0_ := Aside0.mk (below_step (by repeat (first | (with_reducible first | exact HB.out | apply below_alloc | apply pw_below_drewN | apply below_drew1) | exact HB.out)) hb); have n1_ := Aside0.mk (hbox); have n2_ := Aside0.mk ((by rw [hg]; exact (below_size (by repeat (first | (with_reducible first | exact HB.out | apply below_alloc | apply pw_below_drewN | apply below_drew1) | exact HB.out))) : w.heap.size ≤ gb122)); have n3_ := Aside0.mk ((by rw [hg]; exact (below_size (by repeat (first | (with_reducible first | exact HB.out | apply below_alloc | apply pw_below_drewN | apply below_drew1) | exact HB.out))) : w.heap.size ≤ gb122)); clear HB; have HB := n0_; have BK122 := n1_; have GW122 := n2_; have GE122 := n3_; clear n0_ n1_ n2_ n3_; clear hb hbox hg; have hcz26_0 : w25.cell? ⟨gb122, 0, none⟩ = some (.int .i64 0) := (blk_cell BK122.out 0).trans rfl; have hcz26_1 : w25.cell? ⟨gb122, 1, none⟩ = some (.int .i64 0) := (blk_cell BK122.out 1).trans rfl; have hcz26_2 : w25.cell? ⟨gb122, 2, none⟩ = some (.int .i64 0) := (blk_cell BK122.out 2).trans rfl; have hcz26_3 : w25.cell? ⟨gb122, 3, none⟩ = some (.int .i64 0) := (blk_cell BK122.out 3).trans rfl; have hfz26_0 := blk_frozen BK122.out 0; have hfz26_1 := blk_frozen BK122.out 1; have hfz26_2 := blk_frozen BK122.out 2; have hfz26_3 := blk_frozen BK122.out 3) | (go_at_call 13; (with_reducible refine (occ_Supply.calls _ _ l0 a1 (wrap64 (((rd_T30 l0 (ji14)).f2) + (wrap64 (a2 * ((rd_T30 l0 (ji14)).f0))))) (wrap64 ((wrap64 (((rd_T30 l0 (ji14)).f2) + (wrap64 (a2 * ((rd_T30 l0 (ji14)).f0))))) + ((rd_T30 l0 (ji14)).f0))) t124 t125 _ ?side1 ?side2 ?side3 A23.out).mono ?_); (case side1 => exact Kd.C_below HR0.out (by repeat (first | (with_reducible first | exact HB.out | apply below_alloc | apply pw_below_drewN | apply below_drew1 | refine below_set ?_ GE122.out) | exact HB.out))); (case side2 => exact HC0.out); (case side3 => exact GH_below HG.out (by repeat (first | (with_reducible first | exact HB.out | apply below_alloc | apply pw_below_drewN | apply below_drew1 | refine below_set ?_ GE122.out) | exact HB.out))); rintro e w27 ⟨rfl, hb⟩; have n0_ := Aside0.mk (blk_below (g := gb122) (o := .cells #[.int .i64 ((rd_T30 l0 (ji14)).f0), .int .i64 ((rd_T30 l0 (ji14)).f1), .int .i64 ((rd_T30 l0 (ji14)).f2), .int .i64 ((rd_T30 l0 (ji14)).f3)] 30 (0, 0)) (by (with_reducible repeat (first | refine blk_drewN ?_ _ | refine blk_drew ?_ | refine blk_alloc ?_ _)); refine blk_put (cs := #[.int .i64 ((rd_T30 l0 (ji14)).f0), .int .i64 ((rd_T30 l0 (ji14)).f1), .int .i64 ((rd_T30 l0 (ji14)).f2), .int .i64 0]) ?_ 3 _ rfl; (with_reducible repeat (first | refine blk_drewN ?_ _ | refine blk_drew ?_ | refine blk_alloc ?_ _)); refine blk_put (cs := #[.int .i64 ((rd_T30 l0 (ji14)).f0), .int .i64 ((rd_T30 l0 (ji14)).f1), .int .i64 0, .int .i64 0]) ?_ 2 _ rfl; (with_reducible repeat (first | refine blk_drewN ?_ _ | refine blk_drew ?_ | refine blk_alloc ?_ _)); refine blk_put (cs := #[.int .i64 ((rd_T30 l0 (ji14)).f0), .int .i64 0, .int .i64 0, .int .i64 0]) ?_ 1 _ rfl; (with_reducible repeat (first | refine blk_drewN ?_ _ | refine blk_drew ?_ | refine blk_alloc ?_ _)); refine blk_put (cs := #[.int .i64 0, .int .i64 0, .int .i64 0, .int .i64 0]) ?_ 0 _ rfl; (with_reducible repeat (first | refine blk_drewN ?_ _ | refine blk_drew ?_ | refine blk_alloc ?_ _)); exact BK122.out) hb); have n1_ := Aside0.mk (below_step (by repeat (first | (with_reducible first | exact HB.out | apply below_alloc | apply pw_below_drewN | apply below_drew1 | refine below_set ?_ GE122.out) | exact HB.out)) hb); clear BK122; clear HB; have BK122 := n0_; have HB := n1_; clear n0_ n1_; (try clear hb); (try clear hb2); (try clear hk); (try clear hi))))
                (try simp only [Act.put, List.setIfInBounds_toArray, List.set_cons_zero, List.set_cons_succ])
                go_cut [85] (fun v85 wc => ∃ (kq : Nat) (x85_23 : Bool), v85 = .bool x85_23 ∧ Aside0 (bulkheadlaw11_OccBudget.j1 kq l0 t124 x85_23 ((rd_T30 l0 (ji14)).f0) ((rd_T30 l0 (ji14)).f1) ((rd_T30 l0 (ji14)).f2) ((rd_T30 l0 (ji14)).f3) = some r) ∧ Aside0 (kq ≤ kj4) ∧ Aside0 (wc.heap[gb122]? = some (.cells #[.int .i64 ((rd_T30 l0 (ji14)).f0), .int .i64 ((rd_T30 l0 (ji14)).f1), .int .i64 ((rd_T30 l0 (ji14)).f2), .int .i64 ((rd_T30 l0 (ji14)).f3)] 30 (0, 0))) ∧ Aside0 (Below w.heap.size w wc))
                case first =>
                  have H := HC24.out
                  clear HC24
                  by_cases c28 : t125 = 0
                  · as_aux_lemma =>
                    rw [if_pos c28] at H
                    have c28b0 : (t125 == 0) = true := beq_iff_eq.mpr c28
                    have c28b1 : (t125 != 0) = false := bne_eq_false_iff_eq.mpr c28
                    clear c28
                    (first | rw [c28b0] | (simp only [i64_w, i32_w]; rw [c28b0]) | skip)
                    by_cases c29 : t124 > ((rd_T30 l0 (ji14)).f1)
                    · as_aux_lemma =>
                      rw [if_pos c29] at H
                      have c29b0 : decide (((rd_T30 l0 (ji14)).f1) < t124) = true := decide_eq_true c29
                      clear c29
                      have H' := Aside0.mk H
                      clear H
                      have hcz30_0 : w27.cell? ⟨gb122, 0, none⟩ = some (.int .i64 ((rd_T30 l0 (ji14)).f0)) := (blk_cell BK122.out 0).trans rfl
                      have hcz30_1 : w27.cell? ⟨gb122, 1, none⟩ = some (.int .i64 ((rd_T30 l0 (ji14)).f1)) := (blk_cell BK122.out 1).trans rfl
                      have hcz30_2 : w27.cell? ⟨gb122, 2, none⟩ = some (.int .i64 ((rd_T30 l0 (ji14)).f2)) := (blk_cell BK122.out 2).trans rfl
                      have hcz30_3 : w27.cell? ⟨gb122, 3, none⟩ = some (.int .i64 ((rd_T30 l0 (ji14)).f3)) := (blk_cell BK122.out 3).trans rfl
                      have hfz30_0 := blk_frozen BK122.out 0
                      have hfz30_1 := blk_frozen BK122.out 1
                      have hfz30_2 := blk_frozen BK122.out 2
                      have hfz30_3 := blk_frozen BK122.out 3
                      go_wp2
                      repeat (go_quiet (fail); try go_wp2)
                      go_meet
                      case rel => exact ⟨_, (true), (by first | rfl | (simp; done) | (simp [*]; done)), H', ⟨by have := HJ4.out; first | omega | exact Nat.le_refl _⟩, ⟨by (with_reducible repeat (first | refine blk_drewN ?_ _ | refine blk_drew ?_ | refine blk_alloc ?_ _)); exact BK122.out⟩, ⟨by repeat (first | (with_reducible first | exact HB.out | apply below_alloc | apply pw_below_drewN | apply below_drew1 | refine below_set ?_ GE122.out) | exact HB.out)⟩⟩
                    · as_aux_lemma =>
                      rw [if_neg c29] at H
                      have c29b0 : decide (((rd_T30 l0 (ji14)).f1) < t124) = false := decide_eq_false c29
                      clear c29
                      have H' := Aside0.mk H
                      clear H
                      have hcz31_0 : w27.cell? ⟨gb122, 0, none⟩ = some (.int .i64 ((rd_T30 l0 (ji14)).f0)) := (blk_cell BK122.out 0).trans rfl
                      have hcz31_1 : w27.cell? ⟨gb122, 1, none⟩ = some (.int .i64 ((rd_T30 l0 (ji14)).f1)) := (blk_cell BK122.out 1).trans rfl
                      have hcz31_2 : w27.cell? ⟨gb122, 2, none⟩ = some (.int .i64 ((rd_T30 l0 (ji14)).f2)) := (blk_cell BK122.out 2).trans rfl
                      have hcz31_3 : w27.cell? ⟨gb122, 3, none⟩ = some (.int .i64 ((rd_T30 l0 (ji14)).f3)) := (blk_cell BK122.out 3).trans rfl
                      have hfz31_0 := blk_frozen BK122.out 0
                      have hfz31_1 := blk_frozen BK122.out 1
                      have hfz31_2 := blk_frozen BK122.out 2
                      have hfz31_3 := blk_frozen BK122.out 3
                      go_wp2
                      repeat (go_quiet (fail); try go_wp2)
                      go_meet
                      case rel => exact ⟨_, (decide (t124 < 0)), (by first | rfl | (simp; done) | (simp [*]; done)), H', ⟨by have := HJ4.out; first | omega | exact Nat.le_refl _⟩, ⟨by (with_reducible repeat (first | refine blk_drewN ?_ _ | refine blk_drew ?_ | refine blk_alloc ?_ _)); exact BK122.out⟩, ⟨by repeat (first | (with_reducible first | exact HB.out | apply below_alloc | apply pw_below_drewN | apply below_drew1 | refine below_set ?_ GE122.out) | exact HB.out)⟩⟩
                  · as_aux_lemma =>
                    rw [if_neg c28] at H
                    have c28b0 : (t125 == 0) = false := beq_eq_false_iff_ne.mpr c28
                    have c28b1 : (t125 != 0) = true := bne_iff_ne.mpr c28
                    (first | rw [c28b0] | (simp only [i64_w, i32_w]; rw [c28b0]) | skip)
                    have H' := Aside0.mk H
                    clear H
                    go_wp2
                    repeat (go_quiet (fail); try go_wp2)
                    go_meet
                    case rel => exact ⟨_, (true), (by first | rfl | (simp; done) | (simp [*]; done)), H', ⟨by have := HJ4.out; first | omega | exact Nat.le_refl _⟩, ⟨by (with_reducible repeat (first | refine blk_drewN ?_ _ | refine blk_drew ?_ | refine blk_alloc ?_ _)); exact BK122.out⟩, ⟨by repeat (first | (with_reducible first | exact HB.out | apply below_alloc | apply pw_below_drewN | apply below_drew1 | refine below_set ?_ GE122.out) | exact HB.out)⟩⟩
                case rest =>
                  clear HC24
                  try clear c1
                  try clear p1
                  try clear q1
                  try clear hx1
                  try clear c2
                  try clear p2
                  try clear c4
                  try clear p6
                  try clear c7
                  try clear c7b0
                  try clear c7b1
                  try clear c8
                  try clear c8b0
                  try clear c9
                  try clear c9b0
                  try clear c10
                  try clear c10b0
                  try clear c11
                  try clear p12
                  try clear q12
                  try clear hx12
                  try clear c15
                  try clear c15b0
                  try clear c16
                  try clear c16b0
                  try clear c17
                  try clear c17b0
                  try clear c17b1
                  try clear c18
                  try clear c18b0
                  try clear c28
                  try clear c28b0
                  try clear c28b1
                  try clear c29
                  try clear c29b0
                  try clear hcz21_0
                  try clear hcz21_1
                  try clear hcz21_2
                  try clear hcz21_3
                  try clear hcz26_0
                  try clear hcz26_1
                  try clear hcz26_2
                  try clear hcz26_3
                  try clear hcz30_0
                  try clear hcz30_1
                  try clear hcz30_2
                  try clear hcz30_3
                  try clear hcz31_0
                  try clear hcz31_1
                  try clear hcz31_2
                  try clear hcz31_3
                  try clear hfz21_0
                  try clear hfz21_1
                  try clear hfz21_2
                  try clear hfz21_3
                  try clear hfz26_0
                  try clear hfz26_1
                  try clear hfz26_2
                  try clear hfz26_3
                  try clear hfz30_0
                  try clear hfz30_1
                  try clear hfz30_2
                  try clear hfz30_3
                  try clear hfz31_0
                  try clear hfz31_1
                  try clear hfz31_2
                  try clear hfz31_3
                  try clear hx121_0
                  try clear hx121_1
                  try clear hx121_2
                  try clear hx121_3
                  try clear p121
                  try clear p2
                  try clear q121
                  obtain ⟨kq, x85_23, rfl, HA, HJ23, BK122, HB⟩ := hcut
                  cases kq with
                  | zero => exact absurd HA.out (by simp [bulkheadlaw11_OccBudget.j1])
                  | succ kj23 =>
                    have H := HA.out
                    clear HA
                    simp only [bulkheadlaw11_OccBudget.j1] at H
                    by_cases c32 : x85_23 = true
                    · subst c32
                      have H1 : (some false) = some r := by rw [if_pos rfl] at H; exact H
                      clear H
                      have H := H1
                      clear H1
                      obtain rfl := Option.some.inj H
                      go_wp2
                      repeat (go_quiet (fail); try go_wp2)
                      go_ret
                      exact ⟨by first | rfl | (simp [errW_none, errW_some] <;> rfl) | (simp only [← hji14]; first | rfl | (simp [errW_none, errW_some] <;> rfl)) | (simp [*, errW_none, errW_some] <;> rfl), by repeat (first | (with_reducible first | exact HB.out | apply below_alloc | apply pw_below_drewN | apply below_drew1 | refine below_set ?_ GE122.out) | exact HB.out)⟩
                    · replace c32 := Bool.eq_false_iff.mpr c32
                      subst c32
                      have H1 : (bulkheadlaw11_OccBudget.l0 kj23 l0 t124 true 0 ((rd_T30 l0 (ji14)).f0) ((rd_T30 l0 (ji14)).f1) ((rd_T30 l0 (ji14)).f2) ((rd_T30 l0 (ji14)).f3)) = some r := by rw [if_neg (show ¬ (false = true) by decide)] at H; exact H
                      clear H
                      have H := H1
                      clear H1
                      have H' := Aside0.mk H
                      clear H
                      go_wp2
                      repeat (go_quiet (fail); try go_wp2)
                      go_loopg [13, 14] kj23 (fun kq v13 v14 w' => ∃ (x13_3 : Bool) (x14_3 : Int), v13 = .bool x13_3 ∧ v14 = .int .i64 x14_3 ∧ Aside0 (bulkheadlaw11_OccBudget.l0 kq l0 t124 x13_3 x14_3 ((rd_T30 l0 (ji14)).f0) ((rd_T30 l0 (ji14)).f1) ((rd_T30 l0 (ji14)).f2) ((rd_T30 l0 (ji14)).f3) = some r) ∧ Aside0 (kq ≤ kj23) ∧ Aside0 (w'.heap[gb122]? = some (.cells #[.int .i64 ((rd_T30 l0 (ji14)).f0), .int .i64 ((rd_T30 l0 (ji14)).f1), .int .i64 ((rd_T30 l0 (ji14)).f2), .int .i64 ((rd_T30 l0 (ji14)).f3)] 30 (0, 0))) ∧ Aside0 (Below w.heap.size w w'))
                      case atStart => exact ⟨(true), (0), (by first | rfl | (simp; done) | (simp [*]; done)), (by first | rfl | (simp; done) | (simp [*]; done)), H', ⟨Nat.le_refl _⟩, ⟨by (with_reducible repeat (first | refine blk_drewN ?_ _ | refine blk_drew ?_ | refine blk_alloc ?_ _)); exact BK122.out⟩, ⟨by repeat (first | (with_reducible first | exact HB.out | apply below_alloc | apply pw_below_drewN | apply below_drew1 | refine below_set ?_ GE122.out) | exact HB.out)⟩⟩
                      case round =>
                        clear H'
                        try clear c1
                        try clear p1
                        try clear q1
                        try clear hx1
                        try clear c2
                        try clear p2
                        try clear c3
                        try clear c4
                        try clear p6
                        try clear c7
                        try clear c7b0
                        try clear c7b1
                        try clear c8
                        try clear c8b0
                        try clear c9
                        try clear c9b0
                        try clear c10
                        try clear c10b0
                        try clear c11
                        try clear p12
                        try clear q12
                        try clear hx12
                        try clear c15
                        try clear c15b0
                        try clear c16
                        try clear c16b0
                        try clear c17
                        try clear c17b0
                        try clear c17b1
                        try clear c18
                        try clear c18b0
                        try clear c28
                        try clear c28b0
                        try clear c28b1
                        try clear c29
                        try clear c29b0
                        try clear c32
                        try clear hcz21_0
                        try clear hcz21_1
                        try clear hcz21_2
                        try clear hcz21_3
                        try clear hcz26_0
                        try clear hcz26_1
                        try clear hcz26_2
                        try clear hcz26_3
                        try clear hcz30_0
                        try clear hcz30_1
                        try clear hcz30_2
                        try clear hcz30_3
                        try clear hcz31_0
                        try clear hcz31_1
                        try clear hcz31_2
                        try clear hcz31_3
                        try clear hfz21_0
                        try clear hfz21_1
                        try clear hfz21_2
                        try clear hfz21_3
                        try clear hfz26_0
                        try clear hfz26_1
                        try clear hfz26_2
                        try clear hfz26_3
                        try clear hfz30_0
                        try clear hfz30_1
                        try clear hfz30_2
                        try clear hfz30_3
                        try clear hfz31_0
                        try clear hfz31_1
                        try clear hfz31_2
                        try clear hfz31_3
                        try clear hx121_0
                        try clear hx121_1
                        try clear hx121_2
                        try clear hx121_3
                        try clear p1
                        try clear p12
                        try clear p121
                        try clear p2
                        try clear p6
                        try clear q1
                        try clear q12
                        try clear q121
                        obtain ⟨x13_3, x14_3, rfl, rfl, HA, HK3, BK122, HB⟩ := hrel
                        cases gk with
                        | zero => exact absurd HA.out (by simp [bulkheadlaw11_OccBudget.l0])
                        | succ k3 =>
                          have H := HA.out
                          clear HA
                          simp only [bulkheadlaw11_OccBudget.l0] at H
                          by_cases c33 : x14_3 < (l0.length : Int)
                          · as_aux_lemma =>
                            rw [if_pos c33] at H
                            have c33b0 : decide (x14_3 < (l0.length : Int)) = true := decide_eq_true c33
                            clear c33
                            by_cases c34 : x13_3 = true
                            · subst c34
                              have H1 : (if 0 ≤ x14_3 then (bulkheadlaw11_OccBudget.l0 k3 l0 t124 (decide (((rd_T30 l0 x14_3).f3) ≤ ((rd_T30 l0 (ji14)).f3))) (wrap64 (x14_3 + 1)) ((rd_T30 l0 (ji14)).f0) ((rd_T30 l0 (ji14)).f1) ((rd_T30 l0 (ji14)).f2) ((rd_T30 l0 (ji14)).f3)) else (none)) = some r := by rw [if_pos rfl] at H; exact H
                              clear H
                              have H := H1
                              clear H1
                              by_cases c35 : 0 ≤ x14_3
                              · as_aux_lemma =>
                                rw [if_pos c35] at H
                                have c35b0 : decide (0 ≤ x14_3) = true := decide_eq_true c35
                                clear c35
                                have H' := Aside0.mk H
                                clear H
                                have p126 : 0 ≤ (x14_3 : Int) := of_decide_eq_true (by first | (with_reducible assumption) | assumption)
                                have q126 : x14_3 < (l0.length : Int) := of_decide_eq_true (by first | (with_reducible assumption) | assumption)
                                obtain ⟨ad126, e126, hx126_0, hx126_1, hx126_2, hx126_3⟩ := at_T30 HR0.out x14_3 p126 q126
                                obtain rfl : ad121 = ad126 := (by injection e126)
                                replace hx126_0 := (HB.out.cell (World.block_lt_of_cell? w _ hx126_0)).trans hx126_0
                                replace hx126_1 := (HB.out.cell (World.block_lt_of_cell? w _ hx126_1)).trans hx126_1
                                replace hx126_2 := (HB.out.cell (World.block_lt_of_cell? w _ hx126_2)).trans hx126_2
                                replace hx126_3 := (HB.out.cell (World.block_lt_of_cell? w _ hx126_3)).trans hx126_3
                                replace p126 := eq_true p126
                                replace q126 := eq_true q126
                                have hcz36_0 : wr.cell? ⟨gb122, 0, none⟩ = some (.int .i64 ((rd_T30 l0 (ji14)).f0)) := (blk_cell BK122.out 0).trans rfl
                                have hcz36_1 : wr.cell? ⟨gb122, 1, none⟩ = some (.int .i64 ((rd_T30 l0 (ji14)).f1)) := (blk_cell BK122.out 1).trans rfl
                                have hcz36_2 : wr.cell? ⟨gb122, 2, none⟩ = some (.int .i64 ((rd_T30 l0 (ji14)).f2)) := (blk_cell BK122.out 2).trans rfl
                                have hcz36_3 : wr.cell? ⟨gb122, 3, none⟩ = some (.int .i64 ((rd_T30 l0 (ji14)).f3)) := (blk_cell BK122.out 3).trans rfl
                                have hfz36_0 := blk_frozen BK122.out 0
                                have hfz36_1 := blk_frozen BK122.out 1
                                have hfz36_2 := blk_frozen BK122.out 2
                                have hfz36_3 := blk_frozen BK122.out 3
                                go_wp2
                                repeat (go_quiet (fail); try go_wp2)
                                go_roundg k3
                                case measure => have := HJ4.out; have := HJ23.out; have := HK3.out; omega
                                case rel => exact ⟨(decide (((rd_T30 l0 x14_3).f3) ≤ ((rd_T30 l0 (ji14)).f3))), (wrap64 (x14_3 + 1)), (by first | rfl | (simp; done) | (simp only [← hji14] <;> (first | rfl | simp)) | (simp [*]; done)), (by first | rfl | (simp; done) | (simp [*]; done)), H', ⟨by have := HJ4.out; have := HJ23.out; have := HK3.out; omega⟩, ⟨by (with_reducible repeat (first | refine blk_drewN ?_ _ | refine blk_drew ?_ | refine blk_alloc ?_ _)); exact BK122.out⟩, ⟨by repeat (first | (with_reducible first | exact HB.out | apply below_alloc | apply pw_below_drewN | apply below_drew1 | refine below_set ?_ GE122.out) | exact HB.out)⟩⟩
                              · as_aux_lemma =>
                                rw [if_neg c35] at H
                                exact absurd H (by simp)
                            · replace c34 := Bool.eq_false_iff.mpr c34
                              subst c34
                              have H1 : (bulkheadlaw11_OccBudget.l0 k3 l0 t124 false (wrap64 (x14_3 + 1)) ((rd_T30 l0 (ji14)).f0) ((rd_T30 l0 (ji14)).f1) ((rd_T30 l0 (ji14)).f2) ((rd_T30 l0 (ji14)).f3)) = some r := by rw [if_neg (show ¬ (false = true) by decide)] at H; exact H
                              clear H
                              have H := H1
                              clear H1
                              have H' := Aside0.mk H
                              clear H
                              go_wp2
                              repeat (go_quiet (fail); try go_wp2)
                              go_roundg k3
                              case measure => have := HJ4.out; have := HJ23.out; have := HK3.out; omega
                              case rel => exact ⟨(false), (wrap64 (x14_3 + 1)), (by first | rfl | (simp; done) | (simp [*]; done)), (by first | rfl | (simp; done) | (simp [*]; done)), H', ⟨by have := HJ4.out; have := HJ23.out; have := HK3.out; omega⟩, ⟨by (with_reducible repeat (first | refine blk_drewN ?_ _ | refine blk_drew ?_ | refine blk_alloc ?_ _)); exact BK122.out⟩, ⟨by repeat (first | (with_reducible first | exact HB.out | apply below_alloc | apply pw_below_drewN | apply below_drew1 | refine below_set ?_ GE122.out) | exact HB.out)⟩⟩
                          · as_aux_lemma =>
                            rw [if_neg c33] at H
                            have c33b0 : decide (x14_3 < (l0.length : Int)) = false := decide_eq_false c33
                            clear c33
                            by_cases c37 : x13_3 = true
                            · subst c37
                              have H1 : (if t124 = ((rd_T30 l0 (ji14)).f1) then ((bulkheadlaw11_works.f).bind fun t127 => (some t127)) else (some false)) = some r := by rw [if_pos rfl] at H; exact H
                              clear H
                              have H := H1
                              clear H1
                              by_cases c38 : t124 = ((rd_T30 l0 (ji14)).f1)
                              · as_aux_lemma =>
                                rw [if_pos c38] at H
                                have c38b0 : (t124 == ((rd_T30 l0 (ji14)).f1)) = true := beq_iff_eq.mpr c38
                                have c38b1 : (t124 != ((rd_T30 l0 (ji14)).f1)) = false := bne_eq_false_iff_eq.mpr c38
                                clear c38
                                replace H := Option.bind_eq_some_iff.mp H
                                obtain ⟨t127, A390, H⟩ := H
                                replace H : (some t127) = some r := H
                                have A39 := Aside0.mk A390
                                clear A390
                                obtain rfl := Option.some.inj H
                                have hcz40_0 : wr.cell? ⟨gb122, 0, none⟩ = some (.int .i64 ((rd_T30 l0 (ji14)).f0)) := (blk_cell BK122.out 0).trans rfl
                                have hcz40_1 : wr.cell? ⟨gb122, 1, none⟩ = some (.int .i64 ((rd_T30 l0 (ji14)).f1)) := (blk_cell BK122.out 1).trans rfl
                                have hcz40_2 : wr.cell? ⟨gb122, 2, none⟩ = some (.int .i64 ((rd_T30 l0 (ji14)).f2)) := (blk_cell BK122.out 2).trans rfl
                                have hcz40_3 : wr.cell? ⟨gb122, 3, none⟩ = some (.int .i64 ((rd_T30 l0 (ji14)).f3)) := (blk_cell BK122.out 3).trans rfl
                                have hfz40_0 := blk_frozen BK122.out 0
                                have hfz40_1 := blk_frozen BK122.out 1
                                have hfz40_2 := blk_frozen BK122.out 2
                                have hfz40_3 := blk_frozen BK122.out 3
                                go_wp2_with (first | (go_at_call 11; (with_reducible refine (bulkheadlaw11_works.calls  t127 _ ?side1 A39.out).mono ?_); (case side1 => repeat (first | exact (GH_below HG.out HB.out) | (with_reducible refine GH_alloc ?_ _) | (with_reducible refine GH_drewN ?_ _) | (with_reducible refine GH_drew ?_))); rintro e w41 ⟨rfl, hb⟩; have n0_ := Aside0.mk (blk_below (g := gb122) (o := .cells #[.int .i64 ((rd_T30 l0 (ji14)).f0), .int .i64 ((rd_T30 l0 (ji14)).f1), .int .i64 ((rd_T30 l0 (ji14)).f2), .int .i64 ((rd_T30 l0 (ji14)).f3)] 30 (0, 0)) (by (with_reducible repeat (first | refine blk_drewN ?_ _ | refine blk_drew ?_ | refine blk_alloc ?_ _)); exact BK122.out) hb); have n1_ := Aside0.mk (below_step (by repeat (first | (with_reducible first | exact HB.out | apply below_alloc | apply pw_below_drewN | apply below_drew1 | refine below_set ?_ GE122.out) | exact HB.out)) hb); clear BK122; clear HB; have BK122 := n0_; have HB := n1_; clear n0_ n1_; (try clear hb); (try clear hb2); (try clear hk); (try clear hi)))
                                repeat (go_quiet (first | (go_at_call 11; (with_reducible refine (bulkheadlaw11_works.calls  t127 _ ?side1 A39.out).mono ?_); (case side1 => repeat (first | exact (GH_below HG.out HB.out) | (with_reducible refine GH_alloc ?_ _) | (with_reducible refine GH_drewN ?_ _) | (with_reducible refine GH_drew ?_))); rintro e w41 ⟨rfl, hb⟩; have n0_ := Aside0.mk (blk_below (g := gb122) (o := .cells #[.int .i64 ((rd_T30 l0 (ji14)).f0), .int .i64 ((rd_T30 l0 (ji14)).f1), .int .i64 ((rd_T30 l0 (ji14)).f2), .int .i64 ((rd_T30 l0 (ji14)).f3)] 30 (0, 0)) (by (with_reducible repeat (first | refine blk_drewN ?_ _ | refine blk_drew ?_ | refine blk_alloc ?_ _)); exact BK122.out) hb); have n1_ := Aside0.mk (below_step (by repeat (first | (with_reducible first | exact HB.out | apply below_alloc | apply pw_below_drewN | apply below_drew1 | refine below_set ?_ GE122.out) | exact HB.out)) hb); clear BK122; clear HB; have BK122 := n0_; have HB := n1_; clear n0_ n1_; (try clear hb); (try clear hb2); (try clear hk); (try clear hi))); try go_wp2_with (first | (go_at_call 11; (with_reducible refine (bulkheadlaw11_works.calls  t127 _ ?side1 A39.out).mono ?_); (case side1 => repeat (first | exact (GH_below HG.out HB.out) | (with_reducible refine GH_alloc ?_ _) | (with_reducible refine GH_drewN ?_ _) | (with_reducible refine GH_drew ?_))); rintro e w41 ⟨rfl, hb⟩; have n0_ := Aside0.mk (blk_below (g := gb122) (o := .cells #[.int .i64 ((rd_T30 l0 (ji14)).f0), .int .i64 ((rd_T30 l0 (ji14)).f1), .int .i64 ((rd_T30 l0 (ji14)).f2), .int .i64 ((rd_T30 l0 (ji14)).f3)] 30 (0, 0)) (by (with_reducible repeat (first | refine blk_drewN ?_ _ | refine blk_drew ?_ | refine blk_alloc ?_ _)); exact BK122.out) hb); have n1_ := Aside0.mk (below_step (by repeat (first | (with_reducible first | exact HB.out | apply below_alloc | apply pw_below_drewN | apply below_drew1 | refine below_set ?_ GE122.out) | exact HB.out)) hb); clear BK122; clear HB; have BK122 := n0_; have HB := n1_; clear n0_ n1_; (try clear hb); (try clear hb2); (try clear hk); (try clear hi))))
                                go_ret
                                exact ⟨by first | rfl | (simp [errW_none, errW_some] <;> rfl) | (simp only [← hji14]; first | rfl | (simp [errW_none, errW_some] <;> rfl)) | (simp [*, errW_none, errW_some] <;> rfl), by repeat (first | (with_reducible first | exact HB.out | apply below_alloc | apply pw_below_drewN | apply below_drew1 | refine below_set ?_ GE122.out) | exact HB.out)⟩
                              · as_aux_lemma =>
                                rw [if_neg c38] at H
                                have c38b0 : (t124 == ((rd_T30 l0 (ji14)).f1)) = false := beq_eq_false_iff_ne.mpr c38
                                have c38b1 : (t124 != ((rd_T30 l0 (ji14)).f1)) = true := bne_iff_ne.mpr c38
                                obtain rfl := Option.some.inj H
                                have hcz42_0 : wr.cell? ⟨gb122, 0, none⟩ = some (.int .i64 ((rd_T30 l0 (ji14)).f0)) := (blk_cell BK122.out 0).trans rfl
                                have hcz42_1 : wr.cell? ⟨gb122, 1, none⟩ = some (.int .i64 ((rd_T30 l0 (ji14)).f1)) := (blk_cell BK122.out 1).trans rfl
                                have hcz42_2 : wr.cell? ⟨gb122, 2, none⟩ = some (.int .i64 ((rd_T30 l0 (ji14)).f2)) := (blk_cell BK122.out 2).trans rfl
                                have hcz42_3 : wr.cell? ⟨gb122, 3, none⟩ = some (.int .i64 ((rd_T30 l0 (ji14)).f3)) := (blk_cell BK122.out 3).trans rfl
                                have hfz42_0 := blk_frozen BK122.out 0
                                have hfz42_1 := blk_frozen BK122.out 1
                                have hfz42_2 := blk_frozen BK122.out 2
                                have hfz42_3 := blk_frozen BK122.out 3
                                go_wp2
                                repeat (go_quiet (fail); try go_wp2)
                                go_ret
                                exact ⟨by first | rfl | (simp [errW_none, errW_some] <;> rfl) | (simp only [← hji14]; first | rfl | (simp [errW_none, errW_some] <;> rfl)) | (simp [*, errW_none, errW_some] <;> rfl), by repeat (first | (with_reducible first | exact HB.out | apply below_alloc | apply pw_below_drewN | apply below_drew1 | refine below_set ?_ GE122.out) | exact HB.out)⟩
                            · replace c37 := Bool.eq_false_iff.mpr c37
                              subst c37
                              have H1 : ((bulkheadlaw11_works.f).bind fun t128 => (some t128)) = some r := by rw [if_neg (show ¬ (false = true) by decide)] at H; exact H
                              clear H
                              have H := H1
                              clear H1
                              replace H := Option.bind_eq_some_iff.mp H
                              obtain ⟨t128, A430, H⟩ := H
                              replace H : (some t128) = some r := H
                              have A43 := Aside0.mk A430
                              clear A430
                              obtain rfl := Option.some.inj H
                              go_wp2_with (first | (go_at_call 11; (with_reducible refine (bulkheadlaw11_works.calls  t128 _ ?side1 A43.out).mono ?_); (case side1 => repeat (first | exact (GH_below HG.out HB.out) | (with_reducible refine GH_alloc ?_ _) | (with_reducible refine GH_drewN ?_ _) | (with_reducible refine GH_drew ?_))); rintro e w44 ⟨rfl, hb⟩; have n0_ := Aside0.mk (blk_below (g := gb122) (o := .cells #[.int .i64 ((rd_T30 l0 (ji14)).f0), .int .i64 ((rd_T30 l0 (ji14)).f1), .int .i64 ((rd_T30 l0 (ji14)).f2), .int .i64 ((rd_T30 l0 (ji14)).f3)] 30 (0, 0)) (by (with_reducible repeat (first | refine blk_drewN ?_ _ | refine blk_drew ?_ | refine blk_alloc ?_ _)); exact BK122.out) hb); have n1_ := Aside0.mk (below_step (by repeat (first | (with_reducible first | exact HB.out | apply below_alloc | apply pw_below_drewN | apply below_drew1 | refine below_set ?_ GE122.out) | exact HB.out)) hb); clear BK122; clear HB; have BK122 := n0_; have HB := n1_; clear n0_ n1_; (try clear hb); (try clear hb2); (try clear hk); (try clear hi)))
                              repeat (go_quiet (first | (go_at_call 11; (with_reducible refine (bulkheadlaw11_works.calls  t128 _ ?side1 A43.out).mono ?_); (case side1 => repeat (first | exact (GH_below HG.out HB.out) | (with_reducible refine GH_alloc ?_ _) | (with_reducible refine GH_drewN ?_ _) | (with_reducible refine GH_drew ?_))); rintro e w44 ⟨rfl, hb⟩; have n0_ := Aside0.mk (blk_below (g := gb122) (o := .cells #[.int .i64 ((rd_T30 l0 (ji14)).f0), .int .i64 ((rd_T30 l0 (ji14)).f1), .int .i64 ((rd_T30 l0 (ji14)).f2), .int .i64 ((rd_T30 l0 (ji14)).f3)] 30 (0, 0)) (by (with_reducible repeat (first | refine blk_drewN ?_ _ | refine blk_drew ?_ | refine blk_alloc ?_ _)); exact BK122.out) hb); have n1_ := Aside0.mk (below_step (by repeat (first | (with_reducible first | exact HB.out | apply below_alloc | apply pw_below_drewN | apply below_drew1 | refine below_set ?_ GE122.out) | exact HB.out)) hb); clear BK122; clear HB; have BK122 := n0_; have HB := n1_; clear n0_ n1_; (try clear hb); (try clear hb2); (try clear hk); (try clear hi))); try go_wp2_with (first | (go_at_call 11; (with_reducible refine (bulkheadlaw11_works.calls  t128 _ ?side1 A43.out).mono ?_); (case side1 => repeat (first | exact (GH_below HG.out HB.out) | (with_reducible refine GH_alloc ?_ _) | (with_reducible refine GH_drewN ?_ _) | (with_reducible refine GH_drew ?_))); rintro e w44 ⟨rfl, hb⟩; have n0_ := Aside0.mk (blk_below (g := gb122) (o := .cells #[.int .i64 ((rd_T30 l0 (ji14)).f0), .int .i64 ((rd_T30 l0 (ji14)).f1), .int .i64 ((rd_T30 l0 (ji14)).f2), .int .i64 ((rd_T30 l0 (ji14)).f3)] 30 (0, 0)) (by (with_reducible repeat (first | refine blk_drewN ?_ _ | refine blk_drew ?_ | refine blk_alloc ?_ _)); exact BK122.out) hb); have n1_ := Aside0.mk (below_step (by repeat (first | (with_reducible first | exact HB.out | apply below_alloc | apply pw_below_drewN | apply below_drew1 | refine below_set ?_ GE122.out) | exact HB.out)) hb); clear BK122; clear HB; have BK122 := n0_; have HB := n1_; clear n0_ n1_; (try clear hb); (try clear hb2); (try clear hk); (try clear hi))))
                              go_ret
                              exact ⟨by first | rfl | (simp [errW_none, errW_some] <;> rfl) | (simp only [← hji14]; first | rfl | (simp [errW_none, errW_some] <;> rfl)) | (simp [*, errW_none, errW_some] <;> rfl), by repeat (first | (with_reducible first | exact HB.out | apply below_alloc | apply pw_below_drewN | apply below_drew1 | refine below_set ?_ GE122.out) | exact HB.out)⟩
          · as_aux_lemma =>
            rw [if_neg c16] at H
            exact absurd H (by simp)
        · as_aux_lemma =>
          rw [if_neg c15] at H
          exact absurd H (by simp)

end Go.Proofs.YtmphhgcmmcomjaaDoor.B
