/- Lean functions for the Go functions of one law, and proofs that the calls come to them: made by a program of this session (wip/tools/plug.py) over the printer of the kit; no conditions. -/
import Derived.Test.YtceeoifbimlkdaaPNumLeastx0
import Derived.Test.YtceeoifbimlkdaaPNumLeastx1
namespace Go.Proofs.Ytceeoifbimlkdaa.PNumLeast
open Go.RowKit Go.Proofs.YtceeoifbimlkdaaW.PrintWords Go.Proofs.YtceeoifbimlkdaaW.PrintLast Go.Proofs.YtceeoifbimlkdaaW.PrintMore
attribute [local go_sem] max2_int min2_int max_two min_two max_three min_three max_four min_four   -- for this text's walks alone
set_option linter.unusedVariables false
set_option linter.unusedSimpArgs false

/-! ### bulkheadlaw01_NumLeast: function 5 -/
mutual
def bulkheadlaw01_NumLeast.l0 : Nat → List Int → Int → Int → Int → Int → Int → Int → Bool → Bool → Int → Option (Bool)
  | 0, _, _, _, _, _, _, _, _, _, _ => none
  | k + 1, x0, x1, x2, x3, x4, x5, x13, x14, x15, x16 => if x16 < (x0.length : Int) then (if x15 = true then (if 0 ≤ x16 then (bulkheadlaw01_NumLeast.l0 k x0 x1 x2 x3 x4 x5 x13 x14 (decide ((rd x0 x16) ≥ 1)) (wrap64 (x16 + 1))) else (none)) else (bulkheadlaw01_NumLeast.l0 k x0 x1 x2 x3 x4 x5 x13 x14 false (wrap64 (x16 + 1)))) else (if x15 = true then (if x14 = true then (if x13 < 1 then (bulkheadlaw01_NumLeast.j1 k x0 x1 x2 x3 x4 x5 x13 x14 true) else (if x13 > x1 then (bulkheadlaw01_NumLeast.j1 k x0 x1 x2 x3 x4 x5 x13 x14 true) else (bulkheadlaw01_NumLeast.j1 k x0 x1 x2 x3 x4 x5 x13 x14 false))) else (bulkheadlaw01_NumLeast.j1 k x0 x1 x2 x3 x4 x5 x13 x14 (x13 != 0))) else (if x14 = true then (some false) else (some (x13 == 0))))
def bulkheadlaw01_NumLeast.j1 : Nat → List Int → Int → Int → Int → Int → Int → Int → Bool → Bool → Option (Bool)
  | 0, _, _, _, _, _, _, _, _, _ => none
  | k + 1, x0, x1, x2, x3, x4, x5, x13, x14, x68 => if x68 = true then (some false) else (if x2 ≥ 1 then (bulkheadlaw01_NumLeast.j2 k x0 x2 x3 x4 x5 x13 x14 (decide (x2 ≤ x1))) else (bulkheadlaw01_NumLeast.j2 k x0 x2 x3 x4 x5 x13 x14 false))
def bulkheadlaw01_NumLeast.j2 : Nat → List Int → Int → Int → Int → Int → Int → Bool → Bool → Option (Bool)
  | 0, _, _, _, _, _, _, _, _ => none
  | k + 1, x0, x2, x3, x4, x5, x13, x14, x17 => bulkheadlaw01_NumLeast.l1 k x0 x2 x3 x4 x5 x13 x14 x17 0
def bulkheadlaw01_NumLeast.l1 : Nat → List Int → Int → Int → Int → Int → Int → Bool → Bool → Int → Option (Bool)
  | 0, _, _, _, _, _, _, _, _, _ => none
  | k + 1, x0, x2, x3, x4, x5, x13, x14, x17, x18 => if x18 < (x0.length : Int) then (if x14 = true then (if 0 ≤ x18 then (if (rd x0 x18) = 0 then (none) else (bulkheadlaw01_NumLeast.j4 k x0 x2 x3 x4 x5 x13 x14 x17 x18 ((Int.tmod x13 (rd x0 x18)) != 0))) else (none)) else (bulkheadlaw01_NumLeast.j4 k x0 x2 x3 x4 x5 x13 x14 x17 x18 false)) else (if x17 = true then (if x14 = true then (if x13 = 0 then (none) else (bulkheadlaw01_NumLeast.j5 k x3 x4 x5 ((Int.tmod x2 x13) != 0))) else (bulkheadlaw01_NumLeast.j5 k x3 x4 x5 true)) else (bulkheadlaw01_NumLeast.j5 k x3 x4 x5 false))
def bulkheadlaw01_NumLeast.j4 : Nat → List Int → Int → Int → Int → Int → Int → Bool → Bool → Int → Bool → Option (Bool)
  | 0, _, _, _, _, _, _, _, _, _, _ => none
  | k + 1, x0, x2, x3, x4, x5, x13, x14, x17, x18, x91 => if x91 = true then (some false) else (if x17 = true then (if 0 ≤ x18 then (if x18 < (x0.length : Int) then (if (rd x0 x18) = 0 then (none) else (bulkheadlaw01_NumLeast.l1 k x0 x2 x3 x4 x5 x13 x14 ((Int.tmod x2 (rd x0 x18)) == 0) (wrap64 (x18 + 1)))) else (none)) else (none)) else (bulkheadlaw01_NumLeast.l1 k x0 x2 x3 x4 x5 x13 x14 false (wrap64 (x18 + 1))))
def bulkheadlaw01_NumLeast.j5 : Nat → Int → Int → Int → Bool → Option (Bool)
  | 0, _, _, _, _ => none
  | k + 1, x3, x4, x5, x112 => if x112 = true then (some false) else ((num_Gcd_int64.f k x3 x4).bind fun t109 => (if t109 = 0 then (bulkheadlaw01_NumLeast.j6 k x3 x4 x5 t109 false) else (if (Int.tmod x3 t109) = 0 then (if (Int.tmod x4 t109) = 0 then (bulkheadlaw01_NumLeast.j6 k x3 x4 x5 t109 (decide (t109 < 0))) else (bulkheadlaw01_NumLeast.j6 k x3 x4 x5 t109 true)) else (bulkheadlaw01_NumLeast.j6 k x3 x4 x5 t109 true))))
def bulkheadlaw01_NumLeast.j6 : Nat → Int → Int → Int → Int → Bool → Option (Bool)
  | 0, _, _, _, _, _ => none
  | k + 1, x3, x4, x5, x19, x133 => if x133 = true then (some false) else (if x5 = 0 then (bulkheadlaw01_NumLeast.j7 k x3 x4 x19 false) else (if (Int.tmod x3 x5) = 0 then (if (Int.tmod x4 x5) = 0 then (if x19 = 0 then (bulkheadlaw01_NumLeast.j7 k x3 x4 x19 false) else (bulkheadlaw01_NumLeast.j7 k x3 x4 x19 ((Int.tmod x19 x5) != 0))) else (bulkheadlaw01_NumLeast.j7 k x3 x4 x19 false)) else (bulkheadlaw01_NumLeast.j7 k x3 x4 x19 false)))
def bulkheadlaw01_NumLeast.j7 : Nat → Int → Int → Int → Bool → Option (Bool)
  | 0, _, _, _, _ => none
  | k + 1, x3, x4, x19, x157 => if x157 = true then (some false) else (if x19 = 0 then (if x3 = 0 then (if x4 = 0 then (some true) else (some (x4 == (-9223372036854775808)))) else (if x3 = (-9223372036854775808) then (if x4 = 0 then (some true) else (some (x4 == (-9223372036854775808)))) else (some false))) else (some true))
end
def bulkheadlaw01_NumLeast.f (k : Nat) (l0 : List Int) (a1 : Int) (a2 : Int) (a3 : Int) (a4 : Int) (a5 : Int) : Option (Bool) := if (l0.length : Int) > 1000 then (some true) else ((num_Lcm_int64.f k l0 a1).bind fun bt104 => (bulkheadlaw01_NumLeast.l0 k l0 a1 a2 a3 a4 a5 bt104.1 bt104.2 true 0))
theorem bulkheadlaw01_NumLeast.mono_l : ∀ k, (∀ y0 y1 y2 y3 y4 y5 y6 y7 y8 y9, LeO (bulkheadlaw01_NumLeast.l0 k y0 y1 y2 y3 y4 y5 y6 y7 y8 y9) (bulkheadlaw01_NumLeast.l0 (k + 1) y0 y1 y2 y3 y4 y5 y6 y7 y8 y9)) ∧ (∀ y0 y1 y2 y3 y4 y5 y6 y7 y8, LeO (bulkheadlaw01_NumLeast.j1 k y0 y1 y2 y3 y4 y5 y6 y7 y8) (bulkheadlaw01_NumLeast.j1 (k + 1) y0 y1 y2 y3 y4 y5 y6 y7 y8)) ∧ (∀ y0 y1 y2 y3 y4 y5 y6 y7, LeO (bulkheadlaw01_NumLeast.j2 k y0 y1 y2 y3 y4 y5 y6 y7) (bulkheadlaw01_NumLeast.j2 (k + 1) y0 y1 y2 y3 y4 y5 y6 y7)) ∧ (∀ y0 y1 y2 y3 y4 y5 y6 y7 y8, LeO (bulkheadlaw01_NumLeast.l1 k y0 y1 y2 y3 y4 y5 y6 y7 y8) (bulkheadlaw01_NumLeast.l1 (k + 1) y0 y1 y2 y3 y4 y5 y6 y7 y8)) ∧ (∀ y0 y1 y2 y3 y4 y5 y6 y7 y8 y9, LeO (bulkheadlaw01_NumLeast.j4 k y0 y1 y2 y3 y4 y5 y6 y7 y8 y9) (bulkheadlaw01_NumLeast.j4 (k + 1) y0 y1 y2 y3 y4 y5 y6 y7 y8 y9)) ∧ (∀ y0 y1 y2 y3, LeO (bulkheadlaw01_NumLeast.j5 k y0 y1 y2 y3) (bulkheadlaw01_NumLeast.j5 (k + 1) y0 y1 y2 y3)) ∧ (∀ y0 y1 y2 y3 y4, LeO (bulkheadlaw01_NumLeast.j6 k y0 y1 y2 y3 y4) (bulkheadlaw01_NumLeast.j6 (k + 1) y0 y1 y2 y3 y4)) ∧ (∀ y0 y1 y2 y3, LeO (bulkheadlaw01_NumLeast.j7 k y0 y1 y2 y3) (bulkheadlaw01_NumLeast.j7 (k + 1) y0 y1 y2 y3))
  | 0 => ⟨fun _ _ _ _ _ _ _ _ _ _ r h => by simp [bulkheadlaw01_NumLeast.l0] at h, fun _ _ _ _ _ _ _ _ _ r h => by simp [bulkheadlaw01_NumLeast.j1] at h, fun _ _ _ _ _ _ _ _ r h => by simp [bulkheadlaw01_NumLeast.j2] at h, fun _ _ _ _ _ _ _ _ _ r h => by simp [bulkheadlaw01_NumLeast.l1] at h, fun _ _ _ _ _ _ _ _ _ _ r h => by simp [bulkheadlaw01_NumLeast.j4] at h, fun _ _ _ _ r h => by simp [bulkheadlaw01_NumLeast.j5] at h, fun _ _ _ _ _ r h => by simp [bulkheadlaw01_NumLeast.j6] at h, fun _ _ _ _ r h => by simp [bulkheadlaw01_NumLeast.j7] at h⟩
  | k + 1 => by
    obtain ⟨ih0, ih1, ih2, ih3, ih4, ih5, ih6, ih7⟩ := bulkheadlaw01_NumLeast.mono_l k
    refine ⟨?_, ?_, ?_, ?_, ?_, ?_, ?_, ?_⟩
    · intro y0 y1 y2 y3 y4 y5 y6 y7 y8 y9
      unfold bulkheadlaw01_NumLeast.l0
      repeat' first
      | (with_reducible exact ih0 _ _ _ _ _ _ _ _ _ _)
      | (with_reducible exact ih1 _ _ _ _ _ _ _ _ _)
      | (with_reducible exact ih2 _ _ _ _ _ _ _ _)
      | (with_reducible exact ih3 _ _ _ _ _ _ _ _ _)
      | (with_reducible exact ih4 _ _ _ _ _ _ _ _ _ _)
      | (with_reducible exact ih5 _ _ _ _)
      | (with_reducible exact ih6 _ _ _ _ _)
      | (with_reducible exact ih7 _ _ _ _)
      | (with_reducible exact num_Gcd_int64.mono _ _ _)
      | (with_reducible exact num_Lcm_int64.mono _ _ _)
      | (with_reducible exact LeO.refl _)
      | (with_reducible exact LeO.none _)
      | (with_reducible refine LeO.ite ?_ ?_)
      | (with_reducible refine LeO.bind ?_ (fun _ => ?_))
      | exact ih0 _ _ _ _ _ _ _ _ _ _
      | exact ih1 _ _ _ _ _ _ _ _ _
      | exact ih2 _ _ _ _ _ _ _ _
      | exact ih3 _ _ _ _ _ _ _ _ _
      | exact ih4 _ _ _ _ _ _ _ _ _ _
      | exact ih5 _ _ _ _
      | exact ih6 _ _ _ _ _
      | exact ih7 _ _ _ _
      | exact num_Gcd_int64.mono _ _ _
      | exact num_Lcm_int64.mono _ _ _
      | exact LeO.none _
      | refine LeO.ite ?_ ?_
      | refine LeO.bind ?_ (fun _ => ?_)
    · intro y0 y1 y2 y3 y4 y5 y6 y7 y8
      unfold bulkheadlaw01_NumLeast.j1
      repeat' first
      | (with_reducible exact ih0 _ _ _ _ _ _ _ _ _ _)
      | (with_reducible exact ih1 _ _ _ _ _ _ _ _ _)
      | (with_reducible exact ih2 _ _ _ _ _ _ _ _)
      | (with_reducible exact ih3 _ _ _ _ _ _ _ _ _)
      | (with_reducible exact ih4 _ _ _ _ _ _ _ _ _ _)
      | (with_reducible exact ih5 _ _ _ _)
      | (with_reducible exact ih6 _ _ _ _ _)
      | (with_reducible exact ih7 _ _ _ _)
      | (with_reducible exact num_Gcd_int64.mono _ _ _)
      | (with_reducible exact num_Lcm_int64.mono _ _ _)
      | (with_reducible exact LeO.refl _)
      | (with_reducible exact LeO.none _)
      | (with_reducible refine LeO.ite ?_ ?_)
      | (with_reducible refine LeO.bind ?_ (fun _ => ?_))
      | exact ih0 _ _ _ _ _ _ _ _ _ _
      | exact ih1 _ _ _ _ _ _ _ _ _
      | exact ih2 _ _ _ _ _ _ _ _
      | exact ih3 _ _ _ _ _ _ _ _ _
      | exact ih4 _ _ _ _ _ _ _ _ _ _
      | exact ih5 _ _ _ _
      | exact ih6 _ _ _ _ _
      | exact ih7 _ _ _ _
      | exact num_Gcd_int64.mono _ _ _
      | exact num_Lcm_int64.mono _ _ _
      | exact LeO.none _
      | refine LeO.ite ?_ ?_
      | refine LeO.bind ?_ (fun _ => ?_)
    · intro y0 y1 y2 y3 y4 y5 y6 y7
      unfold bulkheadlaw01_NumLeast.j2
      repeat' first
      | (with_reducible exact ih0 _ _ _ _ _ _ _ _ _ _)
      | (with_reducible exact ih1 _ _ _ _ _ _ _ _ _)
      | (with_reducible exact ih2 _ _ _ _ _ _ _ _)
      | (with_reducible exact ih3 _ _ _ _ _ _ _ _ _)
      | (with_reducible exact ih4 _ _ _ _ _ _ _ _ _ _)
      | (with_reducible exact ih5 _ _ _ _)
      | (with_reducible exact ih6 _ _ _ _ _)
      | (with_reducible exact ih7 _ _ _ _)
      | (with_reducible exact num_Gcd_int64.mono _ _ _)
      | (with_reducible exact num_Lcm_int64.mono _ _ _)
      | (with_reducible exact LeO.refl _)
      | (with_reducible exact LeO.none _)
      | (with_reducible refine LeO.ite ?_ ?_)
      | (with_reducible refine LeO.bind ?_ (fun _ => ?_))
      | exact ih0 _ _ _ _ _ _ _ _ _ _
      | exact ih1 _ _ _ _ _ _ _ _ _
      | exact ih2 _ _ _ _ _ _ _ _
      | exact ih3 _ _ _ _ _ _ _ _ _
      | exact ih4 _ _ _ _ _ _ _ _ _ _
      | exact ih5 _ _ _ _
      | exact ih6 _ _ _ _ _
      | exact ih7 _ _ _ _
      | exact num_Gcd_int64.mono _ _ _
      | exact num_Lcm_int64.mono _ _ _
      | exact LeO.none _
      | refine LeO.ite ?_ ?_
      | refine LeO.bind ?_ (fun _ => ?_)
    · intro y0 y1 y2 y3 y4 y5 y6 y7 y8
      unfold bulkheadlaw01_NumLeast.l1
      repeat' first
      | (with_reducible exact ih0 _ _ _ _ _ _ _ _ _ _)
      | (with_reducible exact ih1 _ _ _ _ _ _ _ _ _)
      | (with_reducible exact ih2 _ _ _ _ _ _ _ _)
      | (with_reducible exact ih3 _ _ _ _ _ _ _ _ _)
      | (with_reducible exact ih4 _ _ _ _ _ _ _ _ _ _)
      | (with_reducible exact ih5 _ _ _ _)
      | (with_reducible exact ih6 _ _ _ _ _)
      | (with_reducible exact ih7 _ _ _ _)
      | (with_reducible exact num_Gcd_int64.mono _ _ _)
      | (with_reducible exact num_Lcm_int64.mono _ _ _)
      | (with_reducible exact LeO.refl _)
      | (with_reducible exact LeO.none _)
      | (with_reducible refine LeO.ite ?_ ?_)
      | (with_reducible refine LeO.bind ?_ (fun _ => ?_))
      | exact ih0 _ _ _ _ _ _ _ _ _ _
      | exact ih1 _ _ _ _ _ _ _ _ _
      | exact ih2 _ _ _ _ _ _ _ _
      | exact ih3 _ _ _ _ _ _ _ _ _
      | exact ih4 _ _ _ _ _ _ _ _ _ _
      | exact ih5 _ _ _ _
      | exact ih6 _ _ _ _ _
      | exact ih7 _ _ _ _
      | exact num_Gcd_int64.mono _ _ _
      | exact num_Lcm_int64.mono _ _ _
      | exact LeO.none _
      | refine LeO.ite ?_ ?_
      | refine LeO.bind ?_ (fun _ => ?_)
    · intro y0 y1 y2 y3 y4 y5 y6 y7 y8 y9
      unfold bulkheadlaw01_NumLeast.j4
      repeat' first
      | (with_reducible exact ih0 _ _ _ _ _ _ _ _ _ _)
      | (with_reducible exact ih1 _ _ _ _ _ _ _ _ _)
      | (with_reducible exact ih2 _ _ _ _ _ _ _ _)
      | (with_reducible exact ih3 _ _ _ _ _ _ _ _ _)
      | (with_reducible exact ih4 _ _ _ _ _ _ _ _ _ _)
      | (with_reducible exact ih5 _ _ _ _)
      | (with_reducible exact ih6 _ _ _ _ _)
      | (with_reducible exact ih7 _ _ _ _)
      | (with_reducible exact num_Gcd_int64.mono _ _ _)
      | (with_reducible exact num_Lcm_int64.mono _ _ _)
      | (with_reducible exact LeO.refl _)
      | (with_reducible exact LeO.none _)
      | (with_reducible refine LeO.ite ?_ ?_)
      | (with_reducible refine LeO.bind ?_ (fun _ => ?_))
      | exact ih0 _ _ _ _ _ _ _ _ _ _
      | exact ih1 _ _ _ _ _ _ _ _ _
      | exact ih2 _ _ _ _ _ _ _ _
      | exact ih3 _ _ _ _ _ _ _ _ _
      | exact ih4 _ _ _ _ _ _ _ _ _ _
      | exact ih5 _ _ _ _
      | exact ih6 _ _ _ _ _
      | exact ih7 _ _ _ _
      | exact num_Gcd_int64.mono _ _ _
      | exact num_Lcm_int64.mono _ _ _
      | exact LeO.none _
      | refine LeO.ite ?_ ?_
      | refine LeO.bind ?_ (fun _ => ?_)
    · intro y0 y1 y2 y3
      unfold bulkheadlaw01_NumLeast.j5
      repeat' first
      | (with_reducible exact ih0 _ _ _ _ _ _ _ _ _ _)
      | (with_reducible exact ih1 _ _ _ _ _ _ _ _ _)
      | (with_reducible exact ih2 _ _ _ _ _ _ _ _)
      | (with_reducible exact ih3 _ _ _ _ _ _ _ _ _)
      | (with_reducible exact ih4 _ _ _ _ _ _ _ _ _ _)
      | (with_reducible exact ih5 _ _ _ _)
      | (with_reducible exact ih6 _ _ _ _ _)
      | (with_reducible exact ih7 _ _ _ _)
      | (with_reducible exact num_Gcd_int64.mono _ _ _)
      | (with_reducible exact num_Lcm_int64.mono _ _ _)
      | (with_reducible exact LeO.refl _)
      | (with_reducible exact LeO.none _)
      | (with_reducible refine LeO.ite ?_ ?_)
      | (with_reducible refine LeO.bind ?_ (fun _ => ?_))
      | exact ih0 _ _ _ _ _ _ _ _ _ _
      | exact ih1 _ _ _ _ _ _ _ _ _
      | exact ih2 _ _ _ _ _ _ _ _
      | exact ih3 _ _ _ _ _ _ _ _ _
      | exact ih4 _ _ _ _ _ _ _ _ _ _
      | exact ih5 _ _ _ _
      | exact ih6 _ _ _ _ _
      | exact ih7 _ _ _ _
      | exact num_Gcd_int64.mono _ _ _
      | exact num_Lcm_int64.mono _ _ _
      | exact LeO.none _
      | refine LeO.ite ?_ ?_
      | refine LeO.bind ?_ (fun _ => ?_)
    · intro y0 y1 y2 y3 y4
      unfold bulkheadlaw01_NumLeast.j6
      repeat' first
      | (with_reducible exact ih0 _ _ _ _ _ _ _ _ _ _)
      | (with_reducible exact ih1 _ _ _ _ _ _ _ _ _)
      | (with_reducible exact ih2 _ _ _ _ _ _ _ _)
      | (with_reducible exact ih3 _ _ _ _ _ _ _ _ _)
      | (with_reducible exact ih4 _ _ _ _ _ _ _ _ _ _)
      | (with_reducible exact ih5 _ _ _ _)
      | (with_reducible exact ih6 _ _ _ _ _)
      | (with_reducible exact ih7 _ _ _ _)
      | (with_reducible exact num_Gcd_int64.mono _ _ _)
      | (with_reducible exact num_Lcm_int64.mono _ _ _)
      | (with_reducible exact LeO.refl _)
      | (with_reducible exact LeO.none _)
      | (with_reducible refine LeO.ite ?_ ?_)
      | (with_reducible refine LeO.bind ?_ (fun _ => ?_))
      | exact ih0 _ _ _ _ _ _ _ _ _ _
      | exact ih1 _ _ _ _ _ _ _ _ _
      | exact ih2 _ _ _ _ _ _ _ _
      | exact ih3 _ _ _ _ _ _ _ _ _
      | exact ih4 _ _ _ _ _ _ _ _ _ _
      | exact ih5 _ _ _ _
      | exact ih6 _ _ _ _ _
      | exact ih7 _ _ _ _
      | exact num_Gcd_int64.mono _ _ _
      | exact num_Lcm_int64.mono _ _ _
      | exact LeO.none _
      | refine LeO.ite ?_ ?_
      | refine LeO.bind ?_ (fun _ => ?_)
    · intro y0 y1 y2 y3
      unfold bulkheadlaw01_NumLeast.j7
      repeat' first
      | (with_reducible exact ih0 _ _ _ _ _ _ _ _ _ _)
      | (with_reducible exact ih1 _ _ _ _ _ _ _ _ _)
      | (with_reducible exact ih2 _ _ _ _ _ _ _ _)
      | (with_reducible exact ih3 _ _ _ _ _ _ _ _ _)
      | (with_reducible exact ih4 _ _ _ _ _ _ _ _ _ _)
      | (with_reducible exact ih5 _ _ _ _)
      | (with_reducible exact ih6 _ _ _ _ _)
      | (with_reducible exact ih7 _ _ _ _)
      | (with_reducible exact num_Gcd_int64.mono _ _ _)
      | (with_reducible exact num_Lcm_int64.mono _ _ _)
      | (with_reducible exact LeO.refl _)
      | (with_reducible exact LeO.none _)
      | (with_reducible refine LeO.ite ?_ ?_)
      | (with_reducible refine LeO.bind ?_ (fun _ => ?_))
      | exact ih0 _ _ _ _ _ _ _ _ _ _
      | exact ih1 _ _ _ _ _ _ _ _ _
      | exact ih2 _ _ _ _ _ _ _ _
      | exact ih3 _ _ _ _ _ _ _ _ _
      | exact ih4 _ _ _ _ _ _ _ _ _ _
      | exact ih5 _ _ _ _
      | exact ih6 _ _ _ _ _
      | exact ih7 _ _ _ _
      | exact num_Gcd_int64.mono _ _ _
      | exact num_Lcm_int64.mono _ _ _
      | exact LeO.none _
      | refine LeO.ite ?_ ?_
      | refine LeO.bind ?_ (fun _ => ?_)
theorem bulkheadlaw01_NumLeast.mono : ∀ a0 a1 a2 a3 a4 a5 k, LeO (bulkheadlaw01_NumLeast.f k a0 a1 a2 a3 a4 a5) (bulkheadlaw01_NumLeast.f (k + 1) a0 a1 a2 a3 a4 a5) := by
  intro a0 a1 a2 a3 a4 a5 k
  obtain ⟨ih0, ih1, ih2, ih3, ih4, ih5, ih6, ih7⟩ := bulkheadlaw01_NumLeast.mono_l k
  unfold bulkheadlaw01_NumLeast.f
  repeat' first
      | (with_reducible exact ih0 _ _ _ _ _ _ _ _ _ _)
      | (with_reducible exact ih1 _ _ _ _ _ _ _ _ _)
      | (with_reducible exact ih2 _ _ _ _ _ _ _ _)
      | (with_reducible exact ih3 _ _ _ _ _ _ _ _ _)
      | (with_reducible exact ih4 _ _ _ _ _ _ _ _ _ _)
      | (with_reducible exact ih5 _ _ _ _)
      | (with_reducible exact ih6 _ _ _ _ _)
      | (with_reducible exact ih7 _ _ _ _)
      | (with_reducible exact num_Gcd_int64.mono _ _ _)
      | (with_reducible exact num_Lcm_int64.mono _ _ _)
      | (with_reducible exact LeO.refl _)
      | (with_reducible exact LeO.none _)
      | (with_reducible refine LeO.ite ?_ ?_)
      | (with_reducible refine LeO.bind ?_ (fun _ => ?_))
      | exact ih0 _ _ _ _ _ _ _ _ _ _
      | exact ih1 _ _ _ _ _ _ _ _ _
      | exact ih2 _ _ _ _ _ _ _ _
      | exact ih3 _ _ _ _ _ _ _ _ _
      | exact ih4 _ _ _ _ _ _ _ _ _ _
      | exact ih5 _ _ _ _
      | exact ih6 _ _ _ _ _
      | exact ih7 _ _ _ _
      | exact num_Gcd_int64.mono _ _ _
      | exact num_Lcm_int64.mono _ _ _
      | exact LeO.none _
      | refine LeO.ite ?_ ?_
      | refine LeO.bind ?_ (fun _ => ?_)
set_option maxHeartbeats 8000000 in
set_option maxRecDepth 100000 in
theorem bulkheadlaw01_NumLeast.calls (k : Nat) (A0 : Option Addr) (c0 : Nat) (l0 : List Int) (a1 : Int) (a2 : Int) (a3 : Int) (a4 : Int) (a5 : Int) (r : Bool) (w : World) (hr0 : Kd.C (Kd.int .i64) w A0 l0.length l0) (hc0 : l0.length ≤ c0) (h : bulkheadlaw01_NumLeast.f k l0 a1 a2 a3 a4 a5 = some r) :
    Calls Try.prog 5 #[.slice A0 l0.length c0, .int .i64 a1, .int .i64 a2, .int .i64 a3, .int .i64 a4, .int .i64 a5] w fun e w' => e = .returned (.bool r) ∧ Below w.heap.size w w' := by
  have HR0 := Aside0.mk hr0
  have HC0 := Aside0.mk hc0
  clear hr0 hc0
  have HB := Aside0.mk (Below.refl w.heap.size w)
  have H : (if (l0.length : Int) > 1000 then (some true) else ((num_Lcm_int64.f k l0 a1).bind fun bt104 => (bulkheadlaw01_NumLeast.l0 k l0 a1 a2 a3 a4 a5 bt104.1 bt104.2 true 0))) = some r := h
  clear h
  by_cases c7 : (l0.length : Int) > 1000
  · as_aux_lemma =>
    rw [if_pos c7] at H
    have c7b0 : decide (1000 < (l0.length : Int)) = true := decide_eq_true c7
    have c7b1 : decide (1000 < l0.length) = true := decide_eq_true (by omega)
    clear c7
    obtain rfl := Option.some.inj H
    go_enter Try.func5, Try.ntmps5
    go_wp2
    go_ret
    exact ⟨by first | rfl | (simp [errW_none, errW_some] <;> rfl) | (simp [*, errW_none, errW_some] <;> rfl), by repeat (first | (with_reducible first | exact HB.out | apply below_alloc | apply pw_below_drewN | apply below_drew1) | exact HB.out)⟩
  · as_aux_lemma =>
    rw [if_neg c7] at H
    have c7b0 : decide (1000 < (l0.length : Int)) = false := decide_eq_false c7
    have c7b1 : decide (1000 < l0.length) = false := decide_eq_false (by omega)
    clear c7
    replace H := Option.bind_eq_some_iff.mp H
    obtain ⟨⟨t104, t105⟩, A80, H⟩ := H
    replace H : (bulkheadlaw01_NumLeast.l0 k l0 a1 a2 a3 a4 a5 t104 t105 true 0) = some r := H
    have A8 := Aside0.mk A80
    clear A80
    have H' := Aside0.mk H
    clear H
    go_enter Try.func5, Try.ntmps5
    go_wp2_with (first | ((with_reducible refine gate_callee (f := 18) rfl ?_); refine goesL_ (some 26) rfl rfl Try.func18 (by kernel_rfl) rfl #[.slice A0 l0.length c0, .int .i64 a1] rfl (by (try simp only [List.map_toArray, List.map_cons, List.map_nil]); first | done | rfl | (simp only [List.length_drop, List.length_take]; rfl)) ?_; (with_reducible refine (num_Lcm_int64.calls k _ _ l0 a1 t104 t105 _ ?side1 ?side2 A8.out).mono ?_); (case side1 => repeat (first | exact HR0.out | (with_reducible refine Kd.C_alloc ?_ _) | (with_reducible refine Kd.C_drewN ?_ _) | (with_reducible refine Kd.C_drew ?_))); (case side2 => exact HC0.out); rintro e w9 ⟨rfl, hb⟩; refine ⟨_, rfl, ?_⟩; have n0_ := Aside0.mk (below_step (by repeat (first | (with_reducible first | exact HB.out | apply below_alloc | apply pw_below_drewN | apply below_drew1) | exact HB.out)) hb); clear HB; have HB := n0_; clear n0_; (try clear hb); (try clear hb2); (try clear hk); (try clear hi)))
    go_loopg [15, 16] k (fun kq v15 v16 w' => ∃ (x15_1 : Bool) (x16_1 : Int), v15 = .bool x15_1 ∧ v16 = .int .i64 x16_1 ∧ Aside0 (bulkheadlaw01_NumLeast.l0 kq l0 a1 a2 a3 a4 a5 t104 t105 x15_1 x16_1 = some r) ∧ Aside0 (kq ≤ k) ∧ Aside0 (Below w.heap.size w w'))
    case atStart => exact ⟨(true), (0), (by first | rfl | (simp; done) | (simp [*]; done)), (by first | rfl | (simp; done) | (simp [*]; done)), H', ⟨Nat.le_refl _⟩, ⟨by repeat (first | (with_reducible first | exact HB.out | apply below_alloc | apply pw_below_drewN | apply below_drew1) | exact HB.out)⟩⟩
    case round =>
      clear H'
      try clear c1
      try clear p2
      try clear c5
      try clear c7
      try clear c7b0
      try clear c7b1
      obtain ⟨x15_1, x16_1, rfl, rfl, HA, HK1, HB⟩ := hrel
      cases gk with
      | zero => exact absurd HA.out (by simp [bulkheadlaw01_NumLeast.l0])
      | succ k1 =>
        have H := HA.out
        clear HA
        simp only [bulkheadlaw01_NumLeast.l0] at H
        by_cases c10 : x16_1 < (l0.length : Int)
        · as_aux_lemma =>
          rw [if_pos c10] at H
          have c10b0 : decide (x16_1 < (l0.length : Int)) = true := decide_eq_true c10
          clear c10
          by_cases c11 : x15_1 = true
          · subst c11
            have H1 : (if 0 ≤ x16_1 then (bulkheadlaw01_NumLeast.l0 k1 l0 a1 a2 a3 a4 a5 t104 t105 (decide ((rd l0 x16_1) ≥ 1)) (wrap64 (x16_1 + 1))) else (none)) = some r := by rw [if_pos rfl] at H; exact H
            clear H
            have H := H1
            clear H1
            by_cases c12 : 0 ≤ x16_1
            · as_aux_lemma =>
              rw [if_pos c12] at H
              have c12b0 : decide (0 ≤ x16_1) = true := decide_eq_true c12
              clear c12
              have H' := Aside0.mk H
              clear H
              have p106 : 0 ≤ (x16_1 : Int) := of_decide_eq_true (by first | (with_reducible assumption) | assumption)
              have q106 : x16_1 < (l0.length : Int) := of_decide_eq_true (by first | (with_reducible assumption) | assumption)
              obtain ⟨ad106, e106, hx106_0⟩ := Kd.at_int HR0.out x16_1 p106 q106
              cases e106
              replace hx106_0 := (HB.out.cell (World.block_lt_of_cell? w _ hx106_0)).trans hx106_0
              replace p106 := eq_true p106
              replace q106 := eq_true q106
              go_wp2
              go_roundg k1
              case measure => have := HK1.out; omega
              case rel => exact ⟨(decide ((rd l0 x16_1) ≥ 1)), (wrap64 (x16_1 + 1)), (by first | rfl | (simp; done) | (simp [*]; done)), (by first | rfl | (simp; done) | (simp [*]; done)), H', ⟨by have := HK1.out; omega⟩, ⟨by repeat (first | (with_reducible first | exact HB.out | apply below_alloc | apply pw_below_drewN | apply below_drew1) | exact HB.out)⟩⟩
            · as_aux_lemma =>
              rw [if_neg c12] at H
              exact absurd H (by simp)
          · replace c11 := Bool.eq_false_iff.mpr c11
            subst c11
            have H1 : (bulkheadlaw01_NumLeast.l0 k1 l0 a1 a2 a3 a4 a5 t104 t105 false (wrap64 (x16_1 + 1))) = some r := by rw [if_neg (show ¬ (false = true) by decide)] at H; exact H
            clear H
            have H := H1
            clear H1
            have H' := Aside0.mk H
            clear H
            go_wp2
            go_roundg k1
            case measure => have := HK1.out; omega
            case rel => exact ⟨(false), (wrap64 (x16_1 + 1)), (by first | rfl | (simp; done) | (simp [*]; done)), (by first | rfl | (simp; done) | (simp [*]; done)), H', ⟨by have := HK1.out; omega⟩, ⟨by repeat (first | (with_reducible first | exact HB.out | apply below_alloc | apply pw_below_drewN | apply below_drew1) | exact HB.out)⟩⟩
        · as_aux_lemma =>
          rw [if_neg c10] at H
          have c10b0 : decide (x16_1 < (l0.length : Int)) = false := decide_eq_false c10
          clear c10
          by_cases c13 : x15_1 = true
          · subst c13
            have H1 : (if t105 = true then (if t104 < 1 then (bulkheadlaw01_NumLeast.j1 k1 l0 a1 a2 a3 a4 a5 t104 t105 true) else (if t104 > a1 then (bulkheadlaw01_NumLeast.j1 k1 l0 a1 a2 a3 a4 a5 t104 t105 true) else (bulkheadlaw01_NumLeast.j1 k1 l0 a1 a2 a3 a4 a5 t104 t105 false))) else (bulkheadlaw01_NumLeast.j1 k1 l0 a1 a2 a3 a4 a5 t104 t105 (t104 != 0))) = some r := by rw [if_pos rfl] at H; exact H
            clear H
            have H := H1
            clear H1
            have HC14 := Aside0.mk H
            clear H
            go_upto_region 11 with (fail)
            go_cut [68] (fun v68 wc => ∃ (kq : Nat) (x68_13 : Bool), v68 = .bool x68_13 ∧ Aside0 (bulkheadlaw01_NumLeast.j1 kq l0 a1 a2 a3 a4 a5 t104 t105 x68_13 = some r) ∧ Aside0 (kq ≤ k1) ∧ Aside0 (Below w.heap.size w wc))
            case first =>
              have H := HC14.out
              clear HC14
              by_cases c15 : t105 = true
              · subst c15
                have H1 : (if t104 < 1 then (bulkheadlaw01_NumLeast.j1 k1 l0 a1 a2 a3 a4 a5 t104 true true) else (if t104 > a1 then (bulkheadlaw01_NumLeast.j1 k1 l0 a1 a2 a3 a4 a5 t104 true true) else (bulkheadlaw01_NumLeast.j1 k1 l0 a1 a2 a3 a4 a5 t104 true false))) = some r := by rw [if_pos rfl] at H; exact H
                clear H
                have H := H1
                clear H1
                by_cases c16 : t104 < 1
                · as_aux_lemma =>
                  rw [if_pos c16] at H
                  have c16b0 : decide (t104 < 1) = true := decide_eq_true c16
                  clear c16
                  (first | rw [c16b0] | (simp only [i64_w, i32_w]; rw [c16b0]) | skip)
                  have H' := Aside0.mk H
                  clear H
                  go_wp2
                  go_meet
                  case rel => exact ⟨_, (true), (by first | rfl | (simp; done) | (simp [*]; done)), H', ⟨by have := HK1.out; first | omega | exact Nat.le_refl _⟩, ⟨by repeat (first | (with_reducible first | exact HB.out | apply below_alloc | apply pw_below_drewN | apply below_drew1) | exact HB.out)⟩⟩
                · as_aux_lemma =>
                  rw [if_neg c16] at H
                  have c16b0 : decide (t104 < 1) = false := decide_eq_false c16
                  clear c16
                  (first | rw [c16b0] | (simp only [i64_w, i32_w]; rw [c16b0]) | skip)
                  by_cases c17 : t104 > a1
                  · as_aux_lemma =>
                    rw [if_pos c17] at H
                    have c17b0 : decide (a1 < t104) = true := decide_eq_true c17
                    clear c17
                    have H' := Aside0.mk H
                    clear H
                    go_wp2
                    go_meet
                    case rel => exact ⟨_, (true), (by first | rfl | (simp; done) | (simp [*]; done)), H', ⟨by have := HK1.out; first | omega | exact Nat.le_refl _⟩, ⟨by repeat (first | (with_reducible first | exact HB.out | apply below_alloc | apply pw_below_drewN | apply below_drew1) | exact HB.out)⟩⟩
                  · as_aux_lemma =>
                    rw [if_neg c17] at H
                    have c17b0 : decide (a1 < t104) = false := decide_eq_false c17
                    clear c17
                    have H' := Aside0.mk H
                    clear H
                    go_wp2
                    go_meet
                    case rel => exact ⟨_, (false), (by first | rfl | (simp; done) | (simp [*]; done)), H', ⟨by have := HK1.out; first | omega | exact Nat.le_refl _⟩, ⟨by repeat (first | (with_reducible first | exact HB.out | apply below_alloc | apply pw_below_drewN | apply below_drew1) | exact HB.out)⟩⟩
              · replace c15 := Bool.eq_false_iff.mpr c15
                subst c15
                have H1 : (bulkheadlaw01_NumLeast.j1 k1 l0 a1 a2 a3 a4 a5 t104 false (t104 != 0)) = some r := by rw [if_neg (show ¬ (false = true) by decide)] at H; exact H
                clear H
                have H := H1
                clear H1
                have H' := Aside0.mk H
                clear H
                go_wp2
                go_meet
                case rel => exact ⟨_, ((t104 != 0)), (by first | rfl | (simp; done) | (simp [*]; done)), H', ⟨by have := HK1.out; first | omega | exact Nat.le_refl _⟩, ⟨by repeat (first | (with_reducible first | exact HB.out | apply below_alloc | apply pw_below_drewN | apply below_drew1) | exact HB.out)⟩⟩
            case rest =>
              clear HC14
              try clear c1
              try clear p1
              try clear q1
              try clear hx1
              try clear p2
              try clear c5
              try clear p6
              try clear c7
              try clear c7b0
              try clear c7b1
              try clear c10
              try clear c10b0
              try clear p10
              try clear q10
              try clear hx10
              try clear c11
              try clear c12
              try clear c12b0
              try clear c13
              try clear c15
              try clear c16
              try clear c16b0
              try clear c17
              try clear c17b0
              try clear hx106_0
              try clear p106
              try clear p2
              try clear q106
              obtain ⟨kq, x68_13, rfl, HA, HJ13, HB⟩ := hcut
              cases kq with
              | zero => exact absurd HA.out (by simp [bulkheadlaw01_NumLeast.j1])
              | succ kj13 =>
                have H := HA.out
                clear HA
                simp only [bulkheadlaw01_NumLeast.j1] at H
                by_cases c18 : x68_13 = true
                · subst c18
                  have H1 : (some false) = some r := by rw [if_pos rfl] at H; exact H
                  clear H
                  have H := H1
                  clear H1
                  obtain rfl := Option.some.inj H
                  go_wp2
                  go_ret
                  exact ⟨by first | rfl | (simp [errW_none, errW_some] <;> rfl) | (simp [*, errW_none, errW_some] <;> rfl), by repeat (first | (with_reducible first | exact HB.out | apply below_alloc | apply pw_below_drewN | apply below_drew1) | exact HB.out)⟩
                · replace c18 := Bool.eq_false_iff.mpr c18
                  subst c18
                  have H1 : (if a2 ≥ 1 then (bulkheadlaw01_NumLeast.j2 kj13 l0 a2 a3 a4 a5 t104 t105 (decide (a2 ≤ a1))) else (bulkheadlaw01_NumLeast.j2 kj13 l0 a2 a3 a4 a5 t104 t105 false)) = some r := by rw [if_neg (show ¬ (false = true) by decide)] at H; exact H
                  clear H
                  have H := H1
                  clear H1
                  have HC19 := Aside0.mk H
                  clear H
                  go_upto_region 13 with (fail)
                  go_cut [17] (fun v17 wc => ∃ (kq : Nat) (x17_18 : Bool), v17 = .bool x17_18 ∧ Aside0 (bulkheadlaw01_NumLeast.j2 kq l0 a2 a3 a4 a5 t104 t105 x17_18 = some r) ∧ Aside0 (kq ≤ kj13) ∧ Aside0 (Below w.heap.size w wc))
                  case first =>
                    have H := HC19.out
                    clear HC19
                    by_cases c20 : a2 ≥ 1
                    · as_aux_lemma =>
                      rw [if_pos c20] at H
                      have c20b0 : decide (1 ≤ a2) = true := decide_eq_true c20
                      clear c20
                      (first | rw [c20b0] | (simp only [i64_w, i32_w]; rw [c20b0]) | skip)
                      have H' := Aside0.mk H
                      clear H
                      go_wp2
                      go_meet
                      case rel => exact ⟨_, (decide (a2 ≤ a1)), (by first | rfl | (simp; done) | (simp [*]; done)), H', ⟨by have := HK1.out; have := HJ13.out; first | omega | exact Nat.le_refl _⟩, ⟨by repeat (first | (with_reducible first | exact HB.out | apply below_alloc | apply pw_below_drewN | apply below_drew1) | exact HB.out)⟩⟩
                    · as_aux_lemma =>
                      rw [if_neg c20] at H
                      have c20b0 : decide (1 ≤ a2) = false := decide_eq_false c20
                      clear c20
                      (first | rw [c20b0] | (simp only [i64_w, i32_w]; rw [c20b0]) | skip)
                      have H' := Aside0.mk H
                      clear H
                      go_wp2
                      go_meet
                      case rel => exact ⟨_, (false), (by first | rfl | (simp; done) | (simp [*]; done)), H', ⟨by have := HK1.out; have := HJ13.out; first | omega | exact Nat.le_refl _⟩, ⟨by repeat (first | (with_reducible first | exact HB.out | apply below_alloc | apply pw_below_drewN | apply below_drew1) | exact HB.out)⟩⟩
                  case rest =>
                    clear HC19
                    try clear c1
                    try clear p1
                    try clear q1
                    try clear hx1
                    try clear c2
                    try clear p2
                    try clear c5
                    try clear p6
                    try clear c7
                    try clear c7b0
                    try clear c7b1
                    try clear c10
                    try clear c10b0
                    try clear p10
                    try clear q10
                    try clear hx10
                    try clear c11
                    try clear c12
                    try clear c12b0
                    try clear c13
                    try clear c15
                    try clear c16
                    try clear c16b0
                    try clear c17
                    try clear c17b0
                    try clear c18
                    try clear c20
                    try clear c20b0
                    try clear hx106_0
                    try clear p1
                    try clear p10
                    try clear p106
                    try clear p2
                    try clear p6
                    try clear q1
                    try clear q10
                    try clear q106
                    obtain ⟨kq, x17_18, rfl, HA, HJ18, HB⟩ := hcut
                    cases kq with
                    | zero => exact absurd HA.out (by simp [bulkheadlaw01_NumLeast.j2])
                    | succ kj18 =>
                      have H := HA.out
                      clear HA
                      simp only [bulkheadlaw01_NumLeast.j2] at H
                      have H' := Aside0.mk H
                      clear H
                      go_wp2
                      go_loopg [17, 18] kj18 (fun kq v17 v18 w' => ∃ (x17_4 : Bool) (x18_4 : Int), v17 = .bool x17_4 ∧ v18 = .int .i64 x18_4 ∧ Aside0 (bulkheadlaw01_NumLeast.l1 kq l0 a2 a3 a4 a5 t104 t105 x17_4 x18_4 = some r) ∧ Aside0 (kq ≤ kj18) ∧ Aside0 (Below w.heap.size w w'))
                      case atStart => exact ⟨(x17_18), (0), (by first | rfl | (simp; done) | (simp [*]; done)), (by first | rfl | (simp; done) | (simp [*]; done)), H', ⟨Nat.le_refl _⟩, ⟨by repeat (first | (with_reducible first | exact HB.out | apply below_alloc | apply pw_below_drewN | apply below_drew1) | exact HB.out)⟩⟩
                      case round =>
                        clear H'
                        try clear c1
                        try clear p1
                        try clear q1
                        try clear hx1
                        try clear c2
                        try clear p2
                        try clear c5
                        try clear p6
                        try clear c7
                        try clear c7b0
                        try clear c7b1
                        try clear c10
                        try clear c10b0
                        try clear p10
                        try clear q10
                        try clear hx10
                        try clear c11
                        try clear c12
                        try clear c12b0
                        try clear c13
                        try clear c15
                        try clear c16
                        try clear c16b0
                        try clear c17
                        try clear c17b0
                        try clear c18
                        try clear c20
                        try clear c20b0
                        try clear hx106_0
                        try clear p1
                        try clear p10
                        try clear p106
                        try clear p2
                        try clear p6
                        try clear q1
                        try clear q10
                        try clear q106
                        obtain ⟨x17_4, x18_4, rfl, rfl, HA, HK4, HB⟩ := hrel
                        cases gk with
                        | zero => exact absurd HA.out (by simp [bulkheadlaw01_NumLeast.l1])
                        | succ k4 =>
                          have H := HA.out
                          clear HA
                          simp only [bulkheadlaw01_NumLeast.l1] at H
                          by_cases c21 : x18_4 < (l0.length : Int)
                          · as_aux_lemma =>
                            rw [if_pos c21] at H
                            have c21b0 : decide (x18_4 < (l0.length : Int)) = true := decide_eq_true c21
                            clear c21
                            have HC22 := Aside0.mk H
                            clear H
                            go_upto_region 17 with (fail)
                            go_cut [91] (fun v91 wc => ∃ (kq : Nat) (x91_21 : Bool), v91 = .bool x91_21 ∧ Aside0 (bulkheadlaw01_NumLeast.j4 kq l0 a2 a3 a4 a5 t104 t105 x17_4 x18_4 x91_21 = some r) ∧ Aside0 (kq ≤ k4) ∧ Aside0 (Below w.heap.size w wc))
                            case first =>
                              have H := HC22.out
                              clear HC22
                              by_cases c23 : t105 = true
                              · subst c23
                                have H1 : (if 0 ≤ x18_4 then (if (rd l0 x18_4) = 0 then (none) else (bulkheadlaw01_NumLeast.j4 k4 l0 a2 a3 a4 a5 t104 true x17_4 x18_4 ((Int.tmod t104 (rd l0 x18_4)) != 0))) else (none)) = some r := by rw [if_pos rfl] at H; exact H
                                clear H
                                have H := H1
                                clear H1
                                by_cases c24 : 0 ≤ x18_4
                                · as_aux_lemma =>
                                  rw [if_pos c24] at H
                                  have c24b0 : decide (0 ≤ x18_4) = true := decide_eq_true c24
                                  clear c24
                                  (first | rw [c24b0] | (simp only [i64_w, i32_w]; rw [c24b0]) | skip)
                                  by_cases c25 : (rd l0 x18_4) = 0
                                  · as_aux_lemma =>
                                    rw [if_pos c25] at H
                                    exact absurd H (by simp)
                                  · as_aux_lemma =>
                                    rw [if_neg c25] at H
                                    have c25b0 : ((rd l0 x18_4) == 0) = false := beq_eq_false_iff_ne.mpr c25
                                    have c25b1 : ((rd l0 x18_4) != 0) = true := bne_iff_ne.mpr c25
                                    have H' := Aside0.mk H
                                    clear H
                                    have p107 : 0 ≤ (x18_4 : Int) := of_decide_eq_true (by first | (with_reducible assumption) | assumption)
                                    have q107 : x18_4 < (l0.length : Int) := of_decide_eq_true (by first | (with_reducible assumption) | assumption)
                                    obtain ⟨ad107, e107, hx107_0⟩ := Kd.at_int HR0.out x18_4 p107 q107
                                    cases e107
                                    replace hx107_0 := (HB.out.cell (World.block_lt_of_cell? w _ hx107_0)).trans hx107_0
                                    replace p107 := eq_true p107
                                    replace q107 := eq_true q107
                                    go_wp2
                                    go_meet
                                    case rel => exact ⟨_, (((Int.tmod t104 (rd l0 x18_4)) != 0)), (by first | rfl | (simp; done) | (simp [*]; done)), H', ⟨by have := HK1.out; have := HJ13.out; have := HJ18.out; have := HK4.out; first | omega | exact Nat.le_refl _⟩, ⟨by repeat (first | (with_reducible first | exact HB.out | apply below_alloc | apply pw_below_drewN | apply below_drew1) | exact HB.out)⟩⟩
                                · as_aux_lemma =>
                                  rw [if_neg c24] at H
                                  exact absurd H (by simp)
                              · replace c23 := Bool.eq_false_iff.mpr c23
                                subst c23
                                have H1 : (bulkheadlaw01_NumLeast.j4 k4 l0 a2 a3 a4 a5 t104 false x17_4 x18_4 false) = some r := by rw [if_neg (show ¬ (false = true) by decide)] at H; exact H
                                clear H
                                have H := H1
                                clear H1
                                have H' := Aside0.mk H
                                clear H
                                go_wp2
                                go_meet
                                case rel => exact ⟨_, (false), (by first | rfl | (simp; done) | (simp [*]; done)), H', ⟨by have := HK1.out; have := HJ13.out; have := HJ18.out; have := HK4.out; first | omega | exact Nat.le_refl _⟩, ⟨by repeat (first | (with_reducible first | exact HB.out | apply below_alloc | apply pw_below_drewN | apply below_drew1) | exact HB.out)⟩⟩
                            case rest =>
                              clear HC22
                              try clear c1
                              try clear p1
                              try clear q1
                              try clear hx1
                              try clear c2
                              try clear p2
                              try clear c5
                              try clear p6
                              try clear c7
                              try clear c7b0
                              try clear c7b1
                              try clear c10
                              try clear c10b0
                              try clear p10
                              try clear q10
                              try clear hx10
                              try clear c11
                              try clear c12
                              try clear c12b0
                              try clear c13
                              try clear c15
                              try clear c16
                              try clear c16b0
                              try clear c17
                              try clear c17b0
                              try clear c18
                              try clear c20
                              try clear c20b0
                              try clear c21
                              try clear c21b0
                              try clear c23
                              try clear c24
                              try clear c24b0
                              try clear c25
                              try clear c25b0
                              try clear c25b1
                              try clear hx106_0
                              try clear hx107_0
                              try clear p1
                              try clear p10
                              try clear p106
                              try clear p107
                              try clear p2
                              try clear p6
                              try clear q1
                              try clear q10
                              try clear q106
                              try clear q107
                              obtain ⟨kq, x91_21, rfl, HA, HJ21, HB⟩ := hcut
                              cases kq with
                              | zero => exact absurd HA.out (by simp [bulkheadlaw01_NumLeast.j4])
                              | succ kj21 =>
                                have H := HA.out
                                clear HA
                                simp only [bulkheadlaw01_NumLeast.j4] at H
                                by_cases c26 : x91_21 = true
                                · subst c26
                                  have H1 : (some false) = some r := by rw [if_pos rfl] at H; exact H
                                  clear H
                                  have H := H1
                                  clear H1
                                  obtain rfl := Option.some.inj H
                                  go_wp2
                                  go_ret
                                  exact ⟨by first | rfl | (simp [errW_none, errW_some] <;> rfl) | (simp [*, errW_none, errW_some] <;> rfl), by repeat (first | (with_reducible first | exact HB.out | apply below_alloc | apply pw_below_drewN | apply below_drew1) | exact HB.out)⟩
                                · replace c26 := Bool.eq_false_iff.mpr c26
                                  subst c26
                                  have H1 : (if x17_4 = true then (if 0 ≤ x18_4 then (if x18_4 < (l0.length : Int) then (if (rd l0 x18_4) = 0 then (none) else (bulkheadlaw01_NumLeast.l1 kj21 l0 a2 a3 a4 a5 t104 t105 ((Int.tmod a2 (rd l0 x18_4)) == 0) (wrap64 (x18_4 + 1)))) else (none)) else (none)) else (bulkheadlaw01_NumLeast.l1 kj21 l0 a2 a3 a4 a5 t104 t105 false (wrap64 (x18_4 + 1)))) = some r := by rw [if_neg (show ¬ (false = true) by decide)] at H; exact H
                                  clear H
                                  have H := H1
                                  clear H1
                                  by_cases c27 : x17_4 = true
                                  · subst c27
                                    have H1 : (if 0 ≤ x18_4 then (if x18_4 < (l0.length : Int) then (if (rd l0 x18_4) = 0 then (none) else (bulkheadlaw01_NumLeast.l1 kj21 l0 a2 a3 a4 a5 t104 t105 ((Int.tmod a2 (rd l0 x18_4)) == 0) (wrap64 (x18_4 + 1)))) else (none)) else (none)) = some r := by rw [if_pos rfl] at H; exact H
                                    clear H
                                    have H := H1
                                    clear H1
                                    by_cases c28 : 0 ≤ x18_4
                                    · as_aux_lemma =>
                                      rw [if_pos c28] at H
                                      have c28b0 : decide (0 ≤ x18_4) = true := decide_eq_true c28
                                      clear c28
                                      by_cases c29 : x18_4 < (l0.length : Int)
                                      · as_aux_lemma =>
                                        rw [if_pos c29] at H
                                        have c29b0 : decide (x18_4 < (l0.length : Int)) = true := decide_eq_true c29
                                        clear c29
                                        by_cases c30 : (rd l0 x18_4) = 0
                                        · as_aux_lemma =>
                                          rw [if_pos c30] at H
                                          exact absurd H (by simp)
                                        · as_aux_lemma =>
                                          rw [if_neg c30] at H
                                          have c30b0 : ((rd l0 x18_4) == 0) = false := beq_eq_false_iff_ne.mpr c30
                                          have c30b1 : ((rd l0 x18_4) != 0) = true := bne_iff_ne.mpr c30
                                          have H' := Aside0.mk H
                                          clear H
                                          have p108 : 0 ≤ (x18_4 : Int) := of_decide_eq_true (by first | (with_reducible assumption) | assumption)
                                          have q108 : x18_4 < (l0.length : Int) := of_decide_eq_true (by first | (with_reducible assumption) | assumption)
                                          obtain ⟨ad108, e108, hx108_0⟩ := Kd.at_int HR0.out x18_4 p108 q108
                                          cases e108
                                          replace hx108_0 := (HB.out.cell (World.block_lt_of_cell? w _ hx108_0)).trans hx108_0
                                          replace p108 := eq_true p108
                                          replace q108 := eq_true q108
                                          go_wp2
                                          go_roundg kj21
                                          case measure => have := HK1.out; have := HJ13.out; have := HJ18.out; have := HK4.out; have := HJ21.out; omega
                                          case rel => exact ⟨(((Int.tmod a2 (rd l0 x18_4)) == 0)), (wrap64 (x18_4 + 1)), (by first | rfl | (simp; done) | (simp [*]; done)), (by first | rfl | (simp; done) | (simp [*]; done)), H', ⟨by have := HK1.out; have := HJ13.out; have := HJ18.out; have := HK4.out; have := HJ21.out; omega⟩, ⟨by repeat (first | (with_reducible first | exact HB.out | apply below_alloc | apply pw_below_drewN | apply below_drew1) | exact HB.out)⟩⟩
                                      · as_aux_lemma =>
                                        rw [if_neg c29] at H
                                        exact absurd H (by simp)
                                    · as_aux_lemma =>
                                      rw [if_neg c28] at H
                                      exact absurd H (by simp)
                                  · replace c27 := Bool.eq_false_iff.mpr c27
                                    subst c27
                                    have H1 : (bulkheadlaw01_NumLeast.l1 kj21 l0 a2 a3 a4 a5 t104 t105 false (wrap64 (x18_4 + 1))) = some r := by rw [if_neg (show ¬ (false = true) by decide)] at H; exact H
                                    clear H
                                    have H := H1
                                    clear H1
                                    have H' := Aside0.mk H
                                    clear H
                                    go_wp2
                                    go_roundg kj21
                                    case measure => have := HK1.out; have := HJ13.out; have := HJ18.out; have := HK4.out; have := HJ21.out; omega
                                    case rel => exact ⟨(false), (wrap64 (x18_4 + 1)), (by first | rfl | (simp; done) | (simp [*]; done)), (by first | rfl | (simp; done) | (simp [*]; done)), H', ⟨by have := HK1.out; have := HJ13.out; have := HJ18.out; have := HK4.out; have := HJ21.out; omega⟩, ⟨by repeat (first | (with_reducible first | exact HB.out | apply below_alloc | apply pw_below_drewN | apply below_drew1) | exact HB.out)⟩⟩
                          · as_aux_lemma =>
                            rw [if_neg c21] at H
                            have c21b0 : decide (x18_4 < (l0.length : Int)) = false := decide_eq_false c21
                            clear c21
                            have HC31 := Aside0.mk H
                            clear H
                            go_upto_region 20 with (fail)
                            go_cut [112] (fun v112 wc => ∃ (kq : Nat) (x112_30 : Bool), v112 = .bool x112_30 ∧ Aside0 (bulkheadlaw01_NumLeast.j5 kq a3 a4 a5 x112_30 = some r) ∧ Aside0 (kq ≤ k4) ∧ Aside0 (Below w.heap.size w wc))
                            case first =>
                              have H := HC31.out
                              clear HC31
                              by_cases c32 : x17_4 = true
                              · subst c32
                                have H1 : (if t105 = true then (if t104 = 0 then (none) else (bulkheadlaw01_NumLeast.j5 k4 a3 a4 a5 ((Int.tmod a2 t104) != 0))) else (bulkheadlaw01_NumLeast.j5 k4 a3 a4 a5 true)) = some r := by rw [if_pos rfl] at H; exact H
                                clear H
                                have H := H1
                                clear H1
                                by_cases c33 : t105 = true
                                · subst c33
                                  have H1 : (if t104 = 0 then (none) else (bulkheadlaw01_NumLeast.j5 k4 a3 a4 a5 ((Int.tmod a2 t104) != 0))) = some r := by rw [if_pos rfl] at H; exact H
                                  clear H
                                  have H := H1
                                  clear H1
                                  by_cases c34 : t104 = 0
                                  · as_aux_lemma =>
                                    rw [if_pos c34] at H
                                    exact absurd H (by simp)
                                  · as_aux_lemma =>
                                    rw [if_neg c34] at H
                                    have c34b0 : (t104 == 0) = false := beq_eq_false_iff_ne.mpr c34
                                    have c34b1 : (t104 != 0) = true := bne_iff_ne.mpr c34
                                    (first | rw [c34b0] | (simp only [i64_w, i32_w]; rw [c34b0]) | skip)
                                    have H' := Aside0.mk H
                                    clear H
                                    go_wp2
                                    go_meet
                                    case rel => exact ⟨_, (((Int.tmod a2 t104) != 0)), (by first | rfl | (simp; done) | (simp [*]; done)), H', ⟨by have := HK1.out; have := HJ13.out; have := HJ18.out; have := HK4.out; first | omega | exact Nat.le_refl _⟩, ⟨by repeat (first | (with_reducible first | exact HB.out | apply below_alloc | apply pw_below_drewN | apply below_drew1) | exact HB.out)⟩⟩
                                · replace c33 := Bool.eq_false_iff.mpr c33
                                  subst c33
                                  have H1 : (bulkheadlaw01_NumLeast.j5 k4 a3 a4 a5 true) = some r := by rw [if_neg (show ¬ (false = true) by decide)] at H; exact H
                                  clear H
                                  have H := H1
                                  clear H1
                                  have H' := Aside0.mk H
                                  clear H
                                  go_wp2
                                  go_meet
                                  case rel => exact ⟨_, (true), (by first | rfl | (simp; done) | (simp [*]; done)), H', ⟨by have := HK1.out; have := HJ13.out; have := HJ18.out; have := HK4.out; first | omega | exact Nat.le_refl _⟩, ⟨by repeat (first | (with_reducible first | exact HB.out | apply below_alloc | apply pw_below_drewN | apply below_drew1) | exact HB.out)⟩⟩
                              · replace c32 := Bool.eq_false_iff.mpr c32
                                subst c32
                                have H1 : (bulkheadlaw01_NumLeast.j5 k4 a3 a4 a5 false) = some r := by rw [if_neg (show ¬ (false = true) by decide)] at H; exact H
                                clear H
                                have H := H1
                                clear H1
                                have H' := Aside0.mk H
                                clear H
                                go_wp2
                                go_meet
                                case rel => exact ⟨_, (false), (by first | rfl | (simp; done) | (simp [*]; done)), H', ⟨by have := HK1.out; have := HJ13.out; have := HJ18.out; have := HK4.out; first | omega | exact Nat.le_refl _⟩, ⟨by repeat (first | (with_reducible first | exact HB.out | apply below_alloc | apply pw_below_drewN | apply below_drew1) | exact HB.out)⟩⟩
                            case rest =>
                              clear HC31
                              try clear c1
                              try clear p1
                              try clear q1
                              try clear hx1
                              try clear c2
                              try clear p2
                              try clear c3
                              try clear c5
                              try clear p6
                              try clear c7
                              try clear c7b0
                              try clear c7b1
                              try clear c10
                              try clear c10b0
                              try clear p10
                              try clear q10
                              try clear hx10
                              try clear c11
                              try clear c12
                              try clear c12b0
                              try clear c13
                              try clear c15
                              try clear c16
                              try clear c16b0
                              try clear c17
                              try clear c17b0
                              try clear c18
                              try clear c20
                              try clear c20b0
                              try clear c21
                              try clear c21b0
                              try clear c23
                              try clear c24
                              try clear c24b0
                              try clear c25
                              try clear c25b0
                              try clear c25b1
                              try clear c26
                              try clear c27
                              try clear c28
                              try clear c28b0
                              try clear c29
                              try clear c29b0
                              try clear c30
                              try clear c30b0
                              try clear c30b1
                              try clear c32
                              try clear c33
                              try clear c34
                              try clear c34b0
                              try clear c34b1
                              try clear hx106_0
                              try clear hx107_0
                              try clear hx108_0
                              try clear p1
                              try clear p10
                              try clear p106
                              try clear p107
                              try clear p108
                              try clear p2
                              try clear p6
                              try clear q1
                              try clear q10
                              try clear q106
                              try clear q107
                              try clear q108
                              obtain ⟨kq, x112_30, rfl, HA, HJ30, HB⟩ := hcut
                              cases kq with
                              | zero => exact absurd HA.out (by simp [bulkheadlaw01_NumLeast.j5])
                              | succ kj30 =>
                                have H := HA.out
                                clear HA
                                simp only [bulkheadlaw01_NumLeast.j5] at H
                                by_cases c35 : x112_30 = true
                                · subst c35
                                  have H1 : (some false) = some r := by rw [if_pos rfl] at H; exact H
                                  clear H
                                  have H := H1
                                  clear H1
                                  obtain rfl := Option.some.inj H
                                  go_wp2
                                  go_ret
                                  exact ⟨by first | rfl | (simp [errW_none, errW_some] <;> rfl) | (simp [*, errW_none, errW_some] <;> rfl), by repeat (first | (with_reducible first | exact HB.out | apply below_alloc | apply pw_below_drewN | apply below_drew1) | exact HB.out)⟩
                                · replace c35 := Bool.eq_false_iff.mpr c35
                                  subst c35
                                  have H1 : ((num_Gcd_int64.f kj30 a3 a4).bind fun t109 => (if t109 = 0 then (bulkheadlaw01_NumLeast.j6 kj30 a3 a4 a5 t109 false) else (if (Int.tmod a3 t109) = 0 then (if (Int.tmod a4 t109) = 0 then (bulkheadlaw01_NumLeast.j6 kj30 a3 a4 a5 t109 (decide (t109 < 0))) else (bulkheadlaw01_NumLeast.j6 kj30 a3 a4 a5 t109 true)) else (bulkheadlaw01_NumLeast.j6 kj30 a3 a4 a5 t109 true)))) = some r := by rw [if_neg (show ¬ (false = true) by decide)] at H; exact H
                                  clear H
                                  have H := H1
                                  clear H1
                                  replace H := Option.bind_eq_some_iff.mp H
                                  obtain ⟨t109, A360, H⟩ := H
                                  replace H : (if t109 = 0 then (bulkheadlaw01_NumLeast.j6 kj30 a3 a4 a5 t109 false) else (if (Int.tmod a3 t109) = 0 then (if (Int.tmod a4 t109) = 0 then (bulkheadlaw01_NumLeast.j6 kj30 a3 a4 a5 t109 (decide (t109 < 0))) else (bulkheadlaw01_NumLeast.j6 kj30 a3 a4 a5 t109 true)) else (bulkheadlaw01_NumLeast.j6 kj30 a3 a4 a5 t109 true))) = some r := H
                                  have A36 := Aside0.mk A360
                                  clear A360
                                  have HC37 := Aside0.mk H
                                  clear H
                                  go_upto_region 23 with (first | ((with_reducible refine gate_callee (f := 19) rfl ?_); refine goesL_ (some 115) rfl rfl Try.func19 (by kernel_rfl) rfl #[.int .i64 a3, .int .i64 a4] rfl (by (try simp only [List.map_toArray, List.map_cons, List.map_nil]); first | done | rfl | (simp only [List.length_drop, List.length_take]; rfl)) ?_; (with_reducible refine (num_Gcd_int64.calls kj30 a3 a4 t109 _ A36.out).mono ?_); rintro e w38 ⟨rfl, hb⟩; refine ⟨_, rfl, ?_⟩; have n0_ := Aside0.mk (below_step (by repeat (first | (with_reducible first | exact HB.out | apply below_alloc | apply pw_below_drewN | apply below_drew1) | exact HB.out)) hb); clear HB; have HB := n0_; clear n0_; (try clear hb); (try clear hb2); (try clear hk); (try clear hi)))
                                  (try simp only [Act.put, List.setIfInBounds_toArray, List.set_cons_zero, List.set_cons_succ])
                                  go_cut [133] (fun v133 wc => ∃ (kq : Nat) (x133_36 : Bool), v133 = .bool x133_36 ∧ Aside0 (bulkheadlaw01_NumLeast.j6 kq a3 a4 a5 t109 x133_36 = some r) ∧ Aside0 (kq ≤ kj30) ∧ Aside0 (Below w.heap.size w wc))
                                  case first =>
                                    have H := HC37.out
                                    clear HC37
                                    by_cases c39 : t109 = 0
                                    · as_aux_lemma =>
                                      rw [if_pos c39] at H
                                      have c39b0 : (t109 == 0) = true := beq_iff_eq.mpr c39
                                      have c39b1 : (t109 != 0) = false := bne_eq_false_iff_eq.mpr c39
                                      clear c39
                                      (first | rw [c39b0] | (simp only [i64_w, i32_w]; rw [c39b0]) | skip)
                                      have H' := Aside0.mk H
                                      clear H
                                      go_wp2
                                      go_meet
                                      case rel => exact ⟨_, (false), (by first | rfl | (simp; done) | (simp [*]; done)), H', ⟨by have := HK1.out; have := HJ13.out; have := HJ18.out; have := HK4.out; have := HJ30.out; first | omega | exact Nat.le_refl _⟩, ⟨by repeat (first | (with_reducible first | exact HB.out | apply below_alloc | apply pw_below_drewN | apply below_drew1) | exact HB.out)⟩⟩
                                    · as_aux_lemma =>
                                      rw [if_neg c39] at H
                                      have c39b0 : (t109 == 0) = false := beq_eq_false_iff_ne.mpr c39
                                      have c39b1 : (t109 != 0) = true := bne_iff_ne.mpr c39
                                      (first | rw [c39b0] | (simp only [i64_w, i32_w]; rw [c39b0]) | skip)
                                      by_cases c40 : (Int.tmod a3 t109) = 0
                                      · as_aux_lemma =>
                                        rw [if_pos c40] at H
                                        have c40b0 : ((Int.tmod a3 t109) == 0) = true := beq_iff_eq.mpr c40
                                        have c40b1 : ((Int.tmod a3 t109) != 0) = false := bne_eq_false_iff_eq.mpr c40
                                        clear c40
                                        by_cases c41 : (Int.tmod a4 t109) = 0
                                        · as_aux_lemma =>
                                          rw [if_pos c41] at H
                                          have c41b0 : ((Int.tmod a4 t109) == 0) = true := beq_iff_eq.mpr c41
                                          have c41b1 : ((Int.tmod a4 t109) != 0) = false := bne_eq_false_iff_eq.mpr c41
                                          clear c41
                                          have H' := Aside0.mk H
                                          clear H
                                          go_wp2
                                          go_meet
                                          case rel => exact ⟨_, (decide (t109 < 0)), (by first | rfl | (simp; done) | (simp [*]; done)), H', ⟨by have := HK1.out; have := HJ13.out; have := HJ18.out; have := HK4.out; have := HJ30.out; first | omega | exact Nat.le_refl _⟩, ⟨by repeat (first | (with_reducible first | exact HB.out | apply below_alloc | apply pw_below_drewN | apply below_drew1) | exact HB.out)⟩⟩
                                        · as_aux_lemma =>
                                          rw [if_neg c41] at H
                                          have c41b0 : ((Int.tmod a4 t109) == 0) = false := beq_eq_false_iff_ne.mpr c41
                                          have c41b1 : ((Int.tmod a4 t109) != 0) = true := bne_iff_ne.mpr c41
                                          have H' := Aside0.mk H
                                          clear H
                                          go_wp2
                                          go_meet
                                          case rel => exact ⟨_, (true), (by first | rfl | (simp; done) | (simp [*]; done)), H', ⟨by have := HK1.out; have := HJ13.out; have := HJ18.out; have := HK4.out; have := HJ30.out; first | omega | exact Nat.le_refl _⟩, ⟨by repeat (first | (with_reducible first | exact HB.out | apply below_alloc | apply pw_below_drewN | apply below_drew1) | exact HB.out)⟩⟩
                                      · as_aux_lemma =>
                                        rw [if_neg c40] at H
                                        have c40b0 : ((Int.tmod a3 t109) == 0) = false := beq_eq_false_iff_ne.mpr c40
                                        have c40b1 : ((Int.tmod a3 t109) != 0) = true := bne_iff_ne.mpr c40
                                        have H' := Aside0.mk H
                                        clear H
                                        go_wp2
                                        go_meet
                                        case rel => exact ⟨_, (true), (by first | rfl | (simp; done) | (simp [*]; done)), H', ⟨by have := HK1.out; have := HJ13.out; have := HJ18.out; have := HK4.out; have := HJ30.out; first | omega | exact Nat.le_refl _⟩, ⟨by repeat (first | (with_reducible first | exact HB.out | apply below_alloc | apply pw_below_drewN | apply below_drew1) | exact HB.out)⟩⟩
                                  case rest =>
                                    clear HC37
                                    try clear c1
                                    try clear p1
                                    try clear q1
                                    try clear hx1
                                    try clear c2
                                    try clear p2
                                    try clear c3
                                    try clear c4
                                    try clear c5
                                    try clear p6
                                    try clear c7
                                    try clear c7b0
                                    try clear c7b1
                                    try clear c10
                                    try clear c10b0
                                    try clear p10
                                    try clear q10
                                    try clear hx10
                                    try clear c11
                                    try clear c12
                                    try clear c12b0
                                    try clear c13
                                    try clear c15
                                    try clear c16
                                    try clear c16b0
                                    try clear c17
                                    try clear c17b0
                                    try clear c18
                                    try clear c19
                                    try clear c20
                                    try clear c20b0
                                    try clear c21
                                    try clear c21b0
                                    try clear c23
                                    try clear c24
                                    try clear c24b0
                                    try clear c25
                                    try clear c25b0
                                    try clear c25b1
                                    try clear c26
                                    try clear c27
                                    try clear c28
                                    try clear c28b0
                                    try clear c29
                                    try clear c29b0
                                    try clear c30
                                    try clear c30b0
                                    try clear c30b1
                                    try clear c32
                                    try clear c33
                                    try clear c34
                                    try clear c34b0
                                    try clear c34b1
                                    try clear c35
                                    try clear c39
                                    try clear c39b0
                                    try clear c39b1
                                    try clear c40
                                    try clear c40b0
                                    try clear c40b1
                                    try clear c41
                                    try clear c41b0
                                    try clear c41b1
                                    try clear hx106_0
                                    try clear hx107_0
                                    try clear hx108_0
                                    try clear p1
                                    try clear p10
                                    try clear p106
                                    try clear p107
                                    try clear p108
                                    try clear p2
                                    try clear p6
                                    try clear q1
                                    try clear q10
                                    try clear q106
                                    try clear q107
                                    try clear q108
                                    obtain ⟨kq, x133_36, rfl, HA, HJ36, HB⟩ := hcut
                                    cases kq with
                                    | zero => exact absurd HA.out (by simp [bulkheadlaw01_NumLeast.j6])
                                    | succ kj36 =>
                                      have H := HA.out
                                      clear HA
                                      simp only [bulkheadlaw01_NumLeast.j6] at H
                                      by_cases c42 : x133_36 = true
                                      · subst c42
                                        have H1 : (some false) = some r := by rw [if_pos rfl] at H; exact H
                                        clear H
                                        have H := H1
                                        clear H1
                                        obtain rfl := Option.some.inj H
                                        go_wp2
                                        go_ret
                                        exact ⟨by first | rfl | (simp [errW_none, errW_some] <;> rfl) | (simp [*, errW_none, errW_some] <;> rfl), by repeat (first | (with_reducible first | exact HB.out | apply below_alloc | apply pw_below_drewN | apply below_drew1) | exact HB.out)⟩
                                      · replace c42 := Bool.eq_false_iff.mpr c42
                                        subst c42
                                        have H1 : (if a5 = 0 then (bulkheadlaw01_NumLeast.j7 kj36 a3 a4 t109 false) else (if (Int.tmod a3 a5) = 0 then (if (Int.tmod a4 a5) = 0 then (if t109 = 0 then (bulkheadlaw01_NumLeast.j7 kj36 a3 a4 t109 false) else (bulkheadlaw01_NumLeast.j7 kj36 a3 a4 t109 ((Int.tmod t109 a5) != 0))) else (bulkheadlaw01_NumLeast.j7 kj36 a3 a4 t109 false)) else (bulkheadlaw01_NumLeast.j7 kj36 a3 a4 t109 false))) = some r := by rw [if_neg (show ¬ (false = true) by decide)] at H; exact H
                                        clear H
                                        have H := H1
                                        clear H1
                                        have HC43 := Aside0.mk H
                                        clear H
                                        go_upto_region 25 with (fail)
                                        go_cut [157] (fun v157 wc => ∃ (kq : Nat) (x157_42 : Bool), v157 = .bool x157_42 ∧ Aside0 (bulkheadlaw01_NumLeast.j7 kq a3 a4 t109 x157_42 = some r) ∧ Aside0 (kq ≤ kj36) ∧ Aside0 (Below w.heap.size w wc))
                                        case first =>
                                          have H := HC43.out
                                          clear HC43
                                          by_cases c44 : a5 = 0
                                          · as_aux_lemma =>
                                            rw [if_pos c44] at H
                                            have c44b0 : (a5 == 0) = true := beq_iff_eq.mpr c44
                                            have c44b1 : (a5 != 0) = false := bne_eq_false_iff_eq.mpr c44
                                            clear c44
                                            (first | rw [c44b0] | (simp only [i64_w, i32_w]; rw [c44b0]) | skip)
                                            have H' := Aside0.mk H
                                            clear H
                                            go_wp2
                                            go_meet
                                            case rel => exact ⟨_, (false), (by first | rfl | (simp; done) | (simp [*]; done)), H', ⟨by have := HK1.out; have := HJ13.out; have := HJ18.out; have := HK4.out; have := HJ30.out; have := HJ36.out; first | omega | exact Nat.le_refl _⟩, ⟨by repeat (first | (with_reducible first | exact HB.out | apply below_alloc | apply pw_below_drewN | apply below_drew1) | exact HB.out)⟩⟩
                                          · as_aux_lemma =>
                                            rw [if_neg c44] at H
                                            have c44b0 : (a5 == 0) = false := beq_eq_false_iff_ne.mpr c44
                                            have c44b1 : (a5 != 0) = true := bne_iff_ne.mpr c44
                                            (first | rw [c44b0] | (simp only [i64_w, i32_w]; rw [c44b0]) | skip)
                                            by_cases c45 : (Int.tmod a3 a5) = 0
                                            · as_aux_lemma =>
                                              rw [if_pos c45] at H
                                              have c45b0 : ((Int.tmod a3 a5) == 0) = true := beq_iff_eq.mpr c45
                                              have c45b1 : ((Int.tmod a3 a5) != 0) = false := bne_eq_false_iff_eq.mpr c45
                                              clear c45
                                              by_cases c46 : (Int.tmod a4 a5) = 0
                                              · as_aux_lemma =>
                                                rw [if_pos c46] at H
                                                have c46b0 : ((Int.tmod a4 a5) == 0) = true := beq_iff_eq.mpr c46
                                                have c46b1 : ((Int.tmod a4 a5) != 0) = false := bne_eq_false_iff_eq.mpr c46
                                                clear c46
                                                by_cases c47 : t109 = 0
                                                · as_aux_lemma =>
                                                  rw [if_pos c47] at H
                                                  have c47b0 : (t109 == 0) = true := beq_iff_eq.mpr c47
                                                  have c47b1 : (t109 != 0) = false := bne_eq_false_iff_eq.mpr c47
                                                  clear c47
                                                  have H' := Aside0.mk H
                                                  clear H
                                                  go_wp2
                                                  go_meet
                                                  case rel => exact ⟨_, (false), (by first | rfl | (simp; done) | (simp [*]; done)), H', ⟨by have := HK1.out; have := HJ13.out; have := HJ18.out; have := HK4.out; have := HJ30.out; have := HJ36.out; first | omega | exact Nat.le_refl _⟩, ⟨by repeat (first | (with_reducible first | exact HB.out | apply below_alloc | apply pw_below_drewN | apply below_drew1) | exact HB.out)⟩⟩
                                                · as_aux_lemma =>
                                                  rw [if_neg c47] at H
                                                  have c47b0 : (t109 == 0) = false := beq_eq_false_iff_ne.mpr c47
                                                  have c47b1 : (t109 != 0) = true := bne_iff_ne.mpr c47
                                                  have H' := Aside0.mk H
                                                  clear H
                                                  go_wp2
                                                  go_meet
                                                  case rel => exact ⟨_, (((Int.tmod t109 a5) != 0)), (by first | rfl | (simp; done) | (simp [*]; done)), H', ⟨by have := HK1.out; have := HJ13.out; have := HJ18.out; have := HK4.out; have := HJ30.out; have := HJ36.out; first | omega | exact Nat.le_refl _⟩, ⟨by repeat (first | (with_reducible first | exact HB.out | apply below_alloc | apply pw_below_drewN | apply below_drew1) | exact HB.out)⟩⟩
                                              · as_aux_lemma =>
                                                rw [if_neg c46] at H
                                                have c46b0 : ((Int.tmod a4 a5) == 0) = false := beq_eq_false_iff_ne.mpr c46
                                                have c46b1 : ((Int.tmod a4 a5) != 0) = true := bne_iff_ne.mpr c46
                                                have H' := Aside0.mk H
                                                clear H
                                                go_wp2
                                                go_meet
                                                case rel => exact ⟨_, (false), (by first | rfl | (simp; done) | (simp [*]; done)), H', ⟨by have := HK1.out; have := HJ13.out; have := HJ18.out; have := HK4.out; have := HJ30.out; have := HJ36.out; first | omega | exact Nat.le_refl _⟩, ⟨by repeat (first | (with_reducible first | exact HB.out | apply below_alloc | apply pw_below_drewN | apply below_drew1) | exact HB.out)⟩⟩
                                            · as_aux_lemma =>
                                              rw [if_neg c45] at H
                                              have c45b0 : ((Int.tmod a3 a5) == 0) = false := beq_eq_false_iff_ne.mpr c45
                                              have c45b1 : ((Int.tmod a3 a5) != 0) = true := bne_iff_ne.mpr c45
                                              have H' := Aside0.mk H
                                              clear H
                                              go_wp2
                                              go_meet
                                              case rel => exact ⟨_, (false), (by first | rfl | (simp; done) | (simp [*]; done)), H', ⟨by have := HK1.out; have := HJ13.out; have := HJ18.out; have := HK4.out; have := HJ30.out; have := HJ36.out; first | omega | exact Nat.le_refl _⟩, ⟨by repeat (first | (with_reducible first | exact HB.out | apply below_alloc | apply pw_below_drewN | apply below_drew1) | exact HB.out)⟩⟩
                                        case rest =>
                                          clear HC43
                                          try clear c1
                                          try clear p1
                                          try clear q1
                                          try clear hx1
                                          try clear c2
                                          try clear p2
                                          try clear c3
                                          try clear c4
                                          try clear c5
                                          try clear p6
                                          try clear c7
                                          try clear c7b0
                                          try clear c7b1
                                          try clear c10
                                          try clear c10b0
                                          try clear p10
                                          try clear q10
                                          try clear hx10
                                          try clear c11
                                          try clear c12
                                          try clear c12b0
                                          try clear c13
                                          try clear c15
                                          try clear c16
                                          try clear c16b0
                                          try clear c17
                                          try clear c17b0
                                          try clear c18
                                          try clear c19
                                          try clear c20
                                          try clear c20b0
                                          try clear c21
                                          try clear c21b0
                                          try clear c23
                                          try clear c24
                                          try clear c24b0
                                          try clear c25
                                          try clear c25b0
                                          try clear c25b1
                                          try clear c26
                                          try clear c27
                                          try clear c28
                                          try clear c28b0
                                          try clear c29
                                          try clear c29b0
                                          try clear c30
                                          try clear c30b0
                                          try clear c30b1
                                          try clear c32
                                          try clear c33
                                          try clear c34
                                          try clear c34b0
                                          try clear c34b1
                                          try clear c35
                                          try clear c39
                                          try clear c39b0
                                          try clear c39b1
                                          try clear c40
                                          try clear c40b0
                                          try clear c40b1
                                          try clear c41
                                          try clear c41b0
                                          try clear c41b1
                                          try clear c42
                                          try clear c44
                                          try clear c44b0
                                          try clear c44b1
                                          try clear c45
                                          try clear c45b0
                                          try clear c45b1
                                          try clear c46
                                          try clear c46b0
                                          try clear c46b1
                                          try clear c47
                                          try clear c47b0
                                          try clear c47b1
                                          try clear hx106_0
                                          try clear hx107_0
                                          try clear hx108_0
                                          try clear p1
                                          try clear p10
                                          try clear p106
                                          try clear p107
                                          try clear p108
                                          try clear p2
                                          try clear p6
                                          try clear q1
                                          try clear q10
                                          try clear q106
                                          try clear q107
                                          try clear q108
                                          obtain ⟨kq, x157_42, rfl, HA, HJ42, HB⟩ := hcut
                                          cases kq with
                                          | zero => exact absurd HA.out (by simp [bulkheadlaw01_NumLeast.j7])
                                          | succ kj42 =>
                                            have H := HA.out
                                            clear HA
                                            simp only [bulkheadlaw01_NumLeast.j7] at H
                                            by_cases c48 : x157_42 = true
                                            · subst c48
                                              have H1 : (some false) = some r := by rw [if_pos rfl] at H; exact H
                                              clear H
                                              have H := H1
                                              clear H1
                                              obtain rfl := Option.some.inj H
                                              go_wp2
                                              go_ret
                                              exact ⟨by first | rfl | (simp [errW_none, errW_some] <;> rfl) | (simp [*, errW_none, errW_some] <;> rfl), by repeat (first | (with_reducible first | exact HB.out | apply below_alloc | apply pw_below_drewN | apply below_drew1) | exact HB.out)⟩
                                            · replace c48 := Bool.eq_false_iff.mpr c48
                                              subst c48
                                              have H1 : (if t109 = 0 then (if a3 = 0 then (if a4 = 0 then (some true) else (some (a4 == (-9223372036854775808)))) else (if a3 = (-9223372036854775808) then (if a4 = 0 then (some true) else (some (a4 == (-9223372036854775808)))) else (some false))) else (some true)) = some r := by rw [if_neg (show ¬ (false = true) by decide)] at H; exact H
                                              clear H
                                              have H := H1
                                              clear H1
                                              by_cases c49 : t109 = 0
                                              · as_aux_lemma =>
                                                rw [if_pos c49] at H
                                                have c49b0 : (t109 == 0) = true := beq_iff_eq.mpr c49
                                                have c49b1 : (t109 != 0) = false := bne_eq_false_iff_eq.mpr c49
                                                clear c49
                                                by_cases c50 : a3 = 0
                                                · as_aux_lemma =>
                                                  rw [if_pos c50] at H
                                                  have c50b0 : (a3 == 0) = true := beq_iff_eq.mpr c50
                                                  have c50b1 : (a3 != 0) = false := bne_eq_false_iff_eq.mpr c50
                                                  clear c50
                                                  by_cases c51 : a4 = 0
                                                  · as_aux_lemma =>
                                                    rw [if_pos c51] at H
                                                    have c51b0 : (a4 == 0) = true := beq_iff_eq.mpr c51
                                                    have c51b1 : (a4 != 0) = false := bne_eq_false_iff_eq.mpr c51
                                                    clear c51
                                                    obtain rfl := Option.some.inj H
                                                    go_wp2
                                                    go_ret
                                                    exact ⟨by first | rfl | (simp [errW_none, errW_some] <;> rfl) | (simp [*, errW_none, errW_some] <;> rfl), by repeat (first | (with_reducible first | exact HB.out | apply below_alloc | apply pw_below_drewN | apply below_drew1) | exact HB.out)⟩
                                                  · as_aux_lemma =>
                                                    rw [if_neg c51] at H
                                                    have c51b0 : (a4 == 0) = false := beq_eq_false_iff_ne.mpr c51
                                                    have c51b1 : (a4 != 0) = true := bne_iff_ne.mpr c51
                                                    obtain rfl := Option.some.inj H
                                                    go_wp2
                                                    go_ret
                                                    exact ⟨by first | rfl | (simp [errW_none, errW_some] <;> rfl) | (simp [*, errW_none, errW_some] <;> rfl), by repeat (first | (with_reducible first | exact HB.out | apply below_alloc | apply pw_below_drewN | apply below_drew1) | exact HB.out)⟩
                                                · as_aux_lemma =>
                                                  rw [if_neg c50] at H
                                                  have c50b0 : (a3 == 0) = false := beq_eq_false_iff_ne.mpr c50
                                                  have c50b1 : (a3 != 0) = true := bne_iff_ne.mpr c50
                                                  by_cases c52 : a3 = (-9223372036854775808)
                                                  · as_aux_lemma =>
                                                    rw [if_pos c52] at H
                                                    have c52b0 : (a3 == (-9223372036854775808)) = true := beq_iff_eq.mpr c52
                                                    have c52b1 : (a3 != (-9223372036854775808)) = false := bne_eq_false_iff_eq.mpr c52
                                                    clear c52
                                                    by_cases c53 : a4 = 0
                                                    · as_aux_lemma =>
                                                      rw [if_pos c53] at H
                                                      have c53b0 : (a4 == 0) = true := beq_iff_eq.mpr c53
                                                      have c53b1 : (a4 != 0) = false := bne_eq_false_iff_eq.mpr c53
                                                      clear c53
                                                      obtain rfl := Option.some.inj H
                                                      go_wp2
                                                      go_ret
                                                      exact ⟨by first | rfl | (simp [errW_none, errW_some] <;> rfl) | (simp [*, errW_none, errW_some] <;> rfl), by repeat (first | (with_reducible first | exact HB.out | apply below_alloc | apply pw_below_drewN | apply below_drew1) | exact HB.out)⟩
                                                    · as_aux_lemma =>
                                                      rw [if_neg c53] at H
                                                      have c53b0 : (a4 == 0) = false := beq_eq_false_iff_ne.mpr c53
                                                      have c53b1 : (a4 != 0) = true := bne_iff_ne.mpr c53
                                                      obtain rfl := Option.some.inj H
                                                      go_wp2
                                                      go_ret
                                                      exact ⟨by first | rfl | (simp [errW_none, errW_some] <;> rfl) | (simp [*, errW_none, errW_some] <;> rfl), by repeat (first | (with_reducible first | exact HB.out | apply below_alloc | apply pw_below_drewN | apply below_drew1) | exact HB.out)⟩
                                                  · as_aux_lemma =>
                                                    rw [if_neg c52] at H
                                                    have c52b0 : (a3 == (-9223372036854775808)) = false := beq_eq_false_iff_ne.mpr c52
                                                    have c52b1 : (a3 != (-9223372036854775808)) = true := bne_iff_ne.mpr c52
                                                    obtain rfl := Option.some.inj H
                                                    go_wp2
                                                    go_ret
                                                    exact ⟨by first | rfl | (simp [errW_none, errW_some] <;> rfl) | (simp [*, errW_none, errW_some] <;> rfl), by repeat (first | (with_reducible first | exact HB.out | apply below_alloc | apply pw_below_drewN | apply below_drew1) | exact HB.out)⟩
                                              · as_aux_lemma =>
                                                rw [if_neg c49] at H
                                                have c49b0 : (t109 == 0) = false := beq_eq_false_iff_ne.mpr c49
                                                have c49b1 : (t109 != 0) = true := bne_iff_ne.mpr c49
                                                obtain rfl := Option.some.inj H
                                                go_wp2
                                                go_ret
                                                exact ⟨by first | rfl | (simp [errW_none, errW_some] <;> rfl) | (simp [*, errW_none, errW_some] <;> rfl), by repeat (first | (with_reducible first | exact HB.out | apply below_alloc | apply pw_below_drewN | apply below_drew1) | exact HB.out)⟩
          · replace c13 := Bool.eq_false_iff.mpr c13
            subst c13
            have H1 : (if t105 = true then (some false) else (some (t104 == 0))) = some r := by rw [if_neg (show ¬ (false = true) by decide)] at H; exact H
            clear H
            have H := H1
            clear H1
            by_cases c54 : t105 = true
            · subst c54
              have H1 : (some false) = some r := by rw [if_pos rfl] at H; exact H
              clear H
              have H := H1
              clear H1
              obtain rfl := Option.some.inj H
              go_wp2
              go_ret
              exact ⟨by first | rfl | (simp [errW_none, errW_some] <;> rfl) | (simp [*, errW_none, errW_some] <;> rfl), by repeat (first | (with_reducible first | exact HB.out | apply below_alloc | apply pw_below_drewN | apply below_drew1) | exact HB.out)⟩
            · replace c54 := Bool.eq_false_iff.mpr c54
              subst c54
              have H1 : (some (t104 == 0)) = some r := by rw [if_neg (show ¬ (false = true) by decide)] at H; exact H
              clear H
              have H := H1
              clear H1
              obtain rfl := Option.some.inj H
              go_wp2
              go_ret
              exact ⟨by first | rfl | (simp [errW_none, errW_some] <;> rfl) | (simp [*, errW_none, errW_some] <;> rfl), by repeat (first | (with_reducible first | exact HB.out | apply below_alloc | apply pw_below_drewN | apply below_drew1) | exact HB.out)⟩

/-- THE ONE PURE STATEMENT of bulkheadlaw01_NumLeast: yours. -/
def bulkheadlaw01_NumLeast.Pure : Prop := ∀ (l0 : List Int) (a1 : Int) (a2 : Int) (a3 : Int) (a4 : Int) (a5 : Int), l0.length ≤ maxLen → l0.length * 8 ≤ 140737488351232 → (∀ x ∈ l0, (Lit.int .i64 x).wf = true) → (Lit.int .i64 a1).wf = true → (Lit.int .i64 a2).wf = true → (Lit.int .i64 a3).wf = true → (Lit.int .i64 a4).wf = true → (Lit.int .i64 a5).wf = true → ∃ k, bulkheadlaw01_NumLeast.f k l0 a1 a2 a3 a4 a5 = some true
theorem bulkheadlaw01_NumLeast.walk (P : bulkheadlaw01_NumLeast.Pure) (a0 : Option Addr) (len0 cap0 : Nat) (z0 : List Int) (a1 : Int) (a2 : Int) (a3 : Int) (a4 : Int) (a5 : Int) (w : World) (w0 : (a0 = none ∧ len0 = 0 ∧ cap0 = 0 ∧ z0 = []) ∨ ∃ x, a0 = some x ∧ len0 ≤ cap0 ∧ cap0 ≤ maxLen ∧ z0.length = cap0 ∧ (∀ i, i < z0.length → w.cell? (x.add i) = some (.int .i64 (z0.getD i 0))) ∧ ∀ n ∈ z0, (Lit.int .i64 n).wf = true) (y0 : len0 * 8 ≤ 140737488351232) (w1 : (Lit.int .i64 a1).wf = true) (w2 : (Lit.int .i64 a2).wf = true) (w3 : (Lit.int .i64 a3).wf = true) (w4 : (Lit.int .i64 a4).wf = true) (w5 : (Lit.int .i64 a5).wf = true) :
    Calls Try.prog 5 #[.slice a0 len0 cap0, .int .i64 a1, .int .i64 a2, .int .i64 a3, .int .i64 a4, .int .i64 a5] w fun e w' => e = .returned (.bool true) ∧ Below w.heap.size w w' := by
  obtain ⟨l0, rfl, hr0, hm0, hw0, hc0⟩ := ReadsInt.ofRowC w0
  obtain ⟨k, h⟩ := P l0 a1 a2 a3 a4 a5 hm0 y0 hw0 w1 w2 w3 w4 w5
  refine (bulkheadlaw01_NumLeast.calls k _ _ l0 a1 a2 a3 a4 a5 true w (Kd.C_of_reads (d := (0 : Int)) (h1 := fun _ => rfl) hr0) hc0 h).mono ?_
  rintro e w' ⟨rfl, hd⟩
  exact ⟨rfl, hd⟩

end Go.Proofs.Ytceeoifbimlkdaa.PNumLeast
