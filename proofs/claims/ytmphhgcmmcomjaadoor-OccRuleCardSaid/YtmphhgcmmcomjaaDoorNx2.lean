/- Lean functions for the Go functions of one law, and proofs that the calls come to them: made by a program of this session (wip/tools/plug.py) over the printer of the kit; no conditions. -/
import Derived.Test.YtmphhgcmmcomjaaDoorNx0
import Derived.Test.YtmphhgcmmcomjaaDoorBx2
import Derived.Test.YtmphhgcmmcomjaaDoorHAt
import Derived.Test.YtmphhgcmmcomjaaDoorHCheck2
import Derived.Test.YtmphhgcmmcomjaaDoorHRests
import Derived.Test.YtmphhgcmmcomjaaDoorLx1
import Derived.Test.YtmphhgcmmcomjaaDoorHCheck2
namespace Go.Proofs.YtmphhgcmmcomjaaDoor.B
open Go.RowKit Go.Proofs.YtmphhgcmmcomjaaDoorW.PrintWords Go.Proofs.YtmphhgcmmcomjaaDoorW.PrintLast Go.Proofs.YtmphhgcmmcomjaaDoorW.PrintMore
attribute [local go_sem] max2_int min2_int max_two min_two max_three min_three max_four min_four   -- for this text's walks alone
set_option linter.unusedVariables false
set_option linter.unusedSimpArgs false

/-! ### bulkheadlaw11_OccRule: function 6 -/
mutual
def bulkheadlaw11_OccRule.j0 : Nat → List (S30) → Int → Bool → Option (Bool)
  | 0, _, _, _ => none
  | k + 1, x0, x1, x32 => if x32 = true then ((bulkheadlaw11_works.f).bind fun t123 => (some t123)) else ((occ_Rests.f x0 0).bind fun bt124 => ((occ_Rests.f x0 x1).bind fun bt128 => ((occ_Rests.f x0 (wrap64 (x1 + 1))).bind fun bt132 => ((occ_At.f x0 x1).bind fun bt136 => (if bt124.2 = 0 then (if bt128.2 = 0 then (if bt132.2 = 0 then (if bt136.2 = 0 then (if (bt124.1.length : Int) = (x0.length : Int) then (if (bt128.1.length : Int) = (x0.length : Int) then (bulkheadlaw11_OccRule.j1 k x0 x1 bt124.1 bt128.1 bt132.1 bt136.1 ((bt132.1.length : Int) != (x0.length : Int))) else (bulkheadlaw11_OccRule.j1 k x0 x1 bt124.1 bt128.1 bt132.1 bt136.1 true)) else (bulkheadlaw11_OccRule.j1 k x0 x1 bt124.1 bt128.1 bt132.1 bt136.1 true)) else (bulkheadlaw11_OccRule.j1 k x0 x1 bt124.1 bt128.1 bt132.1 bt136.1 true)) else (bulkheadlaw11_OccRule.j1 k x0 x1 bt124.1 bt128.1 bt132.1 bt136.1 true)) else (bulkheadlaw11_OccRule.j1 k x0 x1 bt124.1 bt128.1 bt132.1 bt136.1 true)) else (bulkheadlaw11_OccRule.j1 k x0 x1 bt124.1 bt128.1 bt132.1 bt136.1 true))))))
def bulkheadlaw11_OccRule.j1 : Nat → List (S30) → Int → List Int → List Int → List Int → Int → Bool → Option (Bool)
  | 0, _, _, _, _, _, _, _ => none
  | k + 1, x0, x1, x7, x9, x11, x13, x92 => if x92 = true then (some false) else ((bulkheadlaw11_chosen.f k x0 x9).bind fun t138 => (if x13 = t138 then (bulkheadlaw11_OccRule.l0 k x0 x1 x7 x9 x11 x13 0) else (some false)))
def bulkheadlaw11_OccRule.l0 : Nat → List (S30) → Int → List Int → List Int → List Int → Int → Int → Option (Bool)
  | 0, _, _, _, _, _, _, _ => none
  | k + 1, x0, x1, x7, x9, x11, x13, x15 => if x15 < (x0.length : Int) then (if 0 ≤ x15 then (if ((rd_T30 x0 x15).f2) = 0 then (if x15 < (x7.length : Int) then (if (rd x7 x15) = ((rd_T30 x0 x15).f1) then (if ((rd_T30 x0 x15).f2) > 0 then (bulkheadlaw11_OccRule.j3 k x0 x1 x7 x9 x11 x13 x15 ((rd x7 x15) != 0) ((rd_T30 x0 x15).f0) ((rd_T30 x0 x15).f1) ((rd_T30 x0 x15).f2) ((rd_T30 x0 x15).f3)) else (bulkheadlaw11_OccRule.j3 k x0 x1 x7 x9 x11 x13 x15 false ((rd_T30 x0 x15).f0) ((rd_T30 x0 x15).f1) ((rd_T30 x0 x15).f2) ((rd_T30 x0 x15).f3))) else (bulkheadlaw11_OccRule.j3 k x0 x1 x7 x9 x11 x13 x15 true ((rd_T30 x0 x15).f0) ((rd_T30 x0 x15).f1) ((rd_T30 x0 x15).f2) ((rd_T30 x0 x15).f3))) else (none)) else (if ((rd_T30 x0 x15).f2) > 0 then (if x15 < (x7.length : Int) then (bulkheadlaw11_OccRule.j3 k x0 x1 x7 x9 x11 x13 x15 ((rd x7 x15) != 0) ((rd_T30 x0 x15).f0) ((rd_T30 x0 x15).f1) ((rd_T30 x0 x15).f2) ((rd_T30 x0 x15).f3)) else (none)) else (bulkheadlaw11_OccRule.j3 k x0 x1 x7 x9 x11 x13 x15 false ((rd_T30 x0 x15).f0) ((rd_T30 x0 x15).f1) ((rd_T30 x0 x15).f2) ((rd_T30 x0 x15).f3)))) else (none)) else ((bulkheadlaw11_works.f).bind fun t139 => (some t139))
def bulkheadlaw11_OccRule.j3 : Nat → List (S30) → Int → List Int → List Int → List Int → Int → Int → Bool → Int → Int → Int → Int → Option (Bool)
  | 0, _, _, _, _, _, _, _, _, _, _, _, _ => none
  | k + 1, x0, x1, x7, x9, x11, x13, x15, x131, x142000, x142001, x142002, x142003 => if x131 = true then (some false) else (if 0 ≤ x15 then (if x15 < (x9.length : Int) then (if x13 = (wrap64 (x15 + 1)) then (bulkheadlaw11_OccRule.j4 k x0 x1 x7 x9 x11 x13 x15 (wrap64 ((rd x9 x15) - 1)) x142000 x142001 x142002 x142003) else (bulkheadlaw11_OccRule.j4 k x0 x1 x7 x9 x11 x13 x15 (rd x9 x15) x142000 x142001 x142002 x142003)) else (none)) else (none))
def bulkheadlaw11_OccRule.j4 : Nat → List (S30) → Int → List Int → List Int → List Int → Int → Int → Int → Int → Int → Int → Int → Option (Bool)
  | 0, _, _, _, _, _, _, _, _, _, _, _, _ => none
  | k + 1, x0, x1, x7, x9, x11, x13, x15, x17, x142000, x142001, x142002, x142003 => if (wrap64 (x1 + 1)) ≥ x142002 then (if x142000 = 0 then (none) else (bulkheadlaw11_OccRule.j5 k x0 x1 x7 x9 x11 x13 x15 x17 ((Int.tmod (wrap64 ((wrap64 (x1 + 1)) - x142002)) x142000) == 0) x142000 x142001 x142002 x142003)) else (bulkheadlaw11_OccRule.j5 k x0 x1 x7 x9 x11 x13 x15 x17 false x142000 x142001 x142002 x142003)
def bulkheadlaw11_OccRule.j5 : Nat → List (S30) → Int → List Int → List Int → List Int → Int → Int → Int → Bool → Int → Int → Int → Int → Option (Bool)
  | 0, _, _, _, _, _, _, _, _, _, _, _, _, _ => none
  | k + 1, x0, x1, x7, x9, x11, x13, x15, x17, x157, x142000, x142001, x142002, x142003 => if x157 = true then (if 0 ≤ x15 then (if x15 < (x11.length : Int) then (if (rd x11 x15) = x142001 then (bulkheadlaw11_OccRule.l0 k x0 x1 x7 x9 x11 x13 (wrap64 (x15 + 1))) else (some false)) else (none)) else (none)) else (if 0 ≤ x15 then (if x15 < (x11.length : Int) then (if (rd x11 x15) = x17 then (bulkheadlaw11_OccRule.l0 k x0 x1 x7 x9 x11 x13 (wrap64 (x15 + 1))) else (some false)) else (none)) else (none))
end
def bulkheadlaw11_OccRule.f (k : Nat) (l0 : List (S30)) (a1 : Int) : Option (Bool) := (check_Hyper.f l0).bind fun bt121 => (if bt121.2 = 0 then (if a1 < 0 then (bulkheadlaw11_OccRule.j0 k l0 a1 true) else (bulkheadlaw11_OccRule.j0 k l0 a1 (decide (a1 ≥ 1099511627775)))) else (bulkheadlaw11_OccRule.j0 k l0 a1 true))
theorem bulkheadlaw11_OccRule.mono_l : ∀ k, (∀ y0 y1 y2, LeO (bulkheadlaw11_OccRule.j0 k y0 y1 y2) (bulkheadlaw11_OccRule.j0 (k + 1) y0 y1 y2)) ∧ (∀ y0 y1 y2 y3 y4 y5 y6, LeO (bulkheadlaw11_OccRule.j1 k y0 y1 y2 y3 y4 y5 y6) (bulkheadlaw11_OccRule.j1 (k + 1) y0 y1 y2 y3 y4 y5 y6)) ∧ (∀ y0 y1 y2 y3 y4 y5 y6, LeO (bulkheadlaw11_OccRule.l0 k y0 y1 y2 y3 y4 y5 y6) (bulkheadlaw11_OccRule.l0 (k + 1) y0 y1 y2 y3 y4 y5 y6)) ∧ (∀ y0 y1 y2 y3 y4 y5 y6 y7 y8 y9 y10 y11, LeO (bulkheadlaw11_OccRule.j3 k y0 y1 y2 y3 y4 y5 y6 y7 y8 y9 y10 y11) (bulkheadlaw11_OccRule.j3 (k + 1) y0 y1 y2 y3 y4 y5 y6 y7 y8 y9 y10 y11)) ∧ (∀ y0 y1 y2 y3 y4 y5 y6 y7 y8 y9 y10 y11, LeO (bulkheadlaw11_OccRule.j4 k y0 y1 y2 y3 y4 y5 y6 y7 y8 y9 y10 y11) (bulkheadlaw11_OccRule.j4 (k + 1) y0 y1 y2 y3 y4 y5 y6 y7 y8 y9 y10 y11)) ∧ (∀ y0 y1 y2 y3 y4 y5 y6 y7 y8 y9 y10 y11 y12, LeO (bulkheadlaw11_OccRule.j5 k y0 y1 y2 y3 y4 y5 y6 y7 y8 y9 y10 y11 y12) (bulkheadlaw11_OccRule.j5 (k + 1) y0 y1 y2 y3 y4 y5 y6 y7 y8 y9 y10 y11 y12))
  | 0 => ⟨fun _ _ _ r h => by simp [bulkheadlaw11_OccRule.j0] at h, fun _ _ _ _ _ _ _ r h => by simp [bulkheadlaw11_OccRule.j1] at h, fun _ _ _ _ _ _ _ r h => by simp [bulkheadlaw11_OccRule.l0] at h, fun _ _ _ _ _ _ _ _ _ _ _ _ r h => by simp [bulkheadlaw11_OccRule.j3] at h, fun _ _ _ _ _ _ _ _ _ _ _ _ r h => by simp [bulkheadlaw11_OccRule.j4] at h, fun _ _ _ _ _ _ _ _ _ _ _ _ _ r h => by simp [bulkheadlaw11_OccRule.j5] at h⟩
  | k + 1 => by
    obtain ⟨ih0, ih1, ih2, ih3, ih4, ih5⟩ := bulkheadlaw11_OccRule.mono_l k
    refine ⟨?_, ?_, ?_, ?_, ?_, ?_⟩
    · intro y0 y1 y2
      unfold bulkheadlaw11_OccRule.j0
      repeat' first
      | (with_reducible exact ih0 _ _ _)
      | (with_reducible exact ih1 _ _ _ _ _ _ _)
      | (with_reducible exact ih2 _ _ _ _ _ _ _)
      | (with_reducible exact ih3 _ _ _ _ _ _ _ _ _ _ _ _)
      | (with_reducible exact ih4 _ _ _ _ _ _ _ _ _ _ _ _)
      | (with_reducible exact ih5 _ _ _ _ _ _ _ _ _ _ _ _ _)
      | (with_reducible exact bulkheadlaw11_chosen.mono _ _ _)
      | (with_reducible exact LeO.refl _)
      | (with_reducible exact LeO.none _)
      | (with_reducible refine LeO.ite ?_ ?_)
      | (with_reducible refine LeO.bind ?_ (fun _ => ?_))
      | exact ih0 _ _ _
      | exact ih1 _ _ _ _ _ _ _
      | exact ih2 _ _ _ _ _ _ _
      | exact ih3 _ _ _ _ _ _ _ _ _ _ _ _
      | exact ih4 _ _ _ _ _ _ _ _ _ _ _ _
      | exact ih5 _ _ _ _ _ _ _ _ _ _ _ _ _
      | exact bulkheadlaw11_chosen.mono _ _ _
      | exact LeO.none _
      | refine LeO.ite ?_ ?_
      | refine LeO.bind ?_ (fun _ => ?_)
    · intro y0 y1 y2 y3 y4 y5 y6
      unfold bulkheadlaw11_OccRule.j1
      repeat' first
      | (with_reducible exact ih0 _ _ _)
      | (with_reducible exact ih1 _ _ _ _ _ _ _)
      | (with_reducible exact ih2 _ _ _ _ _ _ _)
      | (with_reducible exact ih3 _ _ _ _ _ _ _ _ _ _ _ _)
      | (with_reducible exact ih4 _ _ _ _ _ _ _ _ _ _ _ _)
      | (with_reducible exact ih5 _ _ _ _ _ _ _ _ _ _ _ _ _)
      | (with_reducible exact bulkheadlaw11_chosen.mono _ _ _)
      | (with_reducible exact LeO.refl _)
      | (with_reducible exact LeO.none _)
      | (with_reducible refine LeO.ite ?_ ?_)
      | (with_reducible refine LeO.bind ?_ (fun _ => ?_))
      | exact ih0 _ _ _
      | exact ih1 _ _ _ _ _ _ _
      | exact ih2 _ _ _ _ _ _ _
      | exact ih3 _ _ _ _ _ _ _ _ _ _ _ _
      | exact ih4 _ _ _ _ _ _ _ _ _ _ _ _
      | exact ih5 _ _ _ _ _ _ _ _ _ _ _ _ _
      | exact bulkheadlaw11_chosen.mono _ _ _
      | exact LeO.none _
      | refine LeO.ite ?_ ?_
      | refine LeO.bind ?_ (fun _ => ?_)
    · intro y0 y1 y2 y3 y4 y5 y6
      unfold bulkheadlaw11_OccRule.l0
      repeat' first
      | (with_reducible exact ih0 _ _ _)
      | (with_reducible exact ih1 _ _ _ _ _ _ _)
      | (with_reducible exact ih2 _ _ _ _ _ _ _)
      | (with_reducible exact ih3 _ _ _ _ _ _ _ _ _ _ _ _)
      | (with_reducible exact ih4 _ _ _ _ _ _ _ _ _ _ _ _)
      | (with_reducible exact ih5 _ _ _ _ _ _ _ _ _ _ _ _ _)
      | (with_reducible exact bulkheadlaw11_chosen.mono _ _ _)
      | (with_reducible exact LeO.refl _)
      | (with_reducible exact LeO.none _)
      | (with_reducible refine LeO.ite ?_ ?_)
      | (with_reducible refine LeO.bind ?_ (fun _ => ?_))
      | exact ih0 _ _ _
      | exact ih1 _ _ _ _ _ _ _
      | exact ih2 _ _ _ _ _ _ _
      | exact ih3 _ _ _ _ _ _ _ _ _ _ _ _
      | exact ih4 _ _ _ _ _ _ _ _ _ _ _ _
      | exact ih5 _ _ _ _ _ _ _ _ _ _ _ _ _
      | exact bulkheadlaw11_chosen.mono _ _ _
      | exact LeO.none _
      | refine LeO.ite ?_ ?_
      | refine LeO.bind ?_ (fun _ => ?_)
    · intro y0 y1 y2 y3 y4 y5 y6 y7 y8 y9 y10 y11
      unfold bulkheadlaw11_OccRule.j3
      repeat' first
      | (with_reducible exact ih0 _ _ _)
      | (with_reducible exact ih1 _ _ _ _ _ _ _)
      | (with_reducible exact ih2 _ _ _ _ _ _ _)
      | (with_reducible exact ih3 _ _ _ _ _ _ _ _ _ _ _ _)
      | (with_reducible exact ih4 _ _ _ _ _ _ _ _ _ _ _ _)
      | (with_reducible exact ih5 _ _ _ _ _ _ _ _ _ _ _ _ _)
      | (with_reducible exact bulkheadlaw11_chosen.mono _ _ _)
      | (with_reducible exact LeO.refl _)
      | (with_reducible exact LeO.none _)
      | (with_reducible refine LeO.ite ?_ ?_)
      | (with_reducible refine LeO.bind ?_ (fun _ => ?_))
      | exact ih0 _ _ _
      | exact ih1 _ _ _ _ _ _ _
      | exact ih2 _ _ _ _ _ _ _
      | exact ih3 _ _ _ _ _ _ _ _ _ _ _ _
      | exact ih4 _ _ _ _ _ _ _ _ _ _ _ _
      | exact ih5 _ _ _ _ _ _ _ _ _ _ _ _ _
      | exact bulkheadlaw11_chosen.mono _ _ _
      | exact LeO.none _
      | refine LeO.ite ?_ ?_
      | refine LeO.bind ?_ (fun _ => ?_)
    · intro y0 y1 y2 y3 y4 y5 y6 y7 y8 y9 y10 y11
      unfold bulkheadlaw11_OccRule.j4
      repeat' first
      | (with_reducible exact ih0 _ _ _)
      | (with_reducible exact ih1 _ _ _ _ _ _ _)
      | (with_reducible exact ih2 _ _ _ _ _ _ _)
      | (with_reducible exact ih3 _ _ _ _ _ _ _ _ _ _ _ _)
      | (with_reducible exact ih4 _ _ _ _ _ _ _ _ _ _ _ _)
      | (with_reducible exact ih5 _ _ _ _ _ _ _ _ _ _ _ _ _)
      | (with_reducible exact bulkheadlaw11_chosen.mono _ _ _)
      | (with_reducible exact LeO.refl _)
      | (with_reducible exact LeO.none _)
      | (with_reducible refine LeO.ite ?_ ?_)
      | (with_reducible refine LeO.bind ?_ (fun _ => ?_))
      | exact ih0 _ _ _
      | exact ih1 _ _ _ _ _ _ _
      | exact ih2 _ _ _ _ _ _ _
      | exact ih3 _ _ _ _ _ _ _ _ _ _ _ _
      | exact ih4 _ _ _ _ _ _ _ _ _ _ _ _
      | exact ih5 _ _ _ _ _ _ _ _ _ _ _ _ _
      | exact bulkheadlaw11_chosen.mono _ _ _
      | exact LeO.none _
      | refine LeO.ite ?_ ?_
      | refine LeO.bind ?_ (fun _ => ?_)
    · intro y0 y1 y2 y3 y4 y5 y6 y7 y8 y9 y10 y11 y12
      unfold bulkheadlaw11_OccRule.j5
      repeat' first
      | (with_reducible exact ih0 _ _ _)
      | (with_reducible exact ih1 _ _ _ _ _ _ _)
      | (with_reducible exact ih2 _ _ _ _ _ _ _)
      | (with_reducible exact ih3 _ _ _ _ _ _ _ _ _ _ _ _)
      | (with_reducible exact ih4 _ _ _ _ _ _ _ _ _ _ _ _)
      | (with_reducible exact ih5 _ _ _ _ _ _ _ _ _ _ _ _ _)
      | (with_reducible exact bulkheadlaw11_chosen.mono _ _ _)
      | (with_reducible exact LeO.refl _)
      | (with_reducible exact LeO.none _)
      | (with_reducible refine LeO.ite ?_ ?_)
      | (with_reducible refine LeO.bind ?_ (fun _ => ?_))
      | exact ih0 _ _ _
      | exact ih1 _ _ _ _ _ _ _
      | exact ih2 _ _ _ _ _ _ _
      | exact ih3 _ _ _ _ _ _ _ _ _ _ _ _
      | exact ih4 _ _ _ _ _ _ _ _ _ _ _ _
      | exact ih5 _ _ _ _ _ _ _ _ _ _ _ _ _
      | exact bulkheadlaw11_chosen.mono _ _ _
      | exact LeO.none _
      | refine LeO.ite ?_ ?_
      | refine LeO.bind ?_ (fun _ => ?_)
theorem bulkheadlaw11_OccRule.mono : ∀ a0 a1 k, LeO (bulkheadlaw11_OccRule.f k a0 a1) (bulkheadlaw11_OccRule.f (k + 1) a0 a1) := by
  intro a0 a1 k
  obtain ⟨ih0, ih1, ih2, ih3, ih4, ih5⟩ := bulkheadlaw11_OccRule.mono_l k
  unfold bulkheadlaw11_OccRule.f
  repeat' first
      | (with_reducible exact ih0 _ _ _)
      | (with_reducible exact ih1 _ _ _ _ _ _ _)
      | (with_reducible exact ih2 _ _ _ _ _ _ _)
      | (with_reducible exact ih3 _ _ _ _ _ _ _ _ _ _ _ _)
      | (with_reducible exact ih4 _ _ _ _ _ _ _ _ _ _ _ _)
      | (with_reducible exact ih5 _ _ _ _ _ _ _ _ _ _ _ _ _)
      | (with_reducible exact bulkheadlaw11_chosen.mono _ _ _)
      | (with_reducible exact LeO.refl _)
      | (with_reducible exact LeO.none _)
      | (with_reducible refine LeO.ite ?_ ?_)
      | (with_reducible refine LeO.bind ?_ (fun _ => ?_))
      | exact ih0 _ _ _
      | exact ih1 _ _ _ _ _ _ _
      | exact ih2 _ _ _ _ _ _ _
      | exact ih3 _ _ _ _ _ _ _ _ _ _ _ _
      | exact ih4 _ _ _ _ _ _ _ _ _ _ _ _
      | exact ih5 _ _ _ _ _ _ _ _ _ _ _ _ _
      | exact bulkheadlaw11_chosen.mono _ _ _
      | exact LeO.none _
      | refine LeO.ite ?_ ?_
      | refine LeO.bind ?_ (fun _ => ?_)
set_option maxHeartbeats 8000000 in
set_option maxRecDepth 100000 in
theorem bulkheadlaw11_OccRule.calls (k : Nat) (A0 : Option Addr) (c0 : Nat) (l0 : List (S30)) (a1 : Int) (r : Bool) (w : World) (hr0 : Kd.C k30 w A0 l0.length l0) (hc0 : l0.length ≤ c0) (hG : GH w) (h : bulkheadlaw11_OccRule.f k l0 a1 = some r) :
    Calls Tryd.prog 6 #[.slice A0 l0.length c0, .int .i64 a1] w fun e w' => e = .returned (.bool r) ∧ Below w.heap.size w w' := by
  have hu30 := Tryd.underlying30
  have HR0 := Aside0.mk hr0
  have HC0 := Aside0.mk hc0
  clear hr0 hc0
  have HG := Aside0.mk hG
  clear hG
  have HB := Aside0.mk (Below.refl w.heap.size w)
  have H : ((check_Hyper.f l0).bind fun bt121 => (if bt121.2 = 0 then (if a1 < 0 then (bulkheadlaw11_OccRule.j0 k l0 a1 true) else (bulkheadlaw11_OccRule.j0 k l0 a1 (decide (a1 ≥ 1099511627775)))) else (bulkheadlaw11_OccRule.j0 k l0 a1 true))) = some r := h
  clear h
  replace H := Option.bind_eq_some_iff.mp H
  obtain ⟨⟨t121, t122⟩, A30, H⟩ := H
  replace H : (if t122 = 0 then (if a1 < 0 then (bulkheadlaw11_OccRule.j0 k l0 a1 true) else (bulkheadlaw11_OccRule.j0 k l0 a1 (decide (a1 ≥ 1099511627775)))) else (bulkheadlaw11_OccRule.j0 k l0 a1 true)) = some r := H
  have A3 := Aside0.mk A30
  clear A30
  have HC4 := Aside0.mk H
  clear H
  go_enter Tryd.func6, Tryd.ntmps6
  go_upto_region 2 with (first | (go_at_call 10; (with_reducible refine (check_Hyper.calls _ _ l0 t121 t122 _ ?side1 ?side2 ?side3 A3.out).mono ?_); (case side1 => repeat (first | exact HR0.out | (with_reducible refine Kd.C_alloc ?_ _) | (with_reducible refine Kd.C_drewN ?_ _) | (with_reducible refine Kd.C_drew ?_))); (case side2 => exact HC0.out); (case side3 => repeat (first | exact HG.out | (with_reducible refine GH_alloc ?_ _) | (with_reducible refine GH_drewN ?_ _) | (with_reducible refine GH_drew ?_))); rintro e w5 ⟨rfl, hb⟩; have n0_ := Aside0.mk (below_step (by repeat (first | (with_reducible first | exact HB.out | apply below_alloc | apply pw_below_drewN | apply below_drew1) | exact HB.out)) hb); clear HB; have HB := n0_; clear n0_; (try clear hb); (try clear hb2); (try clear hk); (try clear hi)))
  repeat (go_quiet (first | (go_at_call 10; (with_reducible refine (check_Hyper.calls _ _ l0 t121 t122 _ ?side1 ?side2 ?side3 A3.out).mono ?_); (case side1 => repeat (first | exact HR0.out | (with_reducible refine Kd.C_alloc ?_ _) | (with_reducible refine Kd.C_drewN ?_ _) | (with_reducible refine Kd.C_drew ?_))); (case side2 => exact HC0.out); (case side3 => repeat (first | exact HG.out | (with_reducible refine GH_alloc ?_ _) | (with_reducible refine GH_drewN ?_ _) | (with_reducible refine GH_drew ?_))); rintro e w5 ⟨rfl, hb⟩; have n0_ := Aside0.mk (below_step (by repeat (first | (with_reducible first | exact HB.out | apply below_alloc | apply pw_below_drewN | apply below_drew1) | exact HB.out)) hb); clear HB; have HB := n0_; clear n0_; (try clear hb); (try clear hb2); (try clear hk); (try clear hi))); go_upto_region 2 with (first | (go_at_call 10; (with_reducible refine (check_Hyper.calls _ _ l0 t121 t122 _ ?side1 ?side2 ?side3 A3.out).mono ?_); (case side1 => repeat (first | exact HR0.out | (with_reducible refine Kd.C_alloc ?_ _) | (with_reducible refine Kd.C_drewN ?_ _) | (with_reducible refine Kd.C_drew ?_))); (case side2 => exact HC0.out); (case side3 => repeat (first | exact HG.out | (with_reducible refine GH_alloc ?_ _) | (with_reducible refine GH_drewN ?_ _) | (with_reducible refine GH_drew ?_))); rintro e w5 ⟨rfl, hb⟩; have n0_ := Aside0.mk (below_step (by repeat (first | (with_reducible first | exact HB.out | apply below_alloc | apply pw_below_drewN | apply below_drew1) | exact HB.out)) hb); clear HB; have HB := n0_; clear n0_; (try clear hb); (try clear hb2); (try clear hk); (try clear hi))))
  (try simp only [Act.put, List.setIfInBounds_toArray, List.set_cons_zero, List.set_cons_succ])
  go_cut [32] (fun v32 wc => ∃ (kq : Nat) (x32_3 : Bool), v32 = .bool x32_3 ∧ Aside0 (bulkheadlaw11_OccRule.j0 kq l0 a1 x32_3 = some r) ∧ Aside0 (kq ≤ k) ∧ Aside0 (Below w.heap.size w wc))
  case first =>
    have H := HC4.out
    clear HC4
    by_cases c6 : t122 = 0
    · as_aux_lemma =>
      rw [if_pos c6] at H
      have c6b0 : (t122 == 0) = true := beq_iff_eq.mpr c6
      have c6b1 : (t122 != 0) = false := bne_eq_false_iff_eq.mpr c6
      clear c6
      (first | rw [c6b0] | (simp only [i64_w, i32_w]; rw [c6b0]) | skip)
      by_cases c7 : a1 < 0
      · as_aux_lemma =>
        rw [if_pos c7] at H
        have c7b0 : decide (a1 < 0) = true := decide_eq_true c7
        clear c7
        have H' := Aside0.mk H
        clear H
        go_wp2
        repeat (go_quiet (fail); try go_wp2)
        go_meet
        case rel => exact ⟨_, (true), (by first | rfl | (simp; done) | (simp [*]; done)), H', ⟨by first | omega | exact Nat.le_refl _⟩, ⟨by repeat (first | (with_reducible first | exact HB.out | apply below_alloc | apply pw_below_drewN | apply below_drew1) | exact HB.out)⟩⟩
      · as_aux_lemma =>
        rw [if_neg c7] at H
        have c7b0 : decide (a1 < 0) = false := decide_eq_false c7
        clear c7
        have H' := Aside0.mk H
        clear H
        go_wp2
        repeat (go_quiet (fail); try go_wp2)
        go_meet
        case rel => exact ⟨_, (decide (a1 ≥ 1099511627775)), (by first | rfl | (simp; done) | (simp [*]; done)), H', ⟨by first | omega | exact Nat.le_refl _⟩, ⟨by repeat (first | (with_reducible first | exact HB.out | apply below_alloc | apply pw_below_drewN | apply below_drew1) | exact HB.out)⟩⟩
    · as_aux_lemma =>
      rw [if_neg c6] at H
      have c6b0 : (t122 == 0) = false := beq_eq_false_iff_ne.mpr c6
      have c6b1 : (t122 != 0) = true := bne_iff_ne.mpr c6
      (first | rw [c6b0] | (simp only [i64_w, i32_w]; rw [c6b0]) | skip)
      have H' := Aside0.mk H
      clear H
      go_wp2
      repeat (go_quiet (fail); try go_wp2)
      go_meet
      case rel => exact ⟨_, (true), (by first | rfl | (simp; done) | (simp [*]; done)), H', ⟨by first | omega | exact Nat.le_refl _⟩, ⟨by repeat (first | (with_reducible first | exact HB.out | apply below_alloc | apply pw_below_drewN | apply below_drew1) | exact HB.out)⟩⟩
  case rest =>
    clear HC4
    try clear p2
    try clear c6
    try clear c6b0
    try clear c6b1
    try clear c7
    try clear c7b0
    obtain ⟨kq, x32_3, rfl, HA, HJ3, HB⟩ := hcut
    cases kq with
    | zero => exact absurd HA.out (by simp [bulkheadlaw11_OccRule.j0])
    | succ kj3 =>
      have H := HA.out
      clear HA
      simp only [bulkheadlaw11_OccRule.j0] at H
      by_cases c8 : x32_3 = true
      · subst c8
        have H1 : ((bulkheadlaw11_works.f).bind fun t123 => (some t123)) = some r := by rw [if_pos rfl] at H; exact H
        clear H
        have H := H1
        clear H1
        replace H := Option.bind_eq_some_iff.mp H
        obtain ⟨t123, A90, H⟩ := H
        replace H : (some t123) = some r := H
        have A9 := Aside0.mk A90
        clear A90
        obtain rfl := Option.some.inj H
        go_wp2_with (first | (go_at_call 11; (with_reducible refine (bulkheadlaw11_works.calls  t123 _ ?side1 A9.out).mono ?_); (case side1 => repeat (first | exact (GH_below HG.out HB.out) | (with_reducible refine GH_alloc ?_ _) | (with_reducible refine GH_drewN ?_ _) | (with_reducible refine GH_drew ?_))); rintro e w10 ⟨rfl, hb⟩; have n0_ := Aside0.mk (below_step (by repeat (first | (with_reducible first | exact HB.out | apply below_alloc | apply pw_below_drewN | apply below_drew1) | exact HB.out)) hb); clear HB; have HB := n0_; clear n0_; (try clear hb); (try clear hb2); (try clear hk); (try clear hi)))
        repeat (go_quiet (first | (go_at_call 11; (with_reducible refine (bulkheadlaw11_works.calls  t123 _ ?side1 A9.out).mono ?_); (case side1 => repeat (first | exact (GH_below HG.out HB.out) | (with_reducible refine GH_alloc ?_ _) | (with_reducible refine GH_drewN ?_ _) | (with_reducible refine GH_drew ?_))); rintro e w10 ⟨rfl, hb⟩; have n0_ := Aside0.mk (below_step (by repeat (first | (with_reducible first | exact HB.out | apply below_alloc | apply pw_below_drewN | apply below_drew1) | exact HB.out)) hb); clear HB; have HB := n0_; clear n0_; (try clear hb); (try clear hb2); (try clear hk); (try clear hi))); try go_wp2_with (first | (go_at_call 11; (with_reducible refine (bulkheadlaw11_works.calls  t123 _ ?side1 A9.out).mono ?_); (case side1 => repeat (first | exact (GH_below HG.out HB.out) | (with_reducible refine GH_alloc ?_ _) | (with_reducible refine GH_drewN ?_ _) | (with_reducible refine GH_drew ?_))); rintro e w10 ⟨rfl, hb⟩; have n0_ := Aside0.mk (below_step (by repeat (first | (with_reducible first | exact HB.out | apply below_alloc | apply pw_below_drewN | apply below_drew1) | exact HB.out)) hb); clear HB; have HB := n0_; clear n0_; (try clear hb); (try clear hb2); (try clear hk); (try clear hi))))
        go_ret
        exact ⟨by first | rfl | (simp [errW_none, errW_some] <;> rfl) | (simp [*, errW_none, errW_some] <;> rfl), by repeat (first | (with_reducible first | exact HB.out | apply below_alloc | apply pw_below_drewN | apply below_drew1) | exact HB.out)⟩
      · replace c8 := Bool.eq_false_iff.mpr c8
        subst c8
        have H1 : ((occ_Rests.f l0 0).bind fun bt124 => ((occ_Rests.f l0 a1).bind fun bt128 => ((occ_Rests.f l0 (wrap64 (a1 + 1))).bind fun bt132 => ((occ_At.f l0 a1).bind fun bt136 => (if bt124.2 = 0 then (if bt128.2 = 0 then (if bt132.2 = 0 then (if bt136.2 = 0 then (if (bt124.1.length : Int) = (l0.length : Int) then (if (bt128.1.length : Int) = (l0.length : Int) then (bulkheadlaw11_OccRule.j1 kj3 l0 a1 bt124.1 bt128.1 bt132.1 bt136.1 ((bt132.1.length : Int) != (l0.length : Int))) else (bulkheadlaw11_OccRule.j1 kj3 l0 a1 bt124.1 bt128.1 bt132.1 bt136.1 true)) else (bulkheadlaw11_OccRule.j1 kj3 l0 a1 bt124.1 bt128.1 bt132.1 bt136.1 true)) else (bulkheadlaw11_OccRule.j1 kj3 l0 a1 bt124.1 bt128.1 bt132.1 bt136.1 true)) else (bulkheadlaw11_OccRule.j1 kj3 l0 a1 bt124.1 bt128.1 bt132.1 bt136.1 true)) else (bulkheadlaw11_OccRule.j1 kj3 l0 a1 bt124.1 bt128.1 bt132.1 bt136.1 true)) else (bulkheadlaw11_OccRule.j1 kj3 l0 a1 bt124.1 bt128.1 bt132.1 bt136.1 true)))))) = some r := by rw [if_neg (show ¬ (false = true) by decide)] at H; exact H
        clear H
        have H := H1
        clear H1
        replace H := Option.bind_eq_some_iff.mp H
        obtain ⟨⟨t124, t125⟩, A110, H⟩ := H
        replace H : ((occ_Rests.f l0 a1).bind fun bt128 => ((occ_Rests.f l0 (wrap64 (a1 + 1))).bind fun bt132 => ((occ_At.f l0 a1).bind fun bt136 => (if t125 = 0 then (if bt128.2 = 0 then (if bt132.2 = 0 then (if bt136.2 = 0 then (if (t124.length : Int) = (l0.length : Int) then (if (bt128.1.length : Int) = (l0.length : Int) then (bulkheadlaw11_OccRule.j1 kj3 l0 a1 t124 bt128.1 bt132.1 bt136.1 ((bt132.1.length : Int) != (l0.length : Int))) else (bulkheadlaw11_OccRule.j1 kj3 l0 a1 t124 bt128.1 bt132.1 bt136.1 true)) else (bulkheadlaw11_OccRule.j1 kj3 l0 a1 t124 bt128.1 bt132.1 bt136.1 true)) else (bulkheadlaw11_OccRule.j1 kj3 l0 a1 t124 bt128.1 bt132.1 bt136.1 true)) else (bulkheadlaw11_OccRule.j1 kj3 l0 a1 t124 bt128.1 bt132.1 bt136.1 true)) else (bulkheadlaw11_OccRule.j1 kj3 l0 a1 t124 bt128.1 bt132.1 bt136.1 true)) else (bulkheadlaw11_OccRule.j1 kj3 l0 a1 t124 bt128.1 bt132.1 bt136.1 true))))) = some r := H
        have A11 := Aside0.mk A110
        clear A110
        replace H := Option.bind_eq_some_iff.mp H
        obtain ⟨⟨t128, t129⟩, A120, H⟩ := H
        replace H : ((occ_Rests.f l0 (wrap64 (a1 + 1))).bind fun bt132 => ((occ_At.f l0 a1).bind fun bt136 => (if t125 = 0 then (if t129 = 0 then (if bt132.2 = 0 then (if bt136.2 = 0 then (if (t124.length : Int) = (l0.length : Int) then (if (t128.length : Int) = (l0.length : Int) then (bulkheadlaw11_OccRule.j1 kj3 l0 a1 t124 t128 bt132.1 bt136.1 ((bt132.1.length : Int) != (l0.length : Int))) else (bulkheadlaw11_OccRule.j1 kj3 l0 a1 t124 t128 bt132.1 bt136.1 true)) else (bulkheadlaw11_OccRule.j1 kj3 l0 a1 t124 t128 bt132.1 bt136.1 true)) else (bulkheadlaw11_OccRule.j1 kj3 l0 a1 t124 t128 bt132.1 bt136.1 true)) else (bulkheadlaw11_OccRule.j1 kj3 l0 a1 t124 t128 bt132.1 bt136.1 true)) else (bulkheadlaw11_OccRule.j1 kj3 l0 a1 t124 t128 bt132.1 bt136.1 true)) else (bulkheadlaw11_OccRule.j1 kj3 l0 a1 t124 t128 bt132.1 bt136.1 true)))) = some r := H
        have A12 := Aside0.mk A120
        clear A120
        replace H := Option.bind_eq_some_iff.mp H
        obtain ⟨⟨t132, t133⟩, A130, H⟩ := H
        replace H : ((occ_At.f l0 a1).bind fun bt136 => (if t125 = 0 then (if t129 = 0 then (if t133 = 0 then (if bt136.2 = 0 then (if (t124.length : Int) = (l0.length : Int) then (if (t128.length : Int) = (l0.length : Int) then (bulkheadlaw11_OccRule.j1 kj3 l0 a1 t124 t128 t132 bt136.1 ((t132.length : Int) != (l0.length : Int))) else (bulkheadlaw11_OccRule.j1 kj3 l0 a1 t124 t128 t132 bt136.1 true)) else (bulkheadlaw11_OccRule.j1 kj3 l0 a1 t124 t128 t132 bt136.1 true)) else (bulkheadlaw11_OccRule.j1 kj3 l0 a1 t124 t128 t132 bt136.1 true)) else (bulkheadlaw11_OccRule.j1 kj3 l0 a1 t124 t128 t132 bt136.1 true)) else (bulkheadlaw11_OccRule.j1 kj3 l0 a1 t124 t128 t132 bt136.1 true)) else (bulkheadlaw11_OccRule.j1 kj3 l0 a1 t124 t128 t132 bt136.1 true))) = some r := H
        have A13 := Aside0.mk A130
        clear A130
        replace H := Option.bind_eq_some_iff.mp H
        obtain ⟨⟨t136, t137⟩, A140, H⟩ := H
        replace H : (if t125 = 0 then (if t129 = 0 then (if t133 = 0 then (if t137 = 0 then (if (t124.length : Int) = (l0.length : Int) then (if (t128.length : Int) = (l0.length : Int) then (bulkheadlaw11_OccRule.j1 kj3 l0 a1 t124 t128 t132 t136 ((t132.length : Int) != (l0.length : Int))) else (bulkheadlaw11_OccRule.j1 kj3 l0 a1 t124 t128 t132 t136 true)) else (bulkheadlaw11_OccRule.j1 kj3 l0 a1 t124 t128 t132 t136 true)) else (bulkheadlaw11_OccRule.j1 kj3 l0 a1 t124 t128 t132 t136 true)) else (bulkheadlaw11_OccRule.j1 kj3 l0 a1 t124 t128 t132 t136 true)) else (bulkheadlaw11_OccRule.j1 kj3 l0 a1 t124 t128 t132 t136 true)) else (bulkheadlaw11_OccRule.j1 kj3 l0 a1 t124 t128 t132 t136 true)) = some r := H
        have A14 := Aside0.mk A140
        clear A140
        have HC15 := Aside0.mk H
        clear H
        go_upto_region 8 with (first | (go_at_call 16; (with_reducible refine (occ_Rests.calls _ _ l0 0 t124 t125 _ ?side1 ?side2 ?side3 A11.out).mono ?_); (case side1 => repeat (first | exact (Kd.C_below HR0.out HB.out) | (with_reducible refine Kd.C_alloc ?_ _) | (with_reducible refine Kd.C_drewN ?_ _) | (with_reducible refine Kd.C_drew ?_))); (case side2 => exact HC0.out); (case side3 => repeat (first | exact (GH_below HG.out HB.out) | (with_reducible refine GH_alloc ?_ _) | (with_reducible refine GH_drewN ?_ _) | (with_reducible refine GH_drew ?_))); rintro e w16 ⟨v126, rfl, ho0, hb⟩; have n0_ := Aside0.mk (Kd.R_lower ho0 (below_size (by repeat (first | (with_reducible first | exact HB.out | apply below_alloc | apply pw_below_drewN | apply below_drew1) | exact HB.out)))); have n1_ := Aside0.mk (below_step (by repeat (first | (with_reducible first | exact HB.out | apply below_alloc | apply pw_below_drewN | apply below_drew1) | exact HB.out)) hb); clear HB; have HO127 := n0_; have HB := n1_; clear n0_ n1_; (try clear hb); (try clear hb2); (try clear hk); (try clear hi); (try clear ho0)) | (go_at_call 16; (with_reducible refine (occ_Rests.calls _ _ l0 a1 t128 t129 _ ?side1 ?side2 ?side3 A12.out).mono ?_); (case side1 => repeat (first | exact (Kd.C_below HR0.out HB.out) | (with_reducible refine Kd.C_alloc ?_ _) | (with_reducible refine Kd.C_drewN ?_ _) | (with_reducible refine Kd.C_drew ?_))); (case side2 => exact HC0.out); (case side3 => repeat (first | exact (GH_below HG.out HB.out) | (with_reducible refine GH_alloc ?_ _) | (with_reducible refine GH_drewN ?_ _) | (with_reducible refine GH_drew ?_))); rintro e w17 ⟨v130, rfl, ho0, hb⟩; have n0_ := Aside0.mk (Kd.R_elder' (by (with_reducible repeat (first | apply Kd.R_alloc | apply Kd.R_drewN | apply Kd.R_drew)); exact HO127.out) (Kd.R_base ho0) hb); have n1_ := Aside0.mk (Kd.R_lower (Kd.R_new' ho0 (Kd.R_lt (by (with_reducible repeat (first | apply Kd.R_alloc | apply Kd.R_drewN | apply Kd.R_drew)); exact HO127.out))) (below_size (by repeat (first | (with_reducible first | exact HB.out | apply below_alloc | apply pw_below_drewN | apply below_drew1) | exact HB.out)))); have n2_ := Aside0.mk (below_step (by repeat (first | (with_reducible first | exact HB.out | apply below_alloc | apply pw_below_drewN | apply below_drew1) | exact HB.out)) hb); clear HO127; clear HB; have HO127 := n0_; have HO131 := n1_; have HB := n2_; clear n0_ n1_ n2_; (try clear hb); (try clear hb2); (try clear hk); (try clear hi); (try clear ho0)) | (go_at_call 16; (with_reducible refine (occ_Rests.calls _ _ l0 (wrap64 (a1 + 1)) t132 t133 _ ?side1 ?side2 ?side3 A13.out).mono ?_); (case side1 => repeat (first | exact (Kd.C_below HR0.out HB.out) | (with_reducible refine Kd.C_alloc ?_ _) | (with_reducible refine Kd.C_drewN ?_ _) | (with_reducible refine Kd.C_drew ?_))); (case side2 => exact HC0.out); (case side3 => repeat (first | exact (GH_below HG.out HB.out) | (with_reducible refine GH_alloc ?_ _) | (with_reducible refine GH_drewN ?_ _) | (with_reducible refine GH_drew ?_))); rintro e w18 ⟨v134, rfl, ho0, hb⟩; have n0_ := Aside0.mk (Kd.R_elder' (by (with_reducible repeat (first | apply Kd.R_alloc | apply Kd.R_drewN | apply Kd.R_drew)); exact HO127.out) (Kd.R_base ho0) hb); have n1_ := Aside0.mk (Kd.R_elder' (by (with_reducible repeat (first | apply Kd.R_alloc | apply Kd.R_drewN | apply Kd.R_drew)); exact HO131.out) (Kd.R_base ho0) hb); have n2_ := Aside0.mk (Kd.R_lower (Kd.R_new' (Kd.R_new' ho0 (Kd.R_lt (by (with_reducible repeat (first | apply Kd.R_alloc | apply Kd.R_drewN | apply Kd.R_drew)); exact HO127.out))) (Kd.R_lt (by (with_reducible repeat (first | apply Kd.R_alloc | apply Kd.R_drewN | apply Kd.R_drew)); exact HO131.out))) (below_size (by repeat (first | (with_reducible first | exact HB.out | apply below_alloc | apply pw_below_drewN | apply below_drew1) | exact HB.out)))); have n3_ := Aside0.mk (below_step (by repeat (first | (with_reducible first | exact HB.out | apply below_alloc | apply pw_below_drewN | apply below_drew1) | exact HB.out)) hb); clear HO127; clear HO131; clear HB; have HO127 := n0_; have HO131 := n1_; have HO135 := n2_; have HB := n3_; clear n0_ n1_ n2_ n3_; (try clear hb); (try clear hb2); (try clear hk); (try clear hi); (try clear ho0)) | (go_at_call 12; (with_reducible refine (occ_At.calls _ _ l0 a1 t136 t137 _ ?side1 ?side2 ?side3 A14.out).mono ?_); (case side1 => repeat (first | exact (Kd.C_below HR0.out HB.out) | (with_reducible refine Kd.C_alloc ?_ _) | (with_reducible refine Kd.C_drewN ?_ _) | (with_reducible refine Kd.C_drew ?_))); (case side2 => exact HC0.out); (case side3 => repeat (first | exact (GH_below HG.out HB.out) | (with_reducible refine GH_alloc ?_ _) | (with_reducible refine GH_drewN ?_ _) | (with_reducible refine GH_drew ?_))); rintro e w19 ⟨rfl, hb⟩; have n0_ := Aside0.mk (Kd.R_below (by (with_reducible repeat (first | apply Kd.R_alloc | apply Kd.R_drewN | apply Kd.R_drew)); exact HO127.out) hb); have n1_ := Aside0.mk (Kd.R_below (by (with_reducible repeat (first | apply Kd.R_alloc | apply Kd.R_drewN | apply Kd.R_drew)); exact HO131.out) hb); have n2_ := Aside0.mk (Kd.R_below (by (with_reducible repeat (first | apply Kd.R_alloc | apply Kd.R_drewN | apply Kd.R_drew)); exact HO135.out) hb); have n3_ := Aside0.mk (below_step (by repeat (first | (with_reducible first | exact HB.out | apply below_alloc | apply pw_below_drewN | apply below_drew1) | exact HB.out)) hb); clear HO127; clear HO131; clear HO135; clear HB; have HO127 := n0_; have HO131 := n1_; have HO135 := n2_; have HB := n3_; clear n0_ n1_ n2_ n3_; (try clear hb); (try clear hb2); (try clear hk); (try clear hi)))
        repeat (go_quiet (first | (go_at_call 16; (with_reducible refine (occ_Rests.calls _ _ l0 0 t124 t125 _ ?side1 ?side2 ?side3 A11.out).mono ?_); (case side1 => repeat (first | exact (Kd.C_below HR0.out HB.out) | (with_reducible refine Kd.C_alloc ?_ _) | (with_reducible refine Kd.C_drewN ?_ _) | (with_reducible refine Kd.C_drew ?_))); (case side2 => exact HC0.out); (case side3 => repeat (first | exact (GH_below HG.out HB.out) | (with_reducible refine GH_alloc ?_ _) | (with_reducible refine GH_drewN ?_ _) | (with_reducible refine GH_drew ?_))); rintro e w16 ⟨v126, rfl, ho0, hb⟩; have n0_ := Aside0.mk (Kd.R_lower ho0 (below_size (by repeat (first | (with_reducible first | exact HB.out | apply below_alloc | apply pw_below_drewN | apply below_drew1) | exact HB.out)))); have n1_ := Aside0.mk (below_step (by repeat (first | (with_reducible first | exact HB.out | apply below_alloc | apply pw_below_drewN | apply below_drew1) | exact HB.out)) hb); clear HB; have HO127 := n0_; have HB := n1_; clear n0_ n1_; (try clear hb); (try clear hb2); (try clear hk); (try clear hi); (try clear ho0)) | (go_at_call 16; (with_reducible refine (occ_Rests.calls _ _ l0 a1 t128 t129 _ ?side1 ?side2 ?side3 A12.out).mono ?_); (case side1 => repeat (first | exact (Kd.C_below HR0.out HB.out) | (with_reducible refine Kd.C_alloc ?_ _) | (with_reducible refine Kd.C_drewN ?_ _) | (with_reducible refine Kd.C_drew ?_))); (case side2 => exact HC0.out); (case side3 => repeat (first | exact (GH_below HG.out HB.out) | (with_reducible refine GH_alloc ?_ _) | (with_reducible refine GH_drewN ?_ _) | (with_reducible refine GH_drew ?_))); rintro e w17 ⟨v130, rfl, ho0, hb⟩; have n0_ := Aside0.mk (Kd.R_elder' (by (with_reducible repeat (first | apply Kd.R_alloc | apply Kd.R_drewN | apply Kd.R_drew)); exact HO127.out) (Kd.R_base ho0) hb); have n1_ := Aside0.mk (Kd.R_lower (Kd.R_new' ho0 (Kd.R_lt (by (with_reducible repeat (first | apply Kd.R_alloc | apply Kd.R_drewN | apply Kd.R_drew)); exact HO127.out))) (below_size (by repeat (first | (with_reducible first | exact HB.out | apply below_alloc | apply pw_below_drewN | apply below_drew1) | exact HB.out)))); have n2_ := Aside0.mk (below_step (by repeat (first | (with_reducible first | exact HB.out | apply below_alloc | apply pw_below_drewN | apply below_drew1) | exact HB.out)) hb); clear HO127; clear HB; have HO127 := n0_; have HO131 := n1_; have HB := n2_; clear n0_ n1_ n2_; (try clear hb); (try clear hb2); (try clear hk); (try clear hi); (try clear ho0)) | (go_at_call 16; (with_reducible refine (occ_Rests.calls _ _ l0 (wrap64 (a1 + 1)) t132 t133 _ ?side1 ?side2 ?side3 A13.out).mono ?_); (case side1 => repeat (first | exact (Kd.C_below HR0.out HB.out) | (with_reducible refine Kd.C_alloc ?_ _) | (with_reducible refine Kd.C_drewN ?_ _) | (with_reducible refine Kd.C_drew ?_))); (case side2 => exact HC0.out); (case side3 => repeat (first | exact (GH_below HG.out HB.out) | (with_reducible refine GH_alloc ?_ _) | (with_reducible refine GH_drewN ?_ _) | (with_reducible refine GH_drew ?_))); rintro e w18 ⟨v134, rfl, ho0, hb⟩; have n0_ := Aside0.mk (Kd.R_elder' (by (with_reducible repeat (first | apply Kd.R_alloc | apply Kd.R_drewN | apply Kd.R_drew)); exact HO127.out) (Kd.R_base ho0) hb); have n1_ := Aside0.mk (Kd.R_elder' (by (with_reducible repeat (first | apply Kd.R_alloc | apply Kd.R_drewN | apply Kd.R_drew)); exact HO131.out) (Kd.R_base ho0) hb); have n2_ := Aside0.mk (Kd.R_lower (Kd.R_new' (Kd.R_new' ho0 (Kd.R_lt (by (with_reducible repeat (first | apply Kd.R_alloc | apply Kd.R_drewN | apply Kd.R_drew)); exact HO127.out))) (Kd.R_lt (by (with_reducible repeat (first | apply Kd.R_alloc | apply Kd.R_drewN | apply Kd.R_drew)); exact HO131.out))) (below_size (by repeat (first | (with_reducible first | exact HB.out | apply below_alloc | apply pw_below_drewN | apply below_drew1) | exact HB.out)))); have n3_ := Aside0.mk (below_step (by repeat (first | (with_reducible first | exact HB.out | apply below_alloc | apply pw_below_drewN | apply below_drew1) | exact HB.out)) hb); clear HO127; clear HO131; clear HB; have HO127 := n0_; have HO131 := n1_; have HO135 := n2_; have HB := n3_; clear n0_ n1_ n2_ n3_; (try clear hb); (try clear hb2); (try clear hk); (try clear hi); (try clear ho0)) | (go_at_call 12; (with_reducible refine (occ_At.calls _ _ l0 a1 t136 t137 _ ?side1 ?side2 ?side3 A14.out).mono ?_); (case side1 => repeat (first | exact (Kd.C_below HR0.out HB.out) | (with_reducible refine Kd.C_alloc ?_ _) | (with_reducible refine Kd.C_drewN ?_ _) | (with_reducible refine Kd.C_drew ?_))); (case side2 => exact HC0.out); (case side3 => repeat (first | exact (GH_below HG.out HB.out) | (with_reducible refine GH_alloc ?_ _) | (with_reducible refine GH_drewN ?_ _) | (with_reducible refine GH_drew ?_))); rintro e w19 ⟨rfl, hb⟩; have n0_ := Aside0.mk (Kd.R_below (by (with_reducible repeat (first | apply Kd.R_alloc | apply Kd.R_drewN | apply Kd.R_drew)); exact HO127.out) hb); have n1_ := Aside0.mk (Kd.R_below (by (with_reducible repeat (first | apply Kd.R_alloc | apply Kd.R_drewN | apply Kd.R_drew)); exact HO131.out) hb); have n2_ := Aside0.mk (Kd.R_below (by (with_reducible repeat (first | apply Kd.R_alloc | apply Kd.R_drewN | apply Kd.R_drew)); exact HO135.out) hb); have n3_ := Aside0.mk (below_step (by repeat (first | (with_reducible first | exact HB.out | apply below_alloc | apply pw_below_drewN | apply below_drew1) | exact HB.out)) hb); clear HO127; clear HO131; clear HO135; clear HB; have HO127 := n0_; have HO131 := n1_; have HO135 := n2_; have HB := n3_; clear n0_ n1_ n2_ n3_; (try clear hb); (try clear hb2); (try clear hk); (try clear hi))); go_upto_region 8 with (first | (go_at_call 16; (with_reducible refine (occ_Rests.calls _ _ l0 0 t124 t125 _ ?side1 ?side2 ?side3 A11.out).mono ?_); (case side1 => repeat (first | exact (Kd.C_below HR0.out HB.out) | (with_reducible refine Kd.C_alloc ?_ _) | (with_reducible refine Kd.C_drewN ?_ _) | (with_reducible refine Kd.C_drew ?_))); (case side2 => exact HC0.out); (case side3 => repeat (first | exact (GH_below HG.out HB.out) | (with_reducible refine GH_alloc ?_ _) | (with_reducible refine GH_drewN ?_ _) | (with_reducible refine GH_drew ?_))); rintro e w16 ⟨v126, rfl, ho0, hb⟩; have n0_ := Aside0.mk (Kd.R_lower ho0 (below_size (by repeat (first | (with_reducible first | exact HB.out | apply below_alloc | apply pw_below_drewN | apply below_drew1) | exact HB.out)))); have n1_ := Aside0.mk (below_step (by repeat (first | (with_reducible first | exact HB.out | apply below_alloc | apply pw_below_drewN | apply below_drew1) | exact HB.out)) hb); clear HB; have HO127 := n0_; have HB := n1_; clear n0_ n1_; (try clear hb); (try clear hb2); (try clear hk); (try clear hi); (try clear ho0)) | (go_at_call 16; (with_reducible refine (occ_Rests.calls _ _ l0 a1 t128 t129 _ ?side1 ?side2 ?side3 A12.out).mono ?_); (case side1 => repeat (first | exact (Kd.C_below HR0.out HB.out) | (with_reducible refine Kd.C_alloc ?_ _) | (with_reducible refine Kd.C_drewN ?_ _) | (with_reducible refine Kd.C_drew ?_))); (case side2 => exact HC0.out); (case side3 => repeat (first | exact (GH_below HG.out HB.out) | (with_reducible refine GH_alloc ?_ _) | (with_reducible refine GH_drewN ?_ _) | (with_reducible refine GH_drew ?_))); rintro e w17 ⟨v130, rfl, ho0, hb⟩; have n0_ := Aside0.mk (Kd.R_elder' (by (with_reducible repeat (first | apply Kd.R_alloc | apply Kd.R_drewN | apply Kd.R_drew)); exact HO127.out) (Kd.R_base ho0) hb); have n1_ := Aside0.mk (Kd.R_lower (Kd.R_new' ho0 (Kd.R_lt (by (with_reducible repeat (first | apply Kd.R_alloc | apply Kd.R_drewN | apply Kd.R_drew)); exact HO127.out))) (below_size (by repeat (first | (with_reducible first | exact HB.out | apply below_alloc | apply pw_below_drewN | apply below_drew1) | exact HB.out)))); have n2_ := Aside0.mk (below_step (by repeat (first | (with_reducible first | exact HB.out | apply below_alloc | apply pw_below_drewN | apply below_drew1) | exact HB.out)) hb); clear HO127; clear HB; have HO127 := n0_; have HO131 := n1_; have HB := n2_; clear n0_ n1_ n2_; (try clear hb); (try clear hb2); (try clear hk); (try clear hi); (try clear ho0)) | (go_at_call 16; (with_reducible refine (occ_Rests.calls _ _ l0 (wrap64 (a1 + 1)) t132 t133 _ ?side1 ?side2 ?side3 A13.out).mono ?_); (case side1 => repeat (first | exact (Kd.C_below HR0.out HB.out) | (with_reducible refine Kd.C_alloc ?_ _) | (with_reducible refine Kd.C_drewN ?_ _) | (with_reducible refine Kd.C_drew ?_))); (case side2 => exact HC0.out); (case side3 => repeat (first | exact (GH_below HG.out HB.out) | (with_reducible refine GH_alloc ?_ _) | (with_reducible refine GH_drewN ?_ _) | (with_reducible refine GH_drew ?_))); rintro e w18 ⟨v134, rfl, ho0, hb⟩; have n0_ := Aside0.mk (Kd.R_elder' (by (with_reducible repeat (first | apply Kd.R_alloc | apply Kd.R_drewN | apply Kd.R_drew)); exact HO127.out) (Kd.R_base ho0) hb); have n1_ := Aside0.mk (Kd.R_elder' (by (with_reducible repeat (first | apply Kd.R_alloc | apply Kd.R_drewN | apply Kd.R_drew)); exact HO131.out) (Kd.R_base ho0) hb); have n2_ := Aside0.mk (Kd.R_lower (Kd.R_new' (Kd.R_new' ho0 (Kd.R_lt (by (with_reducible repeat (first | apply Kd.R_alloc | apply Kd.R_drewN | apply Kd.R_drew)); exact HO127.out))) (Kd.R_lt (by (with_reducible repeat (first | apply Kd.R_alloc | apply Kd.R_drewN | apply Kd.R_drew)); exact HO131.out))) (below_size (by repeat (first | (with_reducible first | exact HB.out | apply below_alloc | apply pw_below_drewN | apply below_drew1) | exact HB.out)))); have n3_ := Aside0.mk (below_step (by repeat (first | (with_reducible first | exact HB.out | apply below_alloc | apply pw_below_drewN | apply below_drew1) | exact HB.out)) hb); clear HO127; clear HO131; clear HB; have HO127 := n0_; have HO131 := n1_; have HO135 := n2_; have HB := n3_; clear n0_ n1_ n2_ n3_; (try clear hb); (try clear hb2); (try clear hk); (try clear hi); (try clear ho0)) | (go_at_call 12; (with_reducible refine (occ_At.calls _ _ l0 a1 t136 t137 _ ?side1 ?side2 ?side3 A14.out).mono ?_); (case side1 => repeat (first | exact (Kd.C_below HR0.out HB.out) | (with_reducible refine Kd.C_alloc ?_ _) | (with_reducible refine Kd.C_drewN ?_ _) | (with_reducible refine Kd.C_drew ?_))); (case side2 => exact HC0.out); (case side3 => repeat (first | exact (GH_below HG.out HB.out) | (with_reducible refine GH_alloc ?_ _) | (with_reducible refine GH_drewN ?_ _) | (with_reducible refine GH_drew ?_))); rintro e w19 ⟨rfl, hb⟩; have n0_ := Aside0.mk (Kd.R_below (by (with_reducible repeat (first | apply Kd.R_alloc | apply Kd.R_drewN | apply Kd.R_drew)); exact HO127.out) hb); have n1_ := Aside0.mk (Kd.R_below (by (with_reducible repeat (first | apply Kd.R_alloc | apply Kd.R_drewN | apply Kd.R_drew)); exact HO131.out) hb); have n2_ := Aside0.mk (Kd.R_below (by (with_reducible repeat (first | apply Kd.R_alloc | apply Kd.R_drewN | apply Kd.R_drew)); exact HO135.out) hb); have n3_ := Aside0.mk (below_step (by repeat (first | (with_reducible first | exact HB.out | apply below_alloc | apply pw_below_drewN | apply below_drew1) | exact HB.out)) hb); clear HO127; clear HO131; clear HO135; clear HB; have HO127 := n0_; have HO131 := n1_; have HO135 := n2_; have HB := n3_; clear n0_ n1_ n2_ n3_; (try clear hb); (try clear hb2); (try clear hk); (try clear hi))))
        (try simp only [Act.put, List.setIfInBounds_toArray, List.set_cons_zero, List.set_cons_succ])
        go_cut [92] (fun v92 wc => ∃ (kq : Nat) (x92_14 : Bool), v92 = .bool x92_14 ∧ Aside0 (bulkheadlaw11_OccRule.j1 kq l0 a1 t124 t128 t132 t136 x92_14 = some r) ∧ Aside0 (kq ≤ kj3) ∧ Aside0 (Kd.R (Kd.int .i64) 3 wc w.heap.size (fun k_ => some k_ ≠ (v130 : Value).ownBlock ∧ some k_ ≠ (v134 : Value).ownBlock) v126 t124) ∧ Aside0 (Kd.R (Kd.int .i64) 3 wc w.heap.size (fun k_ => some k_ ≠ (v126 : Value).ownBlock ∧ some k_ ≠ (v134 : Value).ownBlock) v130 t128) ∧ Aside0 (Kd.R (Kd.int .i64) 3 wc w.heap.size (fun k_ => some k_ ≠ (v126 : Value).ownBlock ∧ some k_ ≠ (v130 : Value).ownBlock) v134 t132) ∧ Aside0 (Below w.heap.size w wc))
        case first =>
          have H := HC15.out
          clear HC15
          by_cases c20 : t125 = 0
          · as_aux_lemma =>
            rw [if_pos c20] at H
            have c20b0 : (t125 == 0) = true := beq_iff_eq.mpr c20
            have c20b1 : (t125 != 0) = false := bne_eq_false_iff_eq.mpr c20
            clear c20
            (first | rw [c20b0] | (simp only [i64_w, i32_w]; rw [c20b0]) | skip)
            by_cases c21 : t129 = 0
            · as_aux_lemma =>
              rw [if_pos c21] at H
              have c21b0 : (t129 == 0) = true := beq_iff_eq.mpr c21
              have c21b1 : (t129 != 0) = false := bne_eq_false_iff_eq.mpr c21
              clear c21
              by_cases c22 : t133 = 0
              · as_aux_lemma =>
                rw [if_pos c22] at H
                have c22b0 : (t133 == 0) = true := beq_iff_eq.mpr c22
                have c22b1 : (t133 != 0) = false := bne_eq_false_iff_eq.mpr c22
                clear c22
                by_cases c23 : t137 = 0
                · as_aux_lemma =>
                  rw [if_pos c23] at H
                  have c23b0 : (t137 == 0) = true := beq_iff_eq.mpr c23
                  have c23b1 : (t137 != 0) = false := bne_eq_false_iff_eq.mpr c23
                  clear c23
                  by_cases c24 : (t124.length : Int) = (l0.length : Int)
                  · as_aux_lemma =>
                    rw [if_pos c24] at H
                    have c24b0 : ((t124.length : Int) == (l0.length : Int)) = true := beq_iff_eq.mpr c24
                    have c24b1 : ((t124.length : Int) != (l0.length : Int)) = false := bne_eq_false_iff_eq.mpr c24
                    have c24b2 : (t124.length == l0.length) = true := by first | simpa using c24 | (simp at c24 ⊢; omega)
                    clear c24
                    by_cases c25 : (t128.length : Int) = (l0.length : Int)
                    · as_aux_lemma =>
                      rw [if_pos c25] at H
                      have c25b0 : ((t128.length : Int) == (l0.length : Int)) = true := beq_iff_eq.mpr c25
                      have c25b1 : ((t128.length : Int) != (l0.length : Int)) = false := bne_eq_false_iff_eq.mpr c25
                      have c25b2 : (t128.length == l0.length) = true := by first | simpa using c25 | (simp at c25 ⊢; omega)
                      clear c25
                      have H' := Aside0.mk H
                      clear H
                      obtain ⟨Ao26, co26, eo26⟩ := Kd.R_slice HO127.out
                      subst eo26
                      obtain ⟨Ao27, co27, eo27⟩ := Kd.R_slice HO131.out
                      subst eo27
                      obtain ⟨Ao28, co28, eo28⟩ := Kd.R_slice HO135.out
                      subst eo28
                      go_wp2
                      repeat (go_quiet (fail); try go_wp2)
                      go_meet
                      case rel => exact ⟨_, (((t132.length : Int) != (l0.length : Int))), (by first | rfl | (simp; done) | (simp [*]; done)), H', ⟨by have := HJ3.out; first | omega | exact Nat.le_refl _⟩, ⟨by (with_reducible repeat (first | apply Kd.R_alloc | apply Kd.R_drewN | apply Kd.R_drew)); exact Kd.R_mono HO127.out (fun _ hk => ⟨hk.1.2, hk.2⟩)⟩, ⟨by (with_reducible repeat (first | apply Kd.R_alloc | apply Kd.R_drewN | apply Kd.R_drew)); exact Kd.R_mono HO131.out (fun _ hk => ⟨hk.1.2, hk.2⟩)⟩, ⟨by (with_reducible repeat (first | apply Kd.R_alloc | apply Kd.R_drewN | apply Kd.R_drew)); exact Kd.R_mono HO135.out (fun _ hk => ⟨hk.1.2, hk.2⟩)⟩, ⟨by repeat (first | (with_reducible first | exact HB.out | apply below_alloc | apply pw_below_drewN | apply below_drew1) | exact HB.out)⟩⟩
                    · as_aux_lemma =>
                      rw [if_neg c25] at H
                      have c25b0 : ((t128.length : Int) == (l0.length : Int)) = false := beq_eq_false_iff_ne.mpr c25
                      have c25b1 : ((t128.length : Int) != (l0.length : Int)) = true := bne_iff_ne.mpr c25
                      have c25b2 : (t128.length == l0.length) = false := by first | simpa using c25 | (simp at c25 ⊢; omega)
                      have H' := Aside0.mk H
                      clear H
                      obtain ⟨Ao29, co29, eo29⟩ := Kd.R_slice HO127.out
                      subst eo29
                      obtain ⟨Ao30, co30, eo30⟩ := Kd.R_slice HO131.out
                      subst eo30
                      go_wp2
                      repeat (go_quiet (fail); try go_wp2)
                      go_meet
                      case rel => exact ⟨_, (true), (by first | rfl | (simp; done) | (simp [*]; done)), H', ⟨by have := HJ3.out; first | omega | exact Nat.le_refl _⟩, ⟨by (with_reducible repeat (first | apply Kd.R_alloc | apply Kd.R_drewN | apply Kd.R_drew)); exact Kd.R_mono HO127.out (fun _ hk => ⟨hk.1.2, hk.2⟩)⟩, ⟨by (with_reducible repeat (first | apply Kd.R_alloc | apply Kd.R_drewN | apply Kd.R_drew)); exact Kd.R_mono HO131.out (fun _ hk => ⟨hk.1.2, hk.2⟩)⟩, ⟨by (with_reducible repeat (first | apply Kd.R_alloc | apply Kd.R_drewN | apply Kd.R_drew)); exact Kd.R_mono HO135.out (fun _ hk => ⟨hk.1.2, hk.2⟩)⟩, ⟨by repeat (first | (with_reducible first | exact HB.out | apply below_alloc | apply pw_below_drewN | apply below_drew1) | exact HB.out)⟩⟩
                  · as_aux_lemma =>
                    rw [if_neg c24] at H
                    have c24b0 : ((t124.length : Int) == (l0.length : Int)) = false := beq_eq_false_iff_ne.mpr c24
                    have c24b1 : ((t124.length : Int) != (l0.length : Int)) = true := bne_iff_ne.mpr c24
                    have c24b2 : (t124.length == l0.length) = false := by first | simpa using c24 | (simp at c24 ⊢; omega)
                    have H' := Aside0.mk H
                    clear H
                    obtain ⟨Ao31, co31, eo31⟩ := Kd.R_slice HO127.out
                    subst eo31
                    go_wp2
                    repeat (go_quiet (fail); try go_wp2)
                    go_meet
                    case rel => exact ⟨_, (true), (by first | rfl | (simp; done) | (simp [*]; done)), H', ⟨by have := HJ3.out; first | omega | exact Nat.le_refl _⟩, ⟨by (with_reducible repeat (first | apply Kd.R_alloc | apply Kd.R_drewN | apply Kd.R_drew)); exact Kd.R_mono HO127.out (fun _ hk => ⟨hk.1.2, hk.2⟩)⟩, ⟨by (with_reducible repeat (first | apply Kd.R_alloc | apply Kd.R_drewN | apply Kd.R_drew)); exact Kd.R_mono HO131.out (fun _ hk => ⟨hk.1.2, hk.2⟩)⟩, ⟨by (with_reducible repeat (first | apply Kd.R_alloc | apply Kd.R_drewN | apply Kd.R_drew)); exact Kd.R_mono HO135.out (fun _ hk => ⟨hk.1.2, hk.2⟩)⟩, ⟨by repeat (first | (with_reducible first | exact HB.out | apply below_alloc | apply pw_below_drewN | apply below_drew1) | exact HB.out)⟩⟩
                · as_aux_lemma =>
                  rw [if_neg c23] at H
                  have c23b0 : (t137 == 0) = false := beq_eq_false_iff_ne.mpr c23
                  have c23b1 : (t137 != 0) = true := bne_iff_ne.mpr c23
                  have H' := Aside0.mk H
                  clear H
                  go_wp2
                  repeat (go_quiet (fail); try go_wp2)
                  go_meet
                  case rel => exact ⟨_, (true), (by first | rfl | (simp; done) | (simp [*]; done)), H', ⟨by have := HJ3.out; first | omega | exact Nat.le_refl _⟩, ⟨by (with_reducible repeat (first | apply Kd.R_alloc | apply Kd.R_drewN | apply Kd.R_drew)); exact Kd.R_mono HO127.out (fun _ hk => ⟨hk.1.2, hk.2⟩)⟩, ⟨by (with_reducible repeat (first | apply Kd.R_alloc | apply Kd.R_drewN | apply Kd.R_drew)); exact Kd.R_mono HO131.out (fun _ hk => ⟨hk.1.2, hk.2⟩)⟩, ⟨by (with_reducible repeat (first | apply Kd.R_alloc | apply Kd.R_drewN | apply Kd.R_drew)); exact Kd.R_mono HO135.out (fun _ hk => ⟨hk.1.2, hk.2⟩)⟩, ⟨by repeat (first | (with_reducible first | exact HB.out | apply below_alloc | apply pw_below_drewN | apply below_drew1) | exact HB.out)⟩⟩
              · as_aux_lemma =>
                rw [if_neg c22] at H
                have c22b0 : (t133 == 0) = false := beq_eq_false_iff_ne.mpr c22
                have c22b1 : (t133 != 0) = true := bne_iff_ne.mpr c22
                have H' := Aside0.mk H
                clear H
                go_wp2
                repeat (go_quiet (fail); try go_wp2)
                go_meet
                case rel => exact ⟨_, (true), (by first | rfl | (simp; done) | (simp [*]; done)), H', ⟨by have := HJ3.out; first | omega | exact Nat.le_refl _⟩, ⟨by (with_reducible repeat (first | apply Kd.R_alloc | apply Kd.R_drewN | apply Kd.R_drew)); exact Kd.R_mono HO127.out (fun _ hk => ⟨hk.1.2, hk.2⟩)⟩, ⟨by (with_reducible repeat (first | apply Kd.R_alloc | apply Kd.R_drewN | apply Kd.R_drew)); exact Kd.R_mono HO131.out (fun _ hk => ⟨hk.1.2, hk.2⟩)⟩, ⟨by (with_reducible repeat (first | apply Kd.R_alloc | apply Kd.R_drewN | apply Kd.R_drew)); exact Kd.R_mono HO135.out (fun _ hk => ⟨hk.1.2, hk.2⟩)⟩, ⟨by repeat (first | (with_reducible first | exact HB.out | apply below_alloc | apply pw_below_drewN | apply below_drew1) | exact HB.out)⟩⟩
            · as_aux_lemma =>
              rw [if_neg c21] at H
              have c21b0 : (t129 == 0) = false := beq_eq_false_iff_ne.mpr c21
              have c21b1 : (t129 != 0) = true := bne_iff_ne.mpr c21
              have H' := Aside0.mk H
              clear H
              go_wp2
              repeat (go_quiet (fail); try go_wp2)
              go_meet
              case rel => exact ⟨_, (true), (by first | rfl | (simp; done) | (simp [*]; done)), H', ⟨by have := HJ3.out; first | omega | exact Nat.le_refl _⟩, ⟨by (with_reducible repeat (first | apply Kd.R_alloc | apply Kd.R_drewN | apply Kd.R_drew)); exact Kd.R_mono HO127.out (fun _ hk => ⟨hk.1.2, hk.2⟩)⟩, ⟨by (with_reducible repeat (first | apply Kd.R_alloc | apply Kd.R_drewN | apply Kd.R_drew)); exact Kd.R_mono HO131.out (fun _ hk => ⟨hk.1.2, hk.2⟩)⟩, ⟨by (with_reducible repeat (first | apply Kd.R_alloc | apply Kd.R_drewN | apply Kd.R_drew)); exact Kd.R_mono HO135.out (fun _ hk => ⟨hk.1.2, hk.2⟩)⟩, ⟨by repeat (first | (with_reducible first | exact HB.out | apply below_alloc | apply pw_below_drewN | apply below_drew1) | exact HB.out)⟩⟩
          · as_aux_lemma =>
            rw [if_neg c20] at H
            have c20b0 : (t125 == 0) = false := beq_eq_false_iff_ne.mpr c20
            have c20b1 : (t125 != 0) = true := bne_iff_ne.mpr c20
            (first | rw [c20b0] | (simp only [i64_w, i32_w]; rw [c20b0]) | skip)
            have H' := Aside0.mk H
            clear H
            go_wp2
            repeat (go_quiet (fail); try go_wp2)
            go_meet
            case rel => exact ⟨_, (true), (by first | rfl | (simp; done) | (simp [*]; done)), H', ⟨by have := HJ3.out; first | omega | exact Nat.le_refl _⟩, ⟨by (with_reducible repeat (first | apply Kd.R_alloc | apply Kd.R_drewN | apply Kd.R_drew)); exact Kd.R_mono HO127.out (fun _ hk => ⟨hk.1.2, hk.2⟩)⟩, ⟨by (with_reducible repeat (first | apply Kd.R_alloc | apply Kd.R_drewN | apply Kd.R_drew)); exact Kd.R_mono HO131.out (fun _ hk => ⟨hk.1.2, hk.2⟩)⟩, ⟨by (with_reducible repeat (first | apply Kd.R_alloc | apply Kd.R_drewN | apply Kd.R_drew)); exact Kd.R_mono HO135.out (fun _ hk => ⟨hk.1.2, hk.2⟩)⟩, ⟨by repeat (first | (with_reducible first | exact HB.out | apply below_alloc | apply pw_below_drewN | apply below_drew1) | exact HB.out)⟩⟩
        case rest =>
          clear HC15
          try clear c2
          try clear p2
          try clear c6
          try clear c6b0
          try clear c6b1
          try clear p6
          try clear c7
          try clear c7b0
          try clear c8
          try clear c20
          try clear c20b0
          try clear c20b1
          try clear c21
          try clear c21b0
          try clear c21b1
          try clear c22
          try clear c22b0
          try clear c22b1
          try clear c23
          try clear c23b0
          try clear c23b1
          try clear c24
          try clear c24b0
          try clear c24b1
          try clear c24b2
          try clear c25
          try clear c25b0
          try clear c25b1
          try clear c25b2
          try clear p2
          obtain ⟨kq, x92_14, rfl, HA, HJ14, HO_7, HO_9, HO_11, HB⟩ := hcut
          cases kq with
          | zero => exact absurd HA.out (by simp [bulkheadlaw11_OccRule.j1])
          | succ kj14 =>
            have H := HA.out
            clear HA
            simp only [bulkheadlaw11_OccRule.j1] at H
            by_cases c32 : x92_14 = true
            · subst c32
              have H1 : (some false) = some r := by rw [if_pos rfl] at H; exact H
              clear H
              have H := H1
              clear H1
              obtain rfl := Option.some.inj H
              go_wp2
              repeat (go_quiet (fail); try go_wp2)
              go_ret
              exact ⟨by first | rfl | (simp [errW_none, errW_some] <;> rfl) | (simp [*, errW_none, errW_some] <;> rfl), by repeat (first | (with_reducible first | exact HB.out | apply below_alloc | apply pw_below_drewN | apply below_drew1) | exact HB.out)⟩
            · replace c32 := Bool.eq_false_iff.mpr c32
              subst c32
              have H1 : ((bulkheadlaw11_chosen.f kj14 l0 t128).bind fun t138 => (if t136 = t138 then (bulkheadlaw11_OccRule.l0 kj14 l0 a1 t124 t128 t132 t136 0) else (some false))) = some r := by rw [if_neg (show ¬ (false = true) by decide)] at H; exact H
              clear H
              have H := H1
              clear H1
              replace H := Option.bind_eq_some_iff.mp H
              obtain ⟨t138, A330, H⟩ := H
              replace H : (if t136 = t138 then (bulkheadlaw11_OccRule.l0 kj14 l0 a1 t124 t128 t132 t136 0) else (some false)) = some r := H
              have A33 := Aside0.mk A330
              clear A330
              by_cases c34 : t136 = t138
              · as_aux_lemma =>
                rw [if_pos c34] at H
                have c34b0 : (t136 == t138) = true := beq_iff_eq.mpr c34
                have c34b1 : (t136 != t138) = false := bne_eq_false_iff_eq.mpr c34
                clear c34
                have H' := Aside0.mk H
                clear H
                obtain ⟨Ao35, co35, eo35⟩ := Kd.R_slice HO_9.out
                subst eo35
                go_wp2_with (first | (go_at_call 23; (with_reducible refine (bulkheadlaw11_chosen.calls kj14 _ _ l0 _ _ t128 t138 _ ?side1 ?side2 ?side3 ?side4 A33.out).mono ?_); (case side1 => repeat (first | exact (Kd.C_below HR0.out HB.out) | (with_reducible refine Kd.C_alloc ?_ _) | (with_reducible refine Kd.C_drewN ?_ _) | (with_reducible refine Kd.C_drew ?_))); (case side2 => exact HC0.out); (case side3 => repeat (first | exact (Kd.R_reads' HO_9.out).2.2 | (with_reducible refine Kd.C_alloc ?_ _) | (with_reducible refine Kd.C_drewN ?_ _) | (with_reducible refine Kd.C_drew ?_))); (case side4 => exact (Kd.R_reads' HO_9.out).2.1); rintro e w' ⟨rfl, ⟨nd, rfl⟩⟩; (try first | exact ⟨rfl, _, World.drewN_drewN _ _ _⟩ | exact ⟨rfl, _, Eq.trans (World.drewN_drewN _ _ _) (congrArg (World.drewN _) (Nat.add_assoc _ _ _))⟩)))
                repeat (go_quiet (first | (go_at_call 23; (with_reducible refine (bulkheadlaw11_chosen.calls kj14 _ _ l0 _ _ t128 t138 _ ?side1 ?side2 ?side3 ?side4 A33.out).mono ?_); (case side1 => repeat (first | exact (Kd.C_below HR0.out HB.out) | (with_reducible refine Kd.C_alloc ?_ _) | (with_reducible refine Kd.C_drewN ?_ _) | (with_reducible refine Kd.C_drew ?_))); (case side2 => exact HC0.out); (case side3 => repeat (first | exact (Kd.R_reads' HO_9.out).2.2 | (with_reducible refine Kd.C_alloc ?_ _) | (with_reducible refine Kd.C_drewN ?_ _) | (with_reducible refine Kd.C_drew ?_))); (case side4 => exact (Kd.R_reads' HO_9.out).2.1); rintro e w' ⟨rfl, ⟨nd, rfl⟩⟩; (try first | exact ⟨rfl, _, World.drewN_drewN _ _ _⟩ | exact ⟨rfl, _, Eq.trans (World.drewN_drewN _ _ _) (congrArg (World.drewN _) (Nat.add_assoc _ _ _))⟩))); try go_wp2_with (first | (go_at_call 23; (with_reducible refine (bulkheadlaw11_chosen.calls kj14 _ _ l0 _ _ t128 t138 _ ?side1 ?side2 ?side3 ?side4 A33.out).mono ?_); (case side1 => repeat (first | exact (Kd.C_below HR0.out HB.out) | (with_reducible refine Kd.C_alloc ?_ _) | (with_reducible refine Kd.C_drewN ?_ _) | (with_reducible refine Kd.C_drew ?_))); (case side2 => exact HC0.out); (case side3 => repeat (first | exact (Kd.R_reads' HO_9.out).2.2 | (with_reducible refine Kd.C_alloc ?_ _) | (with_reducible refine Kd.C_drewN ?_ _) | (with_reducible refine Kd.C_drew ?_))); (case side4 => exact (Kd.R_reads' HO_9.out).2.1); rintro e w' ⟨rfl, ⟨nd, rfl⟩⟩; (try first | exact ⟨rfl, _, World.drewN_drewN _ _ _⟩ | exact ⟨rfl, _, Eq.trans (World.drewN_drewN _ _ _) (congrArg (World.drewN _) (Nat.add_assoc _ _ _))⟩))))
                go_loopg [15] kj14 (fun kq v15 w' => ∃ (x15_3 : Int), v15 = .int .i64 x15_3 ∧ Aside0 (bulkheadlaw11_OccRule.l0 kq l0 a1 t124 t128 t132 t136 x15_3 = some r) ∧ Aside0 (kq ≤ kj14) ∧ Aside0 (Kd.R (Kd.int .i64) 3 w' w.heap.size (fun k_ => some k_ ≠ ((.slice Ao35 t128.length co35) : Value).ownBlock ∧ some k_ ≠ (v134 : Value).ownBlock) v126 t124) ∧ Aside0 (Kd.R (Kd.int .i64) 3 w' w.heap.size (fun k_ => some k_ ≠ (v126 : Value).ownBlock ∧ some k_ ≠ (v134 : Value).ownBlock) (.slice Ao35 t128.length co35) t128) ∧ Aside0 (Kd.R (Kd.int .i64) 3 w' w.heap.size (fun k_ => some k_ ≠ (v126 : Value).ownBlock ∧ some k_ ≠ ((.slice Ao35 t128.length co35) : Value).ownBlock) v134 t132) ∧ Aside0 (Below w.heap.size w w'))
                case atStart => exact ⟨(0), (by first | rfl | (simp; done) | (simp [*]; done)), H', ⟨Nat.le_refl _⟩, ⟨by (with_reducible repeat (first | apply Kd.R_alloc | apply Kd.R_drewN | apply Kd.R_drew)); exact HO_7.out⟩, ⟨by (with_reducible repeat (first | apply Kd.R_alloc | apply Kd.R_drewN | apply Kd.R_drew)); exact HO_9.out⟩, ⟨by (with_reducible repeat (first | apply Kd.R_alloc | apply Kd.R_drewN | apply Kd.R_drew)); exact HO_11.out⟩, ⟨by repeat (first | (with_reducible first | exact HB.out | apply below_alloc | apply pw_below_drewN | apply below_drew1) | exact HB.out)⟩⟩
                case round =>
                  clear H'
                  try clear c2
                  try clear p2
                  try clear c3
                  try clear c6
                  try clear c6b0
                  try clear c6b1
                  try clear p6
                  try clear c7
                  try clear c7b0
                  try clear c8
                  try clear c20
                  try clear c20b0
                  try clear c20b1
                  try clear c21
                  try clear c21b0
                  try clear c21b1
                  try clear c22
                  try clear c22b0
                  try clear c22b1
                  try clear c23
                  try clear c23b0
                  try clear c23b1
                  try clear c24
                  try clear c24b0
                  try clear c24b1
                  try clear c24b2
                  try clear c25
                  try clear c25b0
                  try clear c25b1
                  try clear c25b2
                  try clear c32
                  try clear c34
                  try clear c34b0
                  try clear c34b1
                  try clear p2
                  try clear p6
                  obtain ⟨x15_3, rfl, HA, HK3, HO_7, HO_9, HO_11, HB⟩ := hrel
                  cases gk with
                  | zero => exact absurd HA.out (by simp [bulkheadlaw11_OccRule.l0])
                  | succ k3 =>
                    have H := HA.out
                    clear HA
                    simp only [bulkheadlaw11_OccRule.l0] at H
                    by_cases c36 : x15_3 < (l0.length : Int)
                    · as_aux_lemma =>
                      rw [if_pos c36] at H
                      have c36b0 : decide (x15_3 < (l0.length : Int)) = true := decide_eq_true c36
                      clear c36
                      by_cases c37 : 0 ≤ x15_3
                      · as_aux_lemma =>
                        rw [if_pos c37] at H
                        have c37b0 : decide (0 ≤ x15_3) = true := decide_eq_true c37
                        clear c37
                        have HC38 := Aside0.mk H
                        clear H
                        have p140 : 0 ≤ (x15_3 : Int) := of_decide_eq_true (by first | (with_reducible assumption) | assumption)
                        have q140 : x15_3 < (l0.length : Int) := of_decide_eq_true (by first | (with_reducible assumption) | assumption)
                        obtain ⟨ad140, e140, hx140_0, hx140_1, hx140_2, hx140_3⟩ := at_T30 HR0.out x15_3 p140 q140
                        cases e140
                        replace hx140_0 := (HB.out.cell (World.block_lt_of_cell? w _ hx140_0)).trans hx140_0
                        replace hx140_1 := (HB.out.cell (World.block_lt_of_cell? w _ hx140_1)).trans hx140_1
                        replace hx140_2 := (HB.out.cell (World.block_lt_of_cell? w _ hx140_2)).trans hx140_2
                        replace hx140_3 := (HB.out.cell (World.block_lt_of_cell? w _ hx140_3)).trans hx140_3
                        replace p140 := eq_true p140
                        replace q140 := eq_true q140
                        go_upto_region 16 with (first | ((with_reducible refine gate_dst (N := 16) rfl ?_); (try (refine gate_guard (by rfl) ?_; dsimp only)); refine box_event ?hg (N := 16) ?hd (cs := #[.int .i64 0, .int .i64 0, .int .i64 0, .int .i64 0]) (t := 30) ?hr ?_; (case hd => rfl); (case hg => rfl); (case hr => first | (go_simp; done) | (go_simp; rfl)); intro gb141 hg w39 hbox hb; have n0_ := Aside0.mk (Kd.R_below (by (with_reducible repeat (first | apply Kd.R_alloc | apply Kd.R_drewN | apply Kd.R_drew)); exact HO_7.out) hb); have n1_ := Aside0.mk (Kd.R_below (by (with_reducible repeat (first | apply Kd.R_alloc | apply Kd.R_drewN | apply Kd.R_drew)); exact HO_9.out) hb); have n2_ := Aside0.mk (Kd.R_below (by (with_reducible repeat (first | apply Kd.R_alloc | apply Kd.R_drewN | apply Kd.R_drew)); exact HO_11.out) hb); have n3_ := Aside0.mk (below_step (by repeat (first | (with_reducible first | exact HB.out | apply below_alloc | apply pw_below_drewN | apply below_drew1) | exact HB.out)) hb); have n4_ := Aside0.mk (hbox); have n5_ := Aside0.mk ((by rw [hg]; exact (below_size (by repeat (first | (with_reducible first | exact HB.out | apply below_alloc | apply pw_below_drewN | apply below_drew1) | exact HB.out))) : w.heap.size ≤ gb141)); have n6_ := Aside0.mk ((by rw [hg]; exact (below_size (by repeat (first | (with_reducible first | exact HB.out | apply below_alloc | apply pw_below_drewN | apply below_drew1) | exact HB.out))) : w.heap.size ≤ gb141)); clear HO_7; clear HO_9; clear HO_11; clear HB; have HO_7 := n0_; have HO_9 := n1_; have HO_11 := n2_; have HB := n3_; have BK141 := n4_; have GW141 := n5_; have GE141 := n6_; clear n0_ n1_ n2_ n3_ n4_ n5_ n6_; clear hb hbox hg; have hcz40_0 : w39.cell? ⟨gb141, 0, none⟩ = some (.int .i64 0) := (blk_cell BK141.out 0).trans rfl; have hcz40_1 : w39.cell? ⟨gb141, 1, none⟩ = some (.int .i64 0) := (blk_cell BK141.out 1).trans rfl; have hcz40_2 : w39.cell? ⟨gb141, 2, none⟩ = some (.int .i64 0) := (blk_cell BK141.out 2).trans rfl; have hcz40_3 : w39.cell? ⟨gb141, 3, none⟩ = some (.int .i64 0) := (blk_cell BK141.out 3).trans rfl; have hfz40_0 := blk_frozen BK141.out 0; have hfz40_1 := blk_frozen BK141.out 1; have hfz40_2 := blk_frozen BK141.out 2; have hfz40_3 := blk_frozen BK141.out 3))
                        repeat (go_quiet (first | ((with_reducible refine gate_dst (N := 16) rfl ?_); (try (refine gate_guard (by rfl) ?_; dsimp only)); refine box_event ?hg (N := 16) ?hd (cs := #[.int .i64 0, .int .i64 0, .int .i64 0, .int .i64 0]) (t := 30) ?hr ?_; (case hd => rfl); (case hg => rfl); (case hr => first | (go_simp; done) | (go_simp; rfl)); intro gb141 hg w39 hbox hb; have n0_ := Aside0.mk (Kd.R_below (by (with_reducible repeat (first | apply Kd.R_alloc | apply Kd.R_drewN | apply Kd.R_drew)); exact HO_7.out) hb); have n1_ := Aside0.mk (Kd.R_below (by (with_reducible repeat (first | apply Kd.R_alloc | apply Kd.R_drewN | apply Kd.R_drew)); exact HO_9.out) hb); have n2_ := Aside0.mk (Kd.R_below (by (with_reducible repeat (first | apply Kd.R_alloc | apply Kd.R_drewN | apply Kd.R_drew)); exact HO_11.out) hb); have n3_ := Aside0.mk (below_step (by repeat (first | (with_reducible first | exact HB.out | apply below_alloc | apply pw_below_drewN | apply below_drew1) | exact HB.out)) hb); have n4_ := Aside0.mk (hbox); have n5_ := Aside0.mk ((by rw [hg]; exact (below_size (by repeat (first | (with_reducible first | exact HB.out | apply below_alloc | apply pw_below_drewN | apply below_drew1) | exact HB.out))) : w.heap.size ≤ gb141)); have n6_ := Aside0.mk ((by rw [hg]; exact (below_size (by repeat (first | (with_reducible first | exact HB.out | apply below_alloc | apply pw_below_drewN | apply below_drew1) | exact HB.out))) : w.heap.size ≤ gb141)); clear HO_7; clear HO_9; clear HO_11; clear HB; have HO_7 := n0_; have HO_9 := n1_; have HO_11 := n2_; have HB := n3_; have BK141 := n4_; have GW141 := n5_; have GE141 := n6_; clear n0_ n1_ n2_ n3_ n4_ n5_ n6_; clear hb hbox hg; have hcz40_0 : w39.cell? ⟨gb141, 0, none⟩ = some (.int .i64 0) := (blk_cell BK141.out 0).trans rfl; have hcz40_1 : w39.cell? ⟨gb141, 1, none⟩ = some (.int .i64 0) := (blk_cell BK141.out 1).trans rfl; have hcz40_2 : w39.cell? ⟨gb141, 2, none⟩ = some (.int .i64 0) := (blk_cell BK141.out 2).trans rfl; have hcz40_3 : w39.cell? ⟨gb141, 3, none⟩ = some (.int .i64 0) := (blk_cell BK141.out 3).trans rfl; have hfz40_0 := blk_frozen BK141.out 0; have hfz40_1 := blk_frozen BK141.out 1; have hfz40_2 := blk_frozen BK141.out 2; have hfz40_3 := blk_frozen BK141.out 3)); go_upto_region 16 with (first | ((with_reducible refine gate_dst (N := 16) rfl ?_); (try (refine gate_guard (by rfl) ?_; dsimp only)); refine box_event ?hg (N := 16) ?hd (cs := #[.int .i64 0, .int .i64 0, .int .i64 0, .int .i64 0]) (t := 30) ?hr ?_; (case hd => rfl); (case hg => rfl); (case hr => first | (go_simp; done) | (go_simp; rfl)); intro gb141 hg w39 hbox hb; have n0_ := Aside0.mk (Kd.R_below (by (with_reducible repeat (first | apply Kd.R_alloc | apply Kd.R_drewN | apply Kd.R_drew)); exact HO_7.out) hb); have n1_ := Aside0.mk (Kd.R_below (by (with_reducible repeat (first | apply Kd.R_alloc | apply Kd.R_drewN | apply Kd.R_drew)); exact HO_9.out) hb); have n2_ := Aside0.mk (Kd.R_below (by (with_reducible repeat (first | apply Kd.R_alloc | apply Kd.R_drewN | apply Kd.R_drew)); exact HO_11.out) hb); have n3_ := Aside0.mk (below_step (by repeat (first | (with_reducible first | exact HB.out | apply below_alloc | apply pw_below_drewN | apply below_drew1) | exact HB.out)) hb); have n4_ := Aside0.mk (hbox); have n5_ := Aside0.mk ((by rw [hg]; exact (below_size (by repeat (first | (with_reducible first | exact HB.out | apply below_alloc | apply pw_below_drewN | apply below_drew1) | exact HB.out))) : w.heap.size ≤ gb141)); have n6_ := Aside0.mk ((by rw [hg]; exact (below_size (by repeat (first | (with_reducible first | exact HB.out | apply below_alloc | apply pw_below_drewN | apply below_drew1) | exact HB.out))) : w.heap.size ≤ gb141)); clear HO_7; clear HO_9; clear HO_11; clear HB; have HO_7 := n0_; have HO_9 := n1_; have HO_11 := n2_; have HB := n3_; have BK141 := n4_; have GW141 := n5_; have GE141 := n6_; clear n0_ n1_ n2_ n3_ n4_ n5_ n6_; clear hb hbox hg; have hcz40_0 : w39.cell? ⟨gb141, 0, none⟩ = some (.int .i64 0) := (blk_cell BK141.out 0).trans rfl; have hcz40_1 : w39.cell? ⟨gb141, 1, none⟩ = some (.int .i64 0) := (blk_cell BK141.out 1).trans rfl; have hcz40_2 : w39.cell? ⟨gb141, 2, none⟩ = some (.int .i64 0) := (blk_cell BK141.out 2).trans rfl; have hcz40_3 : w39.cell? ⟨gb141, 3, none⟩ = some (.int .i64 0) := (blk_cell BK141.out 3).trans rfl; have hfz40_0 := blk_frozen BK141.out 0; have hfz40_1 := blk_frozen BK141.out 1; have hfz40_2 := blk_frozen BK141.out 2; have hfz40_3 := blk_frozen BK141.out 3)))
                        (try simp only [Act.put, List.setIfInBounds_toArray, List.set_cons_zero, List.set_cons_succ])
                        go_cut [131] (fun v131 wc => ∃ (kq : Nat) (x131_37 : Bool), v131 = .bool x131_37 ∧ Aside0 (bulkheadlaw11_OccRule.j3 kq l0 a1 t124 t128 t132 t136 x15_3 x131_37 ((rd_T30 l0 x15_3).f0) ((rd_T30 l0 x15_3).f1) ((rd_T30 l0 x15_3).f2) ((rd_T30 l0 x15_3).f3) = some r) ∧ Aside0 (kq ≤ k3) ∧ Aside0 (Kd.R (Kd.int .i64) 3 wc w.heap.size (fun k_ => some k_ ≠ ((.slice Ao35 t128.length co35) : Value).ownBlock ∧ some k_ ≠ (v134 : Value).ownBlock) v126 t124) ∧ Aside0 (Kd.R (Kd.int .i64) 3 wc w.heap.size (fun k_ => some k_ ≠ (v126 : Value).ownBlock ∧ some k_ ≠ (v134 : Value).ownBlock) (.slice Ao35 t128.length co35) t128) ∧ Aside0 (Kd.R (Kd.int .i64) 3 wc w.heap.size (fun k_ => some k_ ≠ (v126 : Value).ownBlock ∧ some k_ ≠ ((.slice Ao35 t128.length co35) : Value).ownBlock) v134 t132) ∧ Aside0 (wc.heap[gb141]? = some (.cells #[.int .i64 ((rd_T30 l0 x15_3).f0), .int .i64 ((rd_T30 l0 x15_3).f1), .int .i64 ((rd_T30 l0 x15_3).f2), .int .i64 ((rd_T30 l0 x15_3).f3)] 30 (0, 0))) ∧ Aside0 (Below w.heap.size w wc))
                        case first =>
                          have H := HC38.out
                          clear HC38
                          by_cases c41 : ((rd_T30 l0 x15_3).f2) = 0
                          · as_aux_lemma =>
                            rw [if_pos c41] at H
                            have c41b0 : (((rd_T30 l0 x15_3).f2) == 0) = true := beq_iff_eq.mpr c41
                            have c41b1 : (((rd_T30 l0 x15_3).f2) != 0) = false := bne_eq_false_iff_eq.mpr c41
                            clear c41
                            (first | rw [c41b0] | (simp only [i64_w, i32_w]; rw [c41b0]) | skip)
                            by_cases c42 : x15_3 < (t124.length : Int)
                            · as_aux_lemma =>
                              rw [if_pos c42] at H
                              have c42b0 : decide (x15_3 < (t124.length : Int)) = true := decide_eq_true c42
                              clear c42
                              by_cases c43 : (rd t124 x15_3) = ((rd_T30 l0 x15_3).f1)
                              · as_aux_lemma =>
                                rw [if_pos c43] at H
                                have c43b0 : ((rd t124 x15_3) == ((rd_T30 l0 x15_3).f1)) = true := beq_iff_eq.mpr c43
                                have c43b1 : ((rd t124 x15_3) != ((rd_T30 l0 x15_3).f1)) = false := bne_eq_false_iff_eq.mpr c43
                                clear c43
                                by_cases c44 : ((rd_T30 l0 x15_3).f2) > 0
                                · as_aux_lemma =>
                                  rw [if_pos c44] at H
                                  have c44b0 : decide (0 < ((rd_T30 l0 x15_3).f2)) = true := decide_eq_true c44
                                  clear c44
                                  have H' := Aside0.mk H
                                  clear H
                                  have hcz45_0 : w39.cell? ⟨gb141, 0, none⟩ = some (.int .i64 0) := (blk_cell BK141.out 0).trans rfl
                                  have hcz45_1 : w39.cell? ⟨gb141, 1, none⟩ = some (.int .i64 0) := (blk_cell BK141.out 1).trans rfl
                                  have hcz45_2 : w39.cell? ⟨gb141, 2, none⟩ = some (.int .i64 0) := (blk_cell BK141.out 2).trans rfl
                                  have hcz45_3 : w39.cell? ⟨gb141, 3, none⟩ = some (.int .i64 0) := (blk_cell BK141.out 3).trans rfl
                                  have hfz45_0 := blk_frozen BK141.out 0
                                  have hfz45_1 := blk_frozen BK141.out 1
                                  have hfz45_2 := blk_frozen BK141.out 2
                                  have hfz45_3 := blk_frozen BK141.out 3
                                  obtain ⟨Ao46, co46, eo46⟩ := Kd.R_slice HO_7.out
                                  subst eo46
                                  have p142 : 0 ≤ (x15_3 : Int) := of_decide_eq_true (by first | (with_reducible assumption) | assumption)
                                  have q142 : x15_3 < (t124.length : Int) := of_decide_eq_true (by first | (with_reducible assumption) | assumption)
                                  obtain ⟨ad142, e142, hx142_0⟩ := Kd.at_int (Kd.R_reads' HO_7.out).2.2 x15_3 p142 q142
                                  cases e142
                                  have hn142_0 : ad142.block ≠ gb141 := Kd.own_blk (Kd.R_ne HO_7.out BK141.out (by decide))
                                  have hn142_1 : ad142.block ≠ gb141 := Kd.own_blk (Kd.R_ne HO_7.out BK141.out (by decide))
                                  have hn142_2 : ad142.block ≠ gb141 := Kd.own_blk (Kd.R_ne HO_7.out BK141.out (by decide))
                                  have hn142_3 : ad142.block ≠ gb141 := Kd.own_blk (Kd.R_ne HO_7.out BK141.out (by decide))
                                  replace hx142_0 := (cell_far (p := ⟨gb141, 0, none⟩) (by first | (rw [add_block]; exact hn142_0) | (show (Addr.add _ _).block ≠ _; rw [add_block]; exact hn142_0) | exact hn142_0) (.int .i64 ((rd_T30 l0 x15_3).f0))).trans hx142_0
                                  replace hx142_0 := (cell_far (p := ⟨gb141, 1, none⟩) (by first | (rw [add_block]; exact hn142_1) | (show (Addr.add _ _).block ≠ _; rw [add_block]; exact hn142_1) | exact hn142_1) (.int .i64 ((rd_T30 l0 x15_3).f1))).trans hx142_0
                                  replace hx142_0 := (cell_far (p := ⟨gb141, 2, none⟩) (by first | (rw [add_block]; exact hn142_2) | (show (Addr.add _ _).block ≠ _; rw [add_block]; exact hn142_2) | exact hn142_2) (.int .i64 ((rd_T30 l0 x15_3).f2))).trans hx142_0
                                  replace hx142_0 := (cell_far (p := ⟨gb141, 3, none⟩) (by first | (rw [add_block]; exact hn142_3) | (show (Addr.add _ _).block ≠ _; rw [add_block]; exact hn142_3) | exact hn142_3) (.int .i64 ((rd_T30 l0 x15_3).f3))).trans hx142_0
                                  (try have hy142_0 := fun (n_ : Nat) => (show ((((((w39.drewN n_).setCell ⟨gb141, 0, none⟩ (.int .i64 ((rd_T30 l0 x15_3).f0))).setCell ⟨gb141, 1, none⟩ (.int .i64 ((rd_T30 l0 x15_3).f1))).setCell ⟨gb141, 2, none⟩ (.int .i64 ((rd_T30 l0 x15_3).f2))).setCell ⟨gb141, 3, none⟩ (.int .i64 ((rd_T30 l0 x15_3).f3)))).cell? _ = some _ from hx142_0))
                                  clear hn142_0
                                  clear hn142_1
                                  clear hn142_2
                                  clear hn142_3
                                  replace p142 := eq_true p142
                                  replace q142 := eq_true q142
                                  have p143 : 0 ≤ (x15_3 : Int) := of_decide_eq_true (by first | (with_reducible assumption) | assumption)
                                  have q143 : x15_3 < (t124.length : Int) := of_decide_eq_true (by first | (with_reducible assumption) | assumption)
                                  obtain ⟨ad143, e143, hx143_0⟩ := Kd.at_int (Kd.R_reads' HO_7.out).2.2 x15_3 p143 q143
                                  obtain rfl : ad142 = ad143 := (by injection e143)
                                  have hn143_0 : ad142.block ≠ gb141 := Kd.own_blk (Kd.R_ne HO_7.out BK141.out (by decide))
                                  have hn143_1 : ad142.block ≠ gb141 := Kd.own_blk (Kd.R_ne HO_7.out BK141.out (by decide))
                                  have hn143_2 : ad142.block ≠ gb141 := Kd.own_blk (Kd.R_ne HO_7.out BK141.out (by decide))
                                  have hn143_3 : ad142.block ≠ gb141 := Kd.own_blk (Kd.R_ne HO_7.out BK141.out (by decide))
                                  replace hx143_0 := (cell_far (p := ⟨gb141, 0, none⟩) (by first | (rw [add_block]; exact hn143_0) | (show (Addr.add _ _).block ≠ _; rw [add_block]; exact hn143_0) | exact hn143_0) (.int .i64 ((rd_T30 l0 x15_3).f0))).trans hx143_0
                                  replace hx143_0 := (cell_far (p := ⟨gb141, 1, none⟩) (by first | (rw [add_block]; exact hn143_1) | (show (Addr.add _ _).block ≠ _; rw [add_block]; exact hn143_1) | exact hn143_1) (.int .i64 ((rd_T30 l0 x15_3).f1))).trans hx143_0
                                  replace hx143_0 := (cell_far (p := ⟨gb141, 2, none⟩) (by first | (rw [add_block]; exact hn143_2) | (show (Addr.add _ _).block ≠ _; rw [add_block]; exact hn143_2) | exact hn143_2) (.int .i64 ((rd_T30 l0 x15_3).f2))).trans hx143_0
                                  replace hx143_0 := (cell_far (p := ⟨gb141, 3, none⟩) (by first | (rw [add_block]; exact hn143_3) | (show (Addr.add _ _).block ≠ _; rw [add_block]; exact hn143_3) | exact hn143_3) (.int .i64 ((rd_T30 l0 x15_3).f3))).trans hx143_0
                                  (try have hy143_0 := fun (n_ : Nat) => (show ((((((w39.drewN n_).setCell ⟨gb141, 0, none⟩ (.int .i64 ((rd_T30 l0 x15_3).f0))).setCell ⟨gb141, 1, none⟩ (.int .i64 ((rd_T30 l0 x15_3).f1))).setCell ⟨gb141, 2, none⟩ (.int .i64 ((rd_T30 l0 x15_3).f2))).setCell ⟨gb141, 3, none⟩ (.int .i64 ((rd_T30 l0 x15_3).f3)))).cell? _ = some _ from hx143_0))
                                  clear hn143_0
                                  clear hn143_1
                                  clear hn143_2
                                  clear hn143_3
                                  replace p143 := eq_true p143
                                  replace q143 := eq_true q143
                                  go_wp2
                                  repeat (go_quiet (fail); try go_wp2)
                                  go_meet
                                  case rel => exact ⟨_, (((rd t124 x15_3) != 0)), (by first | rfl | (simp; done) | (simp [*]; done)), H', ⟨by have := HJ3.out; have := HJ14.out; have := HK3.out; first | omega | exact Nat.le_refl _⟩, ⟨by (with_reducible repeat (first | apply Kd.R_alloc | apply Kd.R_drewN | apply Kd.R_drew)); exact Kd.R_mono (Kd.R_far (p := ⟨gb141, 3, none⟩) (Kd.R_far (p := ⟨gb141, 2, none⟩) (Kd.R_far (p := ⟨gb141, 1, none⟩) (Kd.R_far (p := ⟨gb141, 0, none⟩) (Kd.R_types HO_7.out BK141.out (by decide)) (fun _ hk => hk.2) (.int .i64 ((rd_T30 l0 x15_3).f0))) (fun _ hk => hk.2) (.int .i64 ((rd_T30 l0 x15_3).f1))) (fun _ hk => hk.2) (.int .i64 ((rd_T30 l0 x15_3).f2))) (fun _ hk => hk.2) (.int .i64 ((rd_T30 l0 x15_3).f3))) (fun _ hk => ⟨hk.1.1, hk.1.2⟩)⟩, ⟨by (with_reducible repeat (first | apply Kd.R_alloc | apply Kd.R_drewN | apply Kd.R_drew)); exact Kd.R_mono (Kd.R_far (p := ⟨gb141, 3, none⟩) (Kd.R_far (p := ⟨gb141, 2, none⟩) (Kd.R_far (p := ⟨gb141, 1, none⟩) (Kd.R_far (p := ⟨gb141, 0, none⟩) (Kd.R_types HO_9.out BK141.out (by decide)) (fun _ hk => hk.2) (.int .i64 ((rd_T30 l0 x15_3).f0))) (fun _ hk => hk.2) (.int .i64 ((rd_T30 l0 x15_3).f1))) (fun _ hk => hk.2) (.int .i64 ((rd_T30 l0 x15_3).f2))) (fun _ hk => hk.2) (.int .i64 ((rd_T30 l0 x15_3).f3))) (fun _ hk => ⟨hk.1.1, hk.1.2⟩)⟩, ⟨by (with_reducible repeat (first | apply Kd.R_alloc | apply Kd.R_drewN | apply Kd.R_drew)); exact Kd.R_mono (Kd.R_far (p := ⟨gb141, 3, none⟩) (Kd.R_far (p := ⟨gb141, 2, none⟩) (Kd.R_far (p := ⟨gb141, 1, none⟩) (Kd.R_far (p := ⟨gb141, 0, none⟩) (Kd.R_types HO_11.out BK141.out (by decide)) (fun _ hk => hk.2) (.int .i64 ((rd_T30 l0 x15_3).f0))) (fun _ hk => hk.2) (.int .i64 ((rd_T30 l0 x15_3).f1))) (fun _ hk => hk.2) (.int .i64 ((rd_T30 l0 x15_3).f2))) (fun _ hk => hk.2) (.int .i64 ((rd_T30 l0 x15_3).f3))) (fun _ hk => ⟨hk.1.1, hk.1.2⟩)⟩, ⟨by (with_reducible repeat (first | refine blk_drewN ?_ _ | refine blk_drew ?_ | refine blk_alloc ?_ _)); refine blk_put (cs := #[.int .i64 ((rd_T30 l0 x15_3).f0), .int .i64 ((rd_T30 l0 x15_3).f1), .int .i64 ((rd_T30 l0 x15_3).f2), .int .i64 0]) ?_ 3 _ rfl; (with_reducible repeat (first | refine blk_drewN ?_ _ | refine blk_drew ?_ | refine blk_alloc ?_ _)); refine blk_put (cs := #[.int .i64 ((rd_T30 l0 x15_3).f0), .int .i64 ((rd_T30 l0 x15_3).f1), .int .i64 0, .int .i64 0]) ?_ 2 _ rfl; (with_reducible repeat (first | refine blk_drewN ?_ _ | refine blk_drew ?_ | refine blk_alloc ?_ _)); refine blk_put (cs := #[.int .i64 ((rd_T30 l0 x15_3).f0), .int .i64 0, .int .i64 0, .int .i64 0]) ?_ 1 _ rfl; (with_reducible repeat (first | refine blk_drewN ?_ _ | refine blk_drew ?_ | refine blk_alloc ?_ _)); refine blk_put (cs := #[.int .i64 0, .int .i64 0, .int .i64 0, .int .i64 0]) ?_ 0 _ rfl; (with_reducible repeat (first | refine blk_drewN ?_ _ | refine blk_drew ?_ | refine blk_alloc ?_ _)); exact BK141.out⟩, ⟨by repeat (first | (with_reducible first | exact HB.out | apply below_alloc | apply pw_below_drewN | apply below_drew1 | refine below_set ?_ GE141.out) | exact HB.out)⟩⟩
                                · as_aux_lemma =>
                                  rw [if_neg c44] at H
                                  have c44b0 : decide (0 < ((rd_T30 l0 x15_3).f2)) = false := decide_eq_false c44
                                  clear c44
                                  have H' := Aside0.mk H
                                  clear H
                                  have hcz47_0 : w39.cell? ⟨gb141, 0, none⟩ = some (.int .i64 0) := (blk_cell BK141.out 0).trans rfl
                                  have hcz47_1 : w39.cell? ⟨gb141, 1, none⟩ = some (.int .i64 0) := (blk_cell BK141.out 1).trans rfl
                                  have hcz47_2 : w39.cell? ⟨gb141, 2, none⟩ = some (.int .i64 0) := (blk_cell BK141.out 2).trans rfl
                                  have hcz47_3 : w39.cell? ⟨gb141, 3, none⟩ = some (.int .i64 0) := (blk_cell BK141.out 3).trans rfl
                                  have hfz47_0 := blk_frozen BK141.out 0
                                  have hfz47_1 := blk_frozen BK141.out 1
                                  have hfz47_2 := blk_frozen BK141.out 2
                                  have hfz47_3 := blk_frozen BK141.out 3
                                  obtain ⟨Ao48, co48, eo48⟩ := Kd.R_slice HO_7.out
                                  subst eo48
                                  have p142 : 0 ≤ (x15_3 : Int) := of_decide_eq_true (by first | (with_reducible assumption) | assumption)
                                  have q142 : x15_3 < (t124.length : Int) := of_decide_eq_true (by first | (with_reducible assumption) | assumption)
                                  obtain ⟨ad142, e142, hx142_0⟩ := Kd.at_int (Kd.R_reads' HO_7.out).2.2 x15_3 p142 q142
                                  cases e142
                                  have hn142_0 : ad142.block ≠ gb141 := Kd.own_blk (Kd.R_ne HO_7.out BK141.out (by decide))
                                  have hn142_1 : ad142.block ≠ gb141 := Kd.own_blk (Kd.R_ne HO_7.out BK141.out (by decide))
                                  have hn142_2 : ad142.block ≠ gb141 := Kd.own_blk (Kd.R_ne HO_7.out BK141.out (by decide))
                                  have hn142_3 : ad142.block ≠ gb141 := Kd.own_blk (Kd.R_ne HO_7.out BK141.out (by decide))
                                  replace hx142_0 := (cell_far (p := ⟨gb141, 0, none⟩) (by first | (rw [add_block]; exact hn142_0) | (show (Addr.add _ _).block ≠ _; rw [add_block]; exact hn142_0) | exact hn142_0) (.int .i64 ((rd_T30 l0 x15_3).f0))).trans hx142_0
                                  replace hx142_0 := (cell_far (p := ⟨gb141, 1, none⟩) (by first | (rw [add_block]; exact hn142_1) | (show (Addr.add _ _).block ≠ _; rw [add_block]; exact hn142_1) | exact hn142_1) (.int .i64 ((rd_T30 l0 x15_3).f1))).trans hx142_0
                                  replace hx142_0 := (cell_far (p := ⟨gb141, 2, none⟩) (by first | (rw [add_block]; exact hn142_2) | (show (Addr.add _ _).block ≠ _; rw [add_block]; exact hn142_2) | exact hn142_2) (.int .i64 ((rd_T30 l0 x15_3).f2))).trans hx142_0
                                  replace hx142_0 := (cell_far (p := ⟨gb141, 3, none⟩) (by first | (rw [add_block]; exact hn142_3) | (show (Addr.add _ _).block ≠ _; rw [add_block]; exact hn142_3) | exact hn142_3) (.int .i64 ((rd_T30 l0 x15_3).f3))).trans hx142_0
                                  (try have hy142_0 := fun (n_ : Nat) => (show ((((((w39.drewN n_).setCell ⟨gb141, 0, none⟩ (.int .i64 ((rd_T30 l0 x15_3).f0))).setCell ⟨gb141, 1, none⟩ (.int .i64 ((rd_T30 l0 x15_3).f1))).setCell ⟨gb141, 2, none⟩ (.int .i64 ((rd_T30 l0 x15_3).f2))).setCell ⟨gb141, 3, none⟩ (.int .i64 ((rd_T30 l0 x15_3).f3)))).cell? _ = some _ from hx142_0))
                                  clear hn142_0
                                  clear hn142_1
                                  clear hn142_2
                                  clear hn142_3
                                  replace p142 := eq_true p142
                                  replace q142 := eq_true q142
                                  go_wp2
                                  repeat (go_quiet (fail); try go_wp2)
                                  go_meet
                                  case rel => exact ⟨_, (false), (by first | rfl | (simp; done) | (simp [*]; done)), H', ⟨by have := HJ3.out; have := HJ14.out; have := HK3.out; first | omega | exact Nat.le_refl _⟩, ⟨by (with_reducible repeat (first | apply Kd.R_alloc | apply Kd.R_drewN | apply Kd.R_drew)); exact Kd.R_mono (Kd.R_far (p := ⟨gb141, 3, none⟩) (Kd.R_far (p := ⟨gb141, 2, none⟩) (Kd.R_far (p := ⟨gb141, 1, none⟩) (Kd.R_far (p := ⟨gb141, 0, none⟩) (Kd.R_types HO_7.out BK141.out (by decide)) (fun _ hk => hk.2) (.int .i64 ((rd_T30 l0 x15_3).f0))) (fun _ hk => hk.2) (.int .i64 ((rd_T30 l0 x15_3).f1))) (fun _ hk => hk.2) (.int .i64 ((rd_T30 l0 x15_3).f2))) (fun _ hk => hk.2) (.int .i64 ((rd_T30 l0 x15_3).f3))) (fun _ hk => ⟨hk.1.1, hk.1.2⟩)⟩, ⟨by (with_reducible repeat (first | apply Kd.R_alloc | apply Kd.R_drewN | apply Kd.R_drew)); exact Kd.R_mono (Kd.R_far (p := ⟨gb141, 3, none⟩) (Kd.R_far (p := ⟨gb141, 2, none⟩) (Kd.R_far (p := ⟨gb141, 1, none⟩) (Kd.R_far (p := ⟨gb141, 0, none⟩) (Kd.R_types HO_9.out BK141.out (by decide)) (fun _ hk => hk.2) (.int .i64 ((rd_T30 l0 x15_3).f0))) (fun _ hk => hk.2) (.int .i64 ((rd_T30 l0 x15_3).f1))) (fun _ hk => hk.2) (.int .i64 ((rd_T30 l0 x15_3).f2))) (fun _ hk => hk.2) (.int .i64 ((rd_T30 l0 x15_3).f3))) (fun _ hk => ⟨hk.1.1, hk.1.2⟩)⟩, ⟨by (with_reducible repeat (first | apply Kd.R_alloc | apply Kd.R_drewN | apply Kd.R_drew)); exact Kd.R_mono (Kd.R_far (p := ⟨gb141, 3, none⟩) (Kd.R_far (p := ⟨gb141, 2, none⟩) (Kd.R_far (p := ⟨gb141, 1, none⟩) (Kd.R_far (p := ⟨gb141, 0, none⟩) (Kd.R_types HO_11.out BK141.out (by decide)) (fun _ hk => hk.2) (.int .i64 ((rd_T30 l0 x15_3).f0))) (fun _ hk => hk.2) (.int .i64 ((rd_T30 l0 x15_3).f1))) (fun _ hk => hk.2) (.int .i64 ((rd_T30 l0 x15_3).f2))) (fun _ hk => hk.2) (.int .i64 ((rd_T30 l0 x15_3).f3))) (fun _ hk => ⟨hk.1.1, hk.1.2⟩)⟩, ⟨by (with_reducible repeat (first | refine blk_drewN ?_ _ | refine blk_drew ?_ | refine blk_alloc ?_ _)); refine blk_put (cs := #[.int .i64 ((rd_T30 l0 x15_3).f0), .int .i64 ((rd_T30 l0 x15_3).f1), .int .i64 ((rd_T30 l0 x15_3).f2), .int .i64 0]) ?_ 3 _ rfl; (with_reducible repeat (first | refine blk_drewN ?_ _ | refine blk_drew ?_ | refine blk_alloc ?_ _)); refine blk_put (cs := #[.int .i64 ((rd_T30 l0 x15_3).f0), .int .i64 ((rd_T30 l0 x15_3).f1), .int .i64 0, .int .i64 0]) ?_ 2 _ rfl; (with_reducible repeat (first | refine blk_drewN ?_ _ | refine blk_drew ?_ | refine blk_alloc ?_ _)); refine blk_put (cs := #[.int .i64 ((rd_T30 l0 x15_3).f0), .int .i64 0, .int .i64 0, .int .i64 0]) ?_ 1 _ rfl; (with_reducible repeat (first | refine blk_drewN ?_ _ | refine blk_drew ?_ | refine blk_alloc ?_ _)); refine blk_put (cs := #[.int .i64 0, .int .i64 0, .int .i64 0, .int .i64 0]) ?_ 0 _ rfl; (with_reducible repeat (first | refine blk_drewN ?_ _ | refine blk_drew ?_ | refine blk_alloc ?_ _)); exact BK141.out⟩, ⟨by repeat (first | (with_reducible first | exact HB.out | apply below_alloc | apply pw_below_drewN | apply below_drew1 | refine below_set ?_ GE141.out) | exact HB.out)⟩⟩
                              · as_aux_lemma =>
                                rw [if_neg c43] at H
                                have c43b0 : ((rd t124 x15_3) == ((rd_T30 l0 x15_3).f1)) = false := beq_eq_false_iff_ne.mpr c43
                                have c43b1 : ((rd t124 x15_3) != ((rd_T30 l0 x15_3).f1)) = true := bne_iff_ne.mpr c43
                                have H' := Aside0.mk H
                                clear H
                                have hcz49_0 : w39.cell? ⟨gb141, 0, none⟩ = some (.int .i64 0) := (blk_cell BK141.out 0).trans rfl
                                have hcz49_1 : w39.cell? ⟨gb141, 1, none⟩ = some (.int .i64 0) := (blk_cell BK141.out 1).trans rfl
                                have hcz49_2 : w39.cell? ⟨gb141, 2, none⟩ = some (.int .i64 0) := (blk_cell BK141.out 2).trans rfl
                                have hcz49_3 : w39.cell? ⟨gb141, 3, none⟩ = some (.int .i64 0) := (blk_cell BK141.out 3).trans rfl
                                have hfz49_0 := blk_frozen BK141.out 0
                                have hfz49_1 := blk_frozen BK141.out 1
                                have hfz49_2 := blk_frozen BK141.out 2
                                have hfz49_3 := blk_frozen BK141.out 3
                                obtain ⟨Ao50, co50, eo50⟩ := Kd.R_slice HO_7.out
                                subst eo50
                                have p142 : 0 ≤ (x15_3 : Int) := of_decide_eq_true (by first | (with_reducible assumption) | assumption)
                                have q142 : x15_3 < (t124.length : Int) := of_decide_eq_true (by first | (with_reducible assumption) | assumption)
                                obtain ⟨ad142, e142, hx142_0⟩ := Kd.at_int (Kd.R_reads' HO_7.out).2.2 x15_3 p142 q142
                                cases e142
                                have hn142_0 : ad142.block ≠ gb141 := Kd.own_blk (Kd.R_ne HO_7.out BK141.out (by decide))
                                have hn142_1 : ad142.block ≠ gb141 := Kd.own_blk (Kd.R_ne HO_7.out BK141.out (by decide))
                                have hn142_2 : ad142.block ≠ gb141 := Kd.own_blk (Kd.R_ne HO_7.out BK141.out (by decide))
                                have hn142_3 : ad142.block ≠ gb141 := Kd.own_blk (Kd.R_ne HO_7.out BK141.out (by decide))
                                replace hx142_0 := (cell_far (p := ⟨gb141, 0, none⟩) (by first | (rw [add_block]; exact hn142_0) | (show (Addr.add _ _).block ≠ _; rw [add_block]; exact hn142_0) | exact hn142_0) (.int .i64 ((rd_T30 l0 x15_3).f0))).trans hx142_0
                                replace hx142_0 := (cell_far (p := ⟨gb141, 1, none⟩) (by first | (rw [add_block]; exact hn142_1) | (show (Addr.add _ _).block ≠ _; rw [add_block]; exact hn142_1) | exact hn142_1) (.int .i64 ((rd_T30 l0 x15_3).f1))).trans hx142_0
                                replace hx142_0 := (cell_far (p := ⟨gb141, 2, none⟩) (by first | (rw [add_block]; exact hn142_2) | (show (Addr.add _ _).block ≠ _; rw [add_block]; exact hn142_2) | exact hn142_2) (.int .i64 ((rd_T30 l0 x15_3).f2))).trans hx142_0
                                replace hx142_0 := (cell_far (p := ⟨gb141, 3, none⟩) (by first | (rw [add_block]; exact hn142_3) | (show (Addr.add _ _).block ≠ _; rw [add_block]; exact hn142_3) | exact hn142_3) (.int .i64 ((rd_T30 l0 x15_3).f3))).trans hx142_0
                                (try have hy142_0 := fun (n_ : Nat) => (show ((((((w39.drewN n_).setCell ⟨gb141, 0, none⟩ (.int .i64 ((rd_T30 l0 x15_3).f0))).setCell ⟨gb141, 1, none⟩ (.int .i64 ((rd_T30 l0 x15_3).f1))).setCell ⟨gb141, 2, none⟩ (.int .i64 ((rd_T30 l0 x15_3).f2))).setCell ⟨gb141, 3, none⟩ (.int .i64 ((rd_T30 l0 x15_3).f3)))).cell? _ = some _ from hx142_0))
                                clear hn142_0
                                clear hn142_1
                                clear hn142_2
                                clear hn142_3
                                replace p142 := eq_true p142
                                replace q142 := eq_true q142
                                go_wp2
                                repeat (go_quiet (fail); try go_wp2)
                                go_meet
                                case rel => exact ⟨_, (true), (by first | rfl | (simp; done) | (simp [*]; done)), H', ⟨by have := HJ3.out; have := HJ14.out; have := HK3.out; first | omega | exact Nat.le_refl _⟩, ⟨by (with_reducible repeat (first | apply Kd.R_alloc | apply Kd.R_drewN | apply Kd.R_drew)); exact Kd.R_mono (Kd.R_far (p := ⟨gb141, 3, none⟩) (Kd.R_far (p := ⟨gb141, 2, none⟩) (Kd.R_far (p := ⟨gb141, 1, none⟩) (Kd.R_far (p := ⟨gb141, 0, none⟩) (Kd.R_types HO_7.out BK141.out (by decide)) (fun _ hk => hk.2) (.int .i64 ((rd_T30 l0 x15_3).f0))) (fun _ hk => hk.2) (.int .i64 ((rd_T30 l0 x15_3).f1))) (fun _ hk => hk.2) (.int .i64 ((rd_T30 l0 x15_3).f2))) (fun _ hk => hk.2) (.int .i64 ((rd_T30 l0 x15_3).f3))) (fun _ hk => ⟨hk.1.1, hk.1.2⟩)⟩, ⟨by (with_reducible repeat (first | apply Kd.R_alloc | apply Kd.R_drewN | apply Kd.R_drew)); exact Kd.R_mono (Kd.R_far (p := ⟨gb141, 3, none⟩) (Kd.R_far (p := ⟨gb141, 2, none⟩) (Kd.R_far (p := ⟨gb141, 1, none⟩) (Kd.R_far (p := ⟨gb141, 0, none⟩) (Kd.R_types HO_9.out BK141.out (by decide)) (fun _ hk => hk.2) (.int .i64 ((rd_T30 l0 x15_3).f0))) (fun _ hk => hk.2) (.int .i64 ((rd_T30 l0 x15_3).f1))) (fun _ hk => hk.2) (.int .i64 ((rd_T30 l0 x15_3).f2))) (fun _ hk => hk.2) (.int .i64 ((rd_T30 l0 x15_3).f3))) (fun _ hk => ⟨hk.1.1, hk.1.2⟩)⟩, ⟨by (with_reducible repeat (first | apply Kd.R_alloc | apply Kd.R_drewN | apply Kd.R_drew)); exact Kd.R_mono (Kd.R_far (p := ⟨gb141, 3, none⟩) (Kd.R_far (p := ⟨gb141, 2, none⟩) (Kd.R_far (p := ⟨gb141, 1, none⟩) (Kd.R_far (p := ⟨gb141, 0, none⟩) (Kd.R_types HO_11.out BK141.out (by decide)) (fun _ hk => hk.2) (.int .i64 ((rd_T30 l0 x15_3).f0))) (fun _ hk => hk.2) (.int .i64 ((rd_T30 l0 x15_3).f1))) (fun _ hk => hk.2) (.int .i64 ((rd_T30 l0 x15_3).f2))) (fun _ hk => hk.2) (.int .i64 ((rd_T30 l0 x15_3).f3))) (fun _ hk => ⟨hk.1.1, hk.1.2⟩)⟩, ⟨by (with_reducible repeat (first | refine blk_drewN ?_ _ | refine blk_drew ?_ | refine blk_alloc ?_ _)); refine blk_put (cs := #[.int .i64 ((rd_T30 l0 x15_3).f0), .int .i64 ((rd_T30 l0 x15_3).f1), .int .i64 ((rd_T30 l0 x15_3).f2), .int .i64 0]) ?_ 3 _ rfl; (with_reducible repeat (first | refine blk_drewN ?_ _ | refine blk_drew ?_ | refine blk_alloc ?_ _)); refine blk_put (cs := #[.int .i64 ((rd_T30 l0 x15_3).f0), .int .i64 ((rd_T30 l0 x15_3).f1), .int .i64 0, .int .i64 0]) ?_ 2 _ rfl; (with_reducible repeat (first | refine blk_drewN ?_ _ | refine blk_drew ?_ | refine blk_alloc ?_ _)); refine blk_put (cs := #[.int .i64 ((rd_T30 l0 x15_3).f0), .int .i64 0, .int .i64 0, .int .i64 0]) ?_ 1 _ rfl; (with_reducible repeat (first | refine blk_drewN ?_ _ | refine blk_drew ?_ | refine blk_alloc ?_ _)); refine blk_put (cs := #[.int .i64 0, .int .i64 0, .int .i64 0, .int .i64 0]) ?_ 0 _ rfl; (with_reducible repeat (first | refine blk_drewN ?_ _ | refine blk_drew ?_ | refine blk_alloc ?_ _)); exact BK141.out⟩, ⟨by repeat (first | (with_reducible first | exact HB.out | apply below_alloc | apply pw_below_drewN | apply below_drew1 | refine below_set ?_ GE141.out) | exact HB.out)⟩⟩
                            · as_aux_lemma =>
                              rw [if_neg c42] at H
                              exact absurd H (by simp)
                          · as_aux_lemma =>
                            rw [if_neg c41] at H
                            have c41b0 : (((rd_T30 l0 x15_3).f2) == 0) = false := beq_eq_false_iff_ne.mpr c41
                            have c41b1 : (((rd_T30 l0 x15_3).f2) != 0) = true := bne_iff_ne.mpr c41
                            (first | rw [c41b0] | (simp only [i64_w, i32_w]; rw [c41b0]) | skip)
                            by_cases c51 : ((rd_T30 l0 x15_3).f2) > 0
                            · as_aux_lemma =>
                              rw [if_pos c51] at H
                              have c51b0 : decide (0 < ((rd_T30 l0 x15_3).f2)) = true := decide_eq_true c51
                              clear c51
                              by_cases c52 : x15_3 < (t124.length : Int)
                              · as_aux_lemma =>
                                rw [if_pos c52] at H
                                have c52b0 : decide (x15_3 < (t124.length : Int)) = true := decide_eq_true c52
                                clear c52
                                have H' := Aside0.mk H
                                clear H
                                have hcz53_0 : w39.cell? ⟨gb141, 0, none⟩ = some (.int .i64 0) := (blk_cell BK141.out 0).trans rfl
                                have hcz53_1 : w39.cell? ⟨gb141, 1, none⟩ = some (.int .i64 0) := (blk_cell BK141.out 1).trans rfl
                                have hcz53_2 : w39.cell? ⟨gb141, 2, none⟩ = some (.int .i64 0) := (blk_cell BK141.out 2).trans rfl
                                have hcz53_3 : w39.cell? ⟨gb141, 3, none⟩ = some (.int .i64 0) := (blk_cell BK141.out 3).trans rfl
                                have hfz53_0 := blk_frozen BK141.out 0
                                have hfz53_1 := blk_frozen BK141.out 1
                                have hfz53_2 := blk_frozen BK141.out 2
                                have hfz53_3 := blk_frozen BK141.out 3
                                obtain ⟨Ao54, co54, eo54⟩ := Kd.R_slice HO_7.out
                                subst eo54
                                have p144 : 0 ≤ (x15_3 : Int) := of_decide_eq_true (by first | (with_reducible assumption) | assumption)
                                have q144 : x15_3 < (t124.length : Int) := of_decide_eq_true (by first | (with_reducible assumption) | assumption)
                                obtain ⟨ad144, e144, hx144_0⟩ := Kd.at_int (Kd.R_reads' HO_7.out).2.2 x15_3 p144 q144
                                cases e144
                                have hn144_0 : ad144.block ≠ gb141 := Kd.own_blk (Kd.R_ne HO_7.out BK141.out (by decide))
                                have hn144_1 : ad144.block ≠ gb141 := Kd.own_blk (Kd.R_ne HO_7.out BK141.out (by decide))
                                have hn144_2 : ad144.block ≠ gb141 := Kd.own_blk (Kd.R_ne HO_7.out BK141.out (by decide))
                                have hn144_3 : ad144.block ≠ gb141 := Kd.own_blk (Kd.R_ne HO_7.out BK141.out (by decide))
                                replace hx144_0 := (cell_far (p := ⟨gb141, 0, none⟩) (by first | (rw [add_block]; exact hn144_0) | (show (Addr.add _ _).block ≠ _; rw [add_block]; exact hn144_0) | exact hn144_0) (.int .i64 ((rd_T30 l0 x15_3).f0))).trans hx144_0
                                replace hx144_0 := (cell_far (p := ⟨gb141, 1, none⟩) (by first | (rw [add_block]; exact hn144_1) | (show (Addr.add _ _).block ≠ _; rw [add_block]; exact hn144_1) | exact hn144_1) (.int .i64 ((rd_T30 l0 x15_3).f1))).trans hx144_0
                                replace hx144_0 := (cell_far (p := ⟨gb141, 2, none⟩) (by first | (rw [add_block]; exact hn144_2) | (show (Addr.add _ _).block ≠ _; rw [add_block]; exact hn144_2) | exact hn144_2) (.int .i64 ((rd_T30 l0 x15_3).f2))).trans hx144_0
                                replace hx144_0 := (cell_far (p := ⟨gb141, 3, none⟩) (by first | (rw [add_block]; exact hn144_3) | (show (Addr.add _ _).block ≠ _; rw [add_block]; exact hn144_3) | exact hn144_3) (.int .i64 ((rd_T30 l0 x15_3).f3))).trans hx144_0
                                (try have hy144_0 := fun (n_ : Nat) => (show ((((((w39.drewN n_).setCell ⟨gb141, 0, none⟩ (.int .i64 ((rd_T30 l0 x15_3).f0))).setCell ⟨gb141, 1, none⟩ (.int .i64 ((rd_T30 l0 x15_3).f1))).setCell ⟨gb141, 2, none⟩ (.int .i64 ((rd_T30 l0 x15_3).f2))).setCell ⟨gb141, 3, none⟩ (.int .i64 ((rd_T30 l0 x15_3).f3)))).cell? _ = some _ from hx144_0))
                                clear hn144_0
                                clear hn144_1
                                clear hn144_2
                                clear hn144_3
                                replace p144 := eq_true p144
                                replace q144 := eq_true q144
                                go_wp2
                                repeat (go_quiet (fail); try go_wp2)
                                go_meet
                                case rel => exact ⟨_, (((rd t124 x15_3) != 0)), (by first | rfl | (simp; done) | (simp [*]; done)), H', ⟨by have := HJ3.out; have := HJ14.out; have := HK3.out; first | omega | exact Nat.le_refl _⟩, ⟨by (with_reducible repeat (first | apply Kd.R_alloc | apply Kd.R_drewN | apply Kd.R_drew)); exact Kd.R_mono (Kd.R_far (p := ⟨gb141, 3, none⟩) (Kd.R_far (p := ⟨gb141, 2, none⟩) (Kd.R_far (p := ⟨gb141, 1, none⟩) (Kd.R_far (p := ⟨gb141, 0, none⟩) (Kd.R_types HO_7.out BK141.out (by decide)) (fun _ hk => hk.2) (.int .i64 ((rd_T30 l0 x15_3).f0))) (fun _ hk => hk.2) (.int .i64 ((rd_T30 l0 x15_3).f1))) (fun _ hk => hk.2) (.int .i64 ((rd_T30 l0 x15_3).f2))) (fun _ hk => hk.2) (.int .i64 ((rd_T30 l0 x15_3).f3))) (fun _ hk => ⟨hk.1.1, hk.1.2⟩)⟩, ⟨by (with_reducible repeat (first | apply Kd.R_alloc | apply Kd.R_drewN | apply Kd.R_drew)); exact Kd.R_mono (Kd.R_far (p := ⟨gb141, 3, none⟩) (Kd.R_far (p := ⟨gb141, 2, none⟩) (Kd.R_far (p := ⟨gb141, 1, none⟩) (Kd.R_far (p := ⟨gb141, 0, none⟩) (Kd.R_types HO_9.out BK141.out (by decide)) (fun _ hk => hk.2) (.int .i64 ((rd_T30 l0 x15_3).f0))) (fun _ hk => hk.2) (.int .i64 ((rd_T30 l0 x15_3).f1))) (fun _ hk => hk.2) (.int .i64 ((rd_T30 l0 x15_3).f2))) (fun _ hk => hk.2) (.int .i64 ((rd_T30 l0 x15_3).f3))) (fun _ hk => ⟨hk.1.1, hk.1.2⟩)⟩, ⟨by (with_reducible repeat (first | apply Kd.R_alloc | apply Kd.R_drewN | apply Kd.R_drew)); exact Kd.R_mono (Kd.R_far (p := ⟨gb141, 3, none⟩) (Kd.R_far (p := ⟨gb141, 2, none⟩) (Kd.R_far (p := ⟨gb141, 1, none⟩) (Kd.R_far (p := ⟨gb141, 0, none⟩) (Kd.R_types HO_11.out BK141.out (by decide)) (fun _ hk => hk.2) (.int .i64 ((rd_T30 l0 x15_3).f0))) (fun _ hk => hk.2) (.int .i64 ((rd_T30 l0 x15_3).f1))) (fun _ hk => hk.2) (.int .i64 ((rd_T30 l0 x15_3).f2))) (fun _ hk => hk.2) (.int .i64 ((rd_T30 l0 x15_3).f3))) (fun _ hk => ⟨hk.1.1, hk.1.2⟩)⟩, ⟨by (with_reducible repeat (first | refine blk_drewN ?_ _ | refine blk_drew ?_ | refine blk_alloc ?_ _)); refine blk_put (cs := #[.int .i64 ((rd_T30 l0 x15_3).f0), .int .i64 ((rd_T30 l0 x15_3).f1), .int .i64 ((rd_T30 l0 x15_3).f2), .int .i64 0]) ?_ 3 _ rfl; (with_reducible repeat (first | refine blk_drewN ?_ _ | refine blk_drew ?_ | refine blk_alloc ?_ _)); refine blk_put (cs := #[.int .i64 ((rd_T30 l0 x15_3).f0), .int .i64 ((rd_T30 l0 x15_3).f1), .int .i64 0, .int .i64 0]) ?_ 2 _ rfl; (with_reducible repeat (first | refine blk_drewN ?_ _ | refine blk_drew ?_ | refine blk_alloc ?_ _)); refine blk_put (cs := #[.int .i64 ((rd_T30 l0 x15_3).f0), .int .i64 0, .int .i64 0, .int .i64 0]) ?_ 1 _ rfl; (with_reducible repeat (first | refine blk_drewN ?_ _ | refine blk_drew ?_ | refine blk_alloc ?_ _)); refine blk_put (cs := #[.int .i64 0, .int .i64 0, .int .i64 0, .int .i64 0]) ?_ 0 _ rfl; (with_reducible repeat (first | refine blk_drewN ?_ _ | refine blk_drew ?_ | refine blk_alloc ?_ _)); exact BK141.out⟩, ⟨by repeat (first | (with_reducible first | exact HB.out | apply below_alloc | apply pw_below_drewN | apply below_drew1 | refine below_set ?_ GE141.out) | exact HB.out)⟩⟩
                              · as_aux_lemma =>
                                rw [if_neg c52] at H
                                exact absurd H (by simp)
                            · as_aux_lemma =>
                              rw [if_neg c51] at H
                              have c51b0 : decide (0 < ((rd_T30 l0 x15_3).f2)) = false := decide_eq_false c51
                              clear c51
                              have H' := Aside0.mk H
                              clear H
                              have hcz55_0 : w39.cell? ⟨gb141, 0, none⟩ = some (.int .i64 0) := (blk_cell BK141.out 0).trans rfl
                              have hcz55_1 : w39.cell? ⟨gb141, 1, none⟩ = some (.int .i64 0) := (blk_cell BK141.out 1).trans rfl
                              have hcz55_2 : w39.cell? ⟨gb141, 2, none⟩ = some (.int .i64 0) := (blk_cell BK141.out 2).trans rfl
                              have hcz55_3 : w39.cell? ⟨gb141, 3, none⟩ = some (.int .i64 0) := (blk_cell BK141.out 3).trans rfl
                              have hfz55_0 := blk_frozen BK141.out 0
                              have hfz55_1 := blk_frozen BK141.out 1
                              have hfz55_2 := blk_frozen BK141.out 2
                              have hfz55_3 := blk_frozen BK141.out 3
                              go_wp2
                              repeat (go_quiet (fail); try go_wp2)
                              go_meet
                              case rel => exact ⟨_, (false), (by first | rfl | (simp; done) | (simp [*]; done)), H', ⟨by have := HJ3.out; have := HJ14.out; have := HK3.out; first | omega | exact Nat.le_refl _⟩, ⟨by (with_reducible repeat (first | apply Kd.R_alloc | apply Kd.R_drewN | apply Kd.R_drew)); exact Kd.R_mono (Kd.R_far (p := ⟨gb141, 3, none⟩) (Kd.R_far (p := ⟨gb141, 2, none⟩) (Kd.R_far (p := ⟨gb141, 1, none⟩) (Kd.R_far (p := ⟨gb141, 0, none⟩) (Kd.R_types HO_7.out BK141.out (by decide)) (fun _ hk => hk.2) (.int .i64 ((rd_T30 l0 x15_3).f0))) (fun _ hk => hk.2) (.int .i64 ((rd_T30 l0 x15_3).f1))) (fun _ hk => hk.2) (.int .i64 ((rd_T30 l0 x15_3).f2))) (fun _ hk => hk.2) (.int .i64 ((rd_T30 l0 x15_3).f3))) (fun _ hk => ⟨hk.1.1, hk.1.2⟩)⟩, ⟨by (with_reducible repeat (first | apply Kd.R_alloc | apply Kd.R_drewN | apply Kd.R_drew)); exact Kd.R_mono (Kd.R_far (p := ⟨gb141, 3, none⟩) (Kd.R_far (p := ⟨gb141, 2, none⟩) (Kd.R_far (p := ⟨gb141, 1, none⟩) (Kd.R_far (p := ⟨gb141, 0, none⟩) (Kd.R_types HO_9.out BK141.out (by decide)) (fun _ hk => hk.2) (.int .i64 ((rd_T30 l0 x15_3).f0))) (fun _ hk => hk.2) (.int .i64 ((rd_T30 l0 x15_3).f1))) (fun _ hk => hk.2) (.int .i64 ((rd_T30 l0 x15_3).f2))) (fun _ hk => hk.2) (.int .i64 ((rd_T30 l0 x15_3).f3))) (fun _ hk => ⟨hk.1.1, hk.1.2⟩)⟩, ⟨by (with_reducible repeat (first | apply Kd.R_alloc | apply Kd.R_drewN | apply Kd.R_drew)); exact Kd.R_mono (Kd.R_far (p := ⟨gb141, 3, none⟩) (Kd.R_far (p := ⟨gb141, 2, none⟩) (Kd.R_far (p := ⟨gb141, 1, none⟩) (Kd.R_far (p := ⟨gb141, 0, none⟩) (Kd.R_types HO_11.out BK141.out (by decide)) (fun _ hk => hk.2) (.int .i64 ((rd_T30 l0 x15_3).f0))) (fun _ hk => hk.2) (.int .i64 ((rd_T30 l0 x15_3).f1))) (fun _ hk => hk.2) (.int .i64 ((rd_T30 l0 x15_3).f2))) (fun _ hk => hk.2) (.int .i64 ((rd_T30 l0 x15_3).f3))) (fun _ hk => ⟨hk.1.1, hk.1.2⟩)⟩, ⟨by (with_reducible repeat (first | refine blk_drewN ?_ _ | refine blk_drew ?_ | refine blk_alloc ?_ _)); refine blk_put (cs := #[.int .i64 ((rd_T30 l0 x15_3).f0), .int .i64 ((rd_T30 l0 x15_3).f1), .int .i64 ((rd_T30 l0 x15_3).f2), .int .i64 0]) ?_ 3 _ rfl; (with_reducible repeat (first | refine blk_drewN ?_ _ | refine blk_drew ?_ | refine blk_alloc ?_ _)); refine blk_put (cs := #[.int .i64 ((rd_T30 l0 x15_3).f0), .int .i64 ((rd_T30 l0 x15_3).f1), .int .i64 0, .int .i64 0]) ?_ 2 _ rfl; (with_reducible repeat (first | refine blk_drewN ?_ _ | refine blk_drew ?_ | refine blk_alloc ?_ _)); refine blk_put (cs := #[.int .i64 ((rd_T30 l0 x15_3).f0), .int .i64 0, .int .i64 0, .int .i64 0]) ?_ 1 _ rfl; (with_reducible repeat (first | refine blk_drewN ?_ _ | refine blk_drew ?_ | refine blk_alloc ?_ _)); refine blk_put (cs := #[.int .i64 0, .int .i64 0, .int .i64 0, .int .i64 0]) ?_ 0 _ rfl; (with_reducible repeat (first | refine blk_drewN ?_ _ | refine blk_drew ?_ | refine blk_alloc ?_ _)); exact BK141.out⟩, ⟨by repeat (first | (with_reducible first | exact HB.out | apply below_alloc | apply pw_below_drewN | apply below_drew1 | refine below_set ?_ GE141.out) | exact HB.out)⟩⟩
                        case rest =>
                          clear HC38
                          try clear p1
                          try clear q1
                          try clear hx1
                          try clear c2
                          try clear p2
                          try clear c3
                          try clear c4
                          try clear c5
                          try clear c6
                          try clear c6b0
                          try clear c6b1
                          try clear p6
                          try clear c7
                          try clear c7b0
                          try clear c8
                          try clear p14
                          try clear q14
                          try clear hx14
                          try clear c20
                          try clear c20b0
                          try clear c20b1
                          try clear c21
                          try clear c21b0
                          try clear c21b1
                          try clear c22
                          try clear c22b0
                          try clear c22b1
                          try clear c23
                          try clear c23b0
                          try clear c23b1
                          try clear c24
                          try clear c24b0
                          try clear c24b1
                          try clear c24b2
                          try clear c25
                          try clear c25b0
                          try clear c25b1
                          try clear c25b2
                          try clear c32
                          try clear c34
                          try clear c34b0
                          try clear c34b1
                          try clear c36
                          try clear c36b0
                          try clear c37
                          try clear c37b0
                          try clear c41
                          try clear c41b0
                          try clear c41b1
                          try clear c42
                          try clear c42b0
                          try clear c43
                          try clear c43b0
                          try clear c43b1
                          try clear c44
                          try clear c44b0
                          try clear c51
                          try clear c51b0
                          try clear c52
                          try clear c52b0
                          try clear hcz40_0
                          try clear hcz40_1
                          try clear hcz40_2
                          try clear hcz40_3
                          try clear hcz45_0
                          try clear hcz45_1
                          try clear hcz45_2
                          try clear hcz45_3
                          try clear hcz47_0
                          try clear hcz47_1
                          try clear hcz47_2
                          try clear hcz47_3
                          try clear hcz49_0
                          try clear hcz49_1
                          try clear hcz49_2
                          try clear hcz49_3
                          try clear hcz53_0
                          try clear hcz53_1
                          try clear hcz53_2
                          try clear hcz53_3
                          try clear hcz55_0
                          try clear hcz55_1
                          try clear hcz55_2
                          try clear hcz55_3
                          try clear hfz40_0
                          try clear hfz40_1
                          try clear hfz40_2
                          try clear hfz40_3
                          try clear hfz45_0
                          try clear hfz45_1
                          try clear hfz45_2
                          try clear hfz45_3
                          try clear hfz47_0
                          try clear hfz47_1
                          try clear hfz47_2
                          try clear hfz47_3
                          try clear hfz49_0
                          try clear hfz49_1
                          try clear hfz49_2
                          try clear hfz49_3
                          try clear hfz53_0
                          try clear hfz53_1
                          try clear hfz53_2
                          try clear hfz53_3
                          try clear hfz55_0
                          try clear hfz55_1
                          try clear hfz55_2
                          try clear hfz55_3
                          try clear hx140_0
                          try clear hx140_1
                          try clear hx140_2
                          try clear hx140_3
                          try clear hx142_0
                          try clear hx143_0
                          try clear hx144_0
                          try clear p140
                          try clear p142
                          try clear p143
                          try clear p144
                          try clear p2
                          try clear p6
                          try clear q140
                          try clear q142
                          try clear q143
                          try clear q144
                          obtain ⟨kq, x131_37, rfl, HA, HJ37, HO_7, HO_9, HO_11, BK141, HB⟩ := hcut
                          cases kq with
                          | zero => exact absurd HA.out (by simp [bulkheadlaw11_OccRule.j3])
                          | succ kj37 =>
                            have H := HA.out
                            clear HA
                            simp only [bulkheadlaw11_OccRule.j3] at H
                            by_cases c56 : x131_37 = true
                            · subst c56
                              have H1 : (some false) = some r := by rw [if_pos rfl] at H; exact H
                              clear H
                              have H := H1
                              clear H1
                              obtain rfl := Option.some.inj H
                              go_wp2
                              repeat (go_quiet (fail); try go_wp2)
                              go_ret
                              exact ⟨by first | rfl | (simp [errW_none, errW_some] <;> rfl) | (simp [*, errW_none, errW_some] <;> rfl), by repeat (first | (with_reducible first | exact HB.out | apply below_alloc | apply pw_below_drewN | apply below_drew1 | refine below_set ?_ GE141.out) | exact HB.out)⟩
                            · replace c56 := Bool.eq_false_iff.mpr c56
                              subst c56
                              have H1 : (if 0 ≤ x15_3 then (if x15_3 < (t128.length : Int) then (if t136 = (wrap64 (x15_3 + 1)) then (bulkheadlaw11_OccRule.j4 kj37 l0 a1 t124 t128 t132 t136 x15_3 (wrap64 ((rd t128 x15_3) - 1)) ((rd_T30 l0 x15_3).f0) ((rd_T30 l0 x15_3).f1) ((rd_T30 l0 x15_3).f2) ((rd_T30 l0 x15_3).f3)) else (bulkheadlaw11_OccRule.j4 kj37 l0 a1 t124 t128 t132 t136 x15_3 (rd t128 x15_3) ((rd_T30 l0 x15_3).f0) ((rd_T30 l0 x15_3).f1) ((rd_T30 l0 x15_3).f2) ((rd_T30 l0 x15_3).f3))) else (none)) else (none)) = some r := by rw [if_neg (show ¬ (false = true) by decide)] at H; exact H
                              clear H
                              have H := H1
                              clear H1
                              by_cases c57 : 0 ≤ x15_3
                              · as_aux_lemma =>
                                rw [if_pos c57] at H
                                have c57b0 : decide (0 ≤ x15_3) = true := decide_eq_true c57
                                clear c57
                                by_cases c58 : x15_3 < (t128.length : Int)
                                · as_aux_lemma =>
                                  rw [if_pos c58] at H
                                  have c58b0 : decide (x15_3 < (t128.length : Int)) = true := decide_eq_true c58
                                  clear c58
                                  have HC59 := Aside0.mk H
                                  clear H
                                  have p145 : 0 ≤ (x15_3 : Int) := of_decide_eq_true (by first | (with_reducible assumption) | assumption)
                                  have q145 : x15_3 < (t128.length : Int) := of_decide_eq_true (by first | (with_reducible assumption) | assumption)
                                  obtain ⟨ad145, e145, hx145_0⟩ := Kd.at_int (Kd.R_reads' HO_9.out).2.2 x15_3 p145 q145
                                  cases e145
                                  replace p145 := eq_true p145
                                  replace q145 := eq_true q145
                                  go_upto_if 139 with (fail)
                                  repeat (go_quiet (fail); go_upto_if 139 with (fail))
                                  go_cut [17] (fun v17 wc => ∃ (kq : Nat) (x17_58 : Int), v17 = .int .i64 x17_58 ∧ Aside0 (bulkheadlaw11_OccRule.j4 kq l0 a1 t124 t128 t132 t136 x15_3 x17_58 ((rd_T30 l0 x15_3).f0) ((rd_T30 l0 x15_3).f1) ((rd_T30 l0 x15_3).f2) ((rd_T30 l0 x15_3).f3) = some r) ∧ Aside0 (kq ≤ kj37) ∧ Aside0 (Kd.R (Kd.int .i64) 3 wc w.heap.size (fun k_ => some k_ ≠ ((.slice (some ad145) t128.length co35) : Value).ownBlock ∧ some k_ ≠ (v134 : Value).ownBlock) v126 t124) ∧ Aside0 (Kd.R (Kd.int .i64) 3 wc w.heap.size (fun k_ => some k_ ≠ (v126 : Value).ownBlock ∧ some k_ ≠ (v134 : Value).ownBlock) (.slice (some ad145) t128.length co35) t128) ∧ Aside0 (Kd.R (Kd.int .i64) 3 wc w.heap.size (fun k_ => some k_ ≠ (v126 : Value).ownBlock ∧ some k_ ≠ ((.slice (some ad145) t128.length co35) : Value).ownBlock) v134 t132) ∧ Aside0 (wc.heap[gb141]? = some (.cells #[.int .i64 ((rd_T30 l0 x15_3).f0), .int .i64 ((rd_T30 l0 x15_3).f1), .int .i64 ((rd_T30 l0 x15_3).f2), .int .i64 ((rd_T30 l0 x15_3).f3)] 30 (0, 0))) ∧ Aside0 (Below w.heap.size w wc))
                                  case first =>
                                    have H := HC59.out
                                    clear HC59
                                    by_cases c60 : t136 = (wrap64 (x15_3 + 1))
                                    · as_aux_lemma =>
                                      rw [if_pos c60] at H
                                      have c60b0 : (t136 == (wrap64 (x15_3 + 1))) = true := beq_iff_eq.mpr c60
                                      have c60b1 : (t136 != (wrap64 (x15_3 + 1))) = false := bne_eq_false_iff_eq.mpr c60
                                      clear c60
                                      (first | rw [c60b0] | (simp only [i64_w, i32_w]; rw [c60b0]) | skip)
                                      have H' := Aside0.mk H
                                      clear H
                                      go_wp2
                                      repeat (go_quiet (fail); try go_wp2)
                                      go_meet
                                      case rel => exact ⟨_, (wrap64 ((rd t128 x15_3) - 1)), (by first | rfl | (simp; done) | (simp [*]; done)), H', ⟨by have := HJ3.out; have := HJ14.out; have := HK3.out; have := HJ37.out; first | omega | exact Nat.le_refl _⟩, ⟨by (with_reducible repeat (first | apply Kd.R_alloc | apply Kd.R_drewN | apply Kd.R_drew)); exact HO_7.out⟩, ⟨by (with_reducible repeat (first | apply Kd.R_alloc | apply Kd.R_drewN | apply Kd.R_drew)); exact HO_9.out⟩, ⟨by (with_reducible repeat (first | apply Kd.R_alloc | apply Kd.R_drewN | apply Kd.R_drew)); exact HO_11.out⟩, ⟨by (with_reducible repeat (first | refine blk_drewN ?_ _ | refine blk_drew ?_ | refine blk_alloc ?_ _)); exact BK141.out⟩, ⟨by repeat (first | (with_reducible first | exact HB.out | apply below_alloc | apply pw_below_drewN | apply below_drew1 | refine below_set ?_ GE141.out) | exact HB.out)⟩⟩
                                    · as_aux_lemma =>
                                      rw [if_neg c60] at H
                                      have c60b0 : (t136 == (wrap64 (x15_3 + 1))) = false := beq_eq_false_iff_ne.mpr c60
                                      have c60b1 : (t136 != (wrap64 (x15_3 + 1))) = true := bne_iff_ne.mpr c60
                                      (first | rw [c60b0] | (simp only [i64_w, i32_w]; rw [c60b0]) | skip)
                                      have H' := Aside0.mk H
                                      clear H
                                      go_wp2
                                      repeat (go_quiet (fail); try go_wp2)
                                      go_meet
                                      case rel => exact ⟨_, (rd t128 x15_3), (by first | rfl | (simp; done) | (simp [*]; done)), H', ⟨by have := HJ3.out; have := HJ14.out; have := HK3.out; have := HJ37.out; first | omega | exact Nat.le_refl _⟩, ⟨by (with_reducible repeat (first | apply Kd.R_alloc | apply Kd.R_drewN | apply Kd.R_drew)); exact HO_7.out⟩, ⟨by (with_reducible repeat (first | apply Kd.R_alloc | apply Kd.R_drewN | apply Kd.R_drew)); exact HO_9.out⟩, ⟨by (with_reducible repeat (first | apply Kd.R_alloc | apply Kd.R_drewN | apply Kd.R_drew)); exact HO_11.out⟩, ⟨by (with_reducible repeat (first | refine blk_drewN ?_ _ | refine blk_drew ?_ | refine blk_alloc ?_ _)); exact BK141.out⟩, ⟨by repeat (first | (with_reducible first | exact HB.out | apply below_alloc | apply pw_below_drewN | apply below_drew1 | refine below_set ?_ GE141.out) | exact HB.out)⟩⟩
                                  case rest =>
                                    clear HC59
                                    try clear p1
                                    try clear q1
                                    try clear hx1
                                    try clear c2
                                    try clear p2
                                    try clear c3
                                    try clear c4
                                    try clear c5
                                    try clear c6
                                    try clear c6b0
                                    try clear c6b1
                                    try clear p6
                                    try clear c7
                                    try clear c7b0
                                    try clear c8
                                    try clear p14
                                    try clear q14
                                    try clear hx14
                                    try clear c20
                                    try clear c20b0
                                    try clear c20b1
                                    try clear c21
                                    try clear c21b0
                                    try clear c21b1
                                    try clear c22
                                    try clear c22b0
                                    try clear c22b1
                                    try clear c23
                                    try clear c23b0
                                    try clear c23b1
                                    try clear c24
                                    try clear c24b0
                                    try clear c24b1
                                    try clear c24b2
                                    try clear c25
                                    try clear c25b0
                                    try clear c25b1
                                    try clear c25b2
                                    try clear c32
                                    try clear c34
                                    try clear c34b0
                                    try clear c34b1
                                    try clear c36
                                    try clear c36b0
                                    try clear c37
                                    try clear c37b0
                                    try clear c41
                                    try clear c41b0
                                    try clear c41b1
                                    try clear c42
                                    try clear c42b0
                                    try clear c43
                                    try clear c43b0
                                    try clear c43b1
                                    try clear c44
                                    try clear c44b0
                                    try clear c51
                                    try clear c51b0
                                    try clear c52
                                    try clear c52b0
                                    try clear c56
                                    try clear c57
                                    try clear c57b0
                                    try clear c58
                                    try clear c58b0
                                    try clear c60
                                    try clear c60b0
                                    try clear c60b1
                                    try clear hcz40_0
                                    try clear hcz40_1
                                    try clear hcz40_2
                                    try clear hcz40_3
                                    try clear hcz45_0
                                    try clear hcz45_1
                                    try clear hcz45_2
                                    try clear hcz45_3
                                    try clear hcz47_0
                                    try clear hcz47_1
                                    try clear hcz47_2
                                    try clear hcz47_3
                                    try clear hcz49_0
                                    try clear hcz49_1
                                    try clear hcz49_2
                                    try clear hcz49_3
                                    try clear hcz53_0
                                    try clear hcz53_1
                                    try clear hcz53_2
                                    try clear hcz53_3
                                    try clear hcz55_0
                                    try clear hcz55_1
                                    try clear hcz55_2
                                    try clear hcz55_3
                                    try clear hfz40_0
                                    try clear hfz40_1
                                    try clear hfz40_2
                                    try clear hfz40_3
                                    try clear hfz45_0
                                    try clear hfz45_1
                                    try clear hfz45_2
                                    try clear hfz45_3
                                    try clear hfz47_0
                                    try clear hfz47_1
                                    try clear hfz47_2
                                    try clear hfz47_3
                                    try clear hfz49_0
                                    try clear hfz49_1
                                    try clear hfz49_2
                                    try clear hfz49_3
                                    try clear hfz53_0
                                    try clear hfz53_1
                                    try clear hfz53_2
                                    try clear hfz53_3
                                    try clear hfz55_0
                                    try clear hfz55_1
                                    try clear hfz55_2
                                    try clear hfz55_3
                                    try clear hx140_0
                                    try clear hx140_1
                                    try clear hx140_2
                                    try clear hx140_3
                                    try clear hx142_0
                                    try clear hx143_0
                                    try clear hx144_0
                                    try clear hx145_0
                                    try clear p1
                                    try clear p14
                                    try clear p140
                                    try clear p142
                                    try clear p143
                                    try clear p144
                                    try clear p145
                                    try clear p2
                                    try clear p6
                                    try clear q1
                                    try clear q14
                                    try clear q140
                                    try clear q142
                                    try clear q143
                                    try clear q144
                                    try clear q145
                                    obtain ⟨kq, x17_58, rfl, HA, HJ58, HO_7, HO_9, HO_11, BK141, HB⟩ := hcut
                                    cases kq with
                                    | zero => exact absurd HA.out (by simp [bulkheadlaw11_OccRule.j4])
                                    | succ kj58 =>
                                      have H := HA.out
                                      clear HA
                                      simp only [bulkheadlaw11_OccRule.j4] at H
                                      have HC61 := Aside0.mk H
                                      clear H
                                      go_upto_region 21 with (fail)
                                      repeat (go_quiet (fail); go_upto_region 21 with (fail))
                                      go_cut [157] (fun v157 wc => ∃ (kq : Nat) (x157_60 : Bool), v157 = .bool x157_60 ∧ Aside0 (bulkheadlaw11_OccRule.j5 kq l0 a1 t124 t128 t132 t136 x15_3 x17_58 x157_60 ((rd_T30 l0 x15_3).f0) ((rd_T30 l0 x15_3).f1) ((rd_T30 l0 x15_3).f2) ((rd_T30 l0 x15_3).f3) = some r) ∧ Aside0 (kq ≤ kj58) ∧ Aside0 (Kd.R (Kd.int .i64) 3 wc w.heap.size (fun k_ => some k_ ≠ ((.slice (some ad145) t128.length co35) : Value).ownBlock ∧ some k_ ≠ (v134 : Value).ownBlock) v126 t124) ∧ Aside0 (Kd.R (Kd.int .i64) 3 wc w.heap.size (fun k_ => some k_ ≠ (v126 : Value).ownBlock ∧ some k_ ≠ (v134 : Value).ownBlock) (.slice (some ad145) t128.length co35) t128) ∧ Aside0 (Kd.R (Kd.int .i64) 3 wc w.heap.size (fun k_ => some k_ ≠ (v126 : Value).ownBlock ∧ some k_ ≠ ((.slice (some ad145) t128.length co35) : Value).ownBlock) v134 t132) ∧ Aside0 (wc.heap[gb141]? = some (.cells #[.int .i64 ((rd_T30 l0 x15_3).f0), .int .i64 ((rd_T30 l0 x15_3).f1), .int .i64 ((rd_T30 l0 x15_3).f2), .int .i64 ((rd_T30 l0 x15_3).f3)] 30 (0, 0))) ∧ Aside0 (Below w.heap.size w wc))
                                      case first =>
                                        have H := HC61.out
                                        clear HC61
                                        by_cases c62 : (wrap64 (a1 + 1)) ≥ ((rd_T30 l0 x15_3).f2)
                                        · as_aux_lemma =>
                                          rw [if_pos c62] at H
                                          have c62b0 : decide (((rd_T30 l0 x15_3).f2) ≤ (wrap64 (a1 + 1))) = true := decide_eq_true c62
                                          clear c62
                                          (first | rw [c62b0] | (simp only [i64_w, i32_w]; rw [c62b0]) | skip)
                                          by_cases c63 : ((rd_T30 l0 x15_3).f0) = 0
                                          · as_aux_lemma =>
                                            rw [if_pos c63] at H
                                            exact absurd H (by simp)
                                          · as_aux_lemma =>
                                            rw [if_neg c63] at H
                                            have c63b0 : (((rd_T30 l0 x15_3).f0) == 0) = false := beq_eq_false_iff_ne.mpr c63
                                            have c63b1 : (((rd_T30 l0 x15_3).f0) != 0) = true := bne_iff_ne.mpr c63
                                            have H' := Aside0.mk H
                                            clear H
                                            have hcz64_0 : wc.cell? ⟨gb141, 0, none⟩ = some (.int .i64 ((rd_T30 l0 x15_3).f0)) := (blk_cell BK141.out 0).trans rfl
                                            have hcz64_1 : wc.cell? ⟨gb141, 1, none⟩ = some (.int .i64 ((rd_T30 l0 x15_3).f1)) := (blk_cell BK141.out 1).trans rfl
                                            have hcz64_2 : wc.cell? ⟨gb141, 2, none⟩ = some (.int .i64 ((rd_T30 l0 x15_3).f2)) := (blk_cell BK141.out 2).trans rfl
                                            have hcz64_3 : wc.cell? ⟨gb141, 3, none⟩ = some (.int .i64 ((rd_T30 l0 x15_3).f3)) := (blk_cell BK141.out 3).trans rfl
                                            have hfz64_0 := blk_frozen BK141.out 0
                                            have hfz64_1 := blk_frozen BK141.out 1
                                            have hfz64_2 := blk_frozen BK141.out 2
                                            have hfz64_3 := blk_frozen BK141.out 3
                                            go_wp2
                                            repeat (go_quiet (fail); try go_wp2)
                                            go_meet
                                            case rel => exact ⟨_, (((Int.tmod (wrap64 ((wrap64 (a1 + 1)) - ((rd_T30 l0 x15_3).f2))) ((rd_T30 l0 x15_3).f0)) == 0)), (by first | rfl | (simp; done) | (simp [*]; done)), H', ⟨by have := HJ3.out; have := HJ14.out; have := HK3.out; have := HJ37.out; have := HJ58.out; first | omega | exact Nat.le_refl _⟩, ⟨by (with_reducible repeat (first | apply Kd.R_alloc | apply Kd.R_drewN | apply Kd.R_drew)); exact HO_7.out⟩, ⟨by (with_reducible repeat (first | apply Kd.R_alloc | apply Kd.R_drewN | apply Kd.R_drew)); exact HO_9.out⟩, ⟨by (with_reducible repeat (first | apply Kd.R_alloc | apply Kd.R_drewN | apply Kd.R_drew)); exact HO_11.out⟩, ⟨by (with_reducible repeat (first | refine blk_drewN ?_ _ | refine blk_drew ?_ | refine blk_alloc ?_ _)); exact BK141.out⟩, ⟨by repeat (first | (with_reducible first | exact HB.out | apply below_alloc | apply pw_below_drewN | apply below_drew1 | refine below_set ?_ GE141.out) | exact HB.out)⟩⟩
                                        · as_aux_lemma =>
                                          rw [if_neg c62] at H
                                          have c62b0 : decide (((rd_T30 l0 x15_3).f2) ≤ (wrap64 (a1 + 1))) = false := decide_eq_false c62
                                          clear c62
                                          (first | rw [c62b0] | (simp only [i64_w, i32_w]; rw [c62b0]) | skip)
                                          have H' := Aside0.mk H
                                          clear H
                                          have hcz65_0 : wc.cell? ⟨gb141, 0, none⟩ = some (.int .i64 ((rd_T30 l0 x15_3).f0)) := (blk_cell BK141.out 0).trans rfl
                                          have hcz65_1 : wc.cell? ⟨gb141, 1, none⟩ = some (.int .i64 ((rd_T30 l0 x15_3).f1)) := (blk_cell BK141.out 1).trans rfl
                                          have hcz65_2 : wc.cell? ⟨gb141, 2, none⟩ = some (.int .i64 ((rd_T30 l0 x15_3).f2)) := (blk_cell BK141.out 2).trans rfl
                                          have hcz65_3 : wc.cell? ⟨gb141, 3, none⟩ = some (.int .i64 ((rd_T30 l0 x15_3).f3)) := (blk_cell BK141.out 3).trans rfl
                                          have hfz65_0 := blk_frozen BK141.out 0
                                          have hfz65_1 := blk_frozen BK141.out 1
                                          have hfz65_2 := blk_frozen BK141.out 2
                                          have hfz65_3 := blk_frozen BK141.out 3
                                          go_wp2
                                          repeat (go_quiet (fail); try go_wp2)
                                          go_meet
                                          case rel => exact ⟨_, (false), (by first | rfl | (simp; done) | (simp [*]; done)), H', ⟨by have := HJ3.out; have := HJ14.out; have := HK3.out; have := HJ37.out; have := HJ58.out; first | omega | exact Nat.le_refl _⟩, ⟨by (with_reducible repeat (first | apply Kd.R_alloc | apply Kd.R_drewN | apply Kd.R_drew)); exact HO_7.out⟩, ⟨by (with_reducible repeat (first | apply Kd.R_alloc | apply Kd.R_drewN | apply Kd.R_drew)); exact HO_9.out⟩, ⟨by (with_reducible repeat (first | apply Kd.R_alloc | apply Kd.R_drewN | apply Kd.R_drew)); exact HO_11.out⟩, ⟨by (with_reducible repeat (first | refine blk_drewN ?_ _ | refine blk_drew ?_ | refine blk_alloc ?_ _)); exact BK141.out⟩, ⟨by repeat (first | (with_reducible first | exact HB.out | apply below_alloc | apply pw_below_drewN | apply below_drew1 | refine below_set ?_ GE141.out) | exact HB.out)⟩⟩
                                      case rest =>
                                        clear HC61
                                        try clear p1
                                        try clear q1
                                        try clear hx1
                                        try clear c2
                                        try clear p2
                                        try clear c3
                                        try clear c4
                                        try clear c5
                                        try clear c6
                                        try clear c6b0
                                        try clear c6b1
                                        try clear p6
                                        try clear c7
                                        try clear c7b0
                                        try clear c8
                                        try clear p14
                                        try clear q14
                                        try clear hx14
                                        try clear c20
                                        try clear c20b0
                                        try clear c20b1
                                        try clear c21
                                        try clear c21b0
                                        try clear c21b1
                                        try clear c22
                                        try clear c22b0
                                        try clear c22b1
                                        try clear c23
                                        try clear c23b0
                                        try clear c23b1
                                        try clear c24
                                        try clear c24b0
                                        try clear c24b1
                                        try clear c24b2
                                        try clear c25
                                        try clear c25b0
                                        try clear c25b1
                                        try clear c25b2
                                        try clear c32
                                        try clear c34
                                        try clear c34b0
                                        try clear c34b1
                                        try clear c36
                                        try clear c36b0
                                        try clear c37
                                        try clear c37b0
                                        try clear c41
                                        try clear c41b0
                                        try clear c41b1
                                        try clear c42
                                        try clear c42b0
                                        try clear c43
                                        try clear c43b0
                                        try clear c43b1
                                        try clear c44
                                        try clear c44b0
                                        try clear c51
                                        try clear c51b0
                                        try clear c52
                                        try clear c52b0
                                        try clear c56
                                        try clear c57
                                        try clear c57b0
                                        try clear c58
                                        try clear c58b0
                                        try clear c60
                                        try clear c60b0
                                        try clear c60b1
                                        try clear c62
                                        try clear c62b0
                                        try clear c63
                                        try clear c63b0
                                        try clear c63b1
                                        try clear p64
                                        try clear hcz40_0
                                        try clear hcz40_1
                                        try clear hcz40_2
                                        try clear hcz40_3
                                        try clear hcz45_0
                                        try clear hcz45_1
                                        try clear hcz45_2
                                        try clear hcz45_3
                                        try clear hcz47_0
                                        try clear hcz47_1
                                        try clear hcz47_2
                                        try clear hcz47_3
                                        try clear hcz49_0
                                        try clear hcz49_1
                                        try clear hcz49_2
                                        try clear hcz49_3
                                        try clear hcz53_0
                                        try clear hcz53_1
                                        try clear hcz53_2
                                        try clear hcz53_3
                                        try clear hcz55_0
                                        try clear hcz55_1
                                        try clear hcz55_2
                                        try clear hcz55_3
                                        try clear hcz64_0
                                        try clear hcz64_1
                                        try clear hcz64_2
                                        try clear hcz64_3
                                        try clear hcz65_0
                                        try clear hcz65_1
                                        try clear hcz65_2
                                        try clear hcz65_3
                                        try clear hfz40_0
                                        try clear hfz40_1
                                        try clear hfz40_2
                                        try clear hfz40_3
                                        try clear hfz45_0
                                        try clear hfz45_1
                                        try clear hfz45_2
                                        try clear hfz45_3
                                        try clear hfz47_0
                                        try clear hfz47_1
                                        try clear hfz47_2
                                        try clear hfz47_3
                                        try clear hfz49_0
                                        try clear hfz49_1
                                        try clear hfz49_2
                                        try clear hfz49_3
                                        try clear hfz53_0
                                        try clear hfz53_1
                                        try clear hfz53_2
                                        try clear hfz53_3
                                        try clear hfz55_0
                                        try clear hfz55_1
                                        try clear hfz55_2
                                        try clear hfz55_3
                                        try clear hfz64_0
                                        try clear hfz64_1
                                        try clear hfz64_2
                                        try clear hfz64_3
                                        try clear hfz65_0
                                        try clear hfz65_1
                                        try clear hfz65_2
                                        try clear hfz65_3
                                        try clear hx140_0
                                        try clear hx140_1
                                        try clear hx140_2
                                        try clear hx140_3
                                        try clear hx142_0
                                        try clear hx143_0
                                        try clear hx144_0
                                        try clear hx145_0
                                        try clear p1
                                        try clear p14
                                        try clear p140
                                        try clear p142
                                        try clear p143
                                        try clear p144
                                        try clear p145
                                        try clear p2
                                        try clear p6
                                        try clear q1
                                        try clear q14
                                        try clear q140
                                        try clear q142
                                        try clear q143
                                        try clear q144
                                        try clear q145
                                        obtain ⟨kq, x157_60, rfl, HA, HJ60, HO_7, HO_9, HO_11, BK141, HB⟩ := hcut
                                        cases kq with
                                        | zero => exact absurd HA.out (by simp [bulkheadlaw11_OccRule.j5])
                                        | succ kj60 =>
                                          have H := HA.out
                                          clear HA
                                          simp only [bulkheadlaw11_OccRule.j5] at H
                                          by_cases c66 : x157_60 = true
                                          · subst c66
                                            have H1 : (if 0 ≤ x15_3 then (if x15_3 < (t132.length : Int) then (if (rd t132 x15_3) = ((rd_T30 l0 x15_3).f1) then (bulkheadlaw11_OccRule.l0 kj60 l0 a1 t124 t128 t132 t136 (wrap64 (x15_3 + 1))) else (some false)) else (none)) else (none)) = some r := by rw [if_pos rfl] at H; exact H
                                            clear H
                                            have H := H1
                                            clear H1
                                            by_cases c67 : 0 ≤ x15_3
                                            · as_aux_lemma =>
                                              rw [if_pos c67] at H
                                              have c67b0 : decide (0 ≤ x15_3) = true := decide_eq_true c67
                                              clear c67
                                              by_cases c68 : x15_3 < (t132.length : Int)
                                              · as_aux_lemma =>
                                                rw [if_pos c68] at H
                                                have c68b0 : decide (x15_3 < (t132.length : Int)) = true := decide_eq_true c68
                                                clear c68
                                                by_cases c69 : (rd t132 x15_3) = ((rd_T30 l0 x15_3).f1)
                                                · as_aux_lemma =>
                                                  rw [if_pos c69] at H
                                                  have c69b0 : ((rd t132 x15_3) == ((rd_T30 l0 x15_3).f1)) = true := beq_iff_eq.mpr c69
                                                  have c69b1 : ((rd t132 x15_3) != ((rd_T30 l0 x15_3).f1)) = false := bne_eq_false_iff_eq.mpr c69
                                                  clear c69
                                                  have H' := Aside0.mk H
                                                  clear H
                                                  have hcz70_0 : wc.cell? ⟨gb141, 0, none⟩ = some (.int .i64 ((rd_T30 l0 x15_3).f0)) := (blk_cell BK141.out 0).trans rfl
                                                  have hcz70_1 : wc.cell? ⟨gb141, 1, none⟩ = some (.int .i64 ((rd_T30 l0 x15_3).f1)) := (blk_cell BK141.out 1).trans rfl
                                                  have hcz70_2 : wc.cell? ⟨gb141, 2, none⟩ = some (.int .i64 ((rd_T30 l0 x15_3).f2)) := (blk_cell BK141.out 2).trans rfl
                                                  have hcz70_3 : wc.cell? ⟨gb141, 3, none⟩ = some (.int .i64 ((rd_T30 l0 x15_3).f3)) := (blk_cell BK141.out 3).trans rfl
                                                  have hfz70_0 := blk_frozen BK141.out 0
                                                  have hfz70_1 := blk_frozen BK141.out 1
                                                  have hfz70_2 := blk_frozen BK141.out 2
                                                  have hfz70_3 := blk_frozen BK141.out 3
                                                  obtain ⟨Ao71, co71, eo71⟩ := Kd.R_slice HO_11.out
                                                  subst eo71
                                                  have p146 : 0 ≤ (x15_3 : Int) := of_decide_eq_true (by first | (with_reducible assumption) | assumption)
                                                  have q146 : x15_3 < (t132.length : Int) := of_decide_eq_true (by first | (with_reducible assumption) | assumption)
                                                  obtain ⟨ad146, e146, hx146_0⟩ := Kd.at_int (Kd.R_reads' HO_11.out).2.2 x15_3 p146 q146
                                                  cases e146
                                                  replace p146 := eq_true p146
                                                  replace q146 := eq_true q146
                                                  go_wp2
                                                  repeat (go_quiet (fail); try go_wp2)
                                                  go_roundg kj60
                                                  case measure => have := HJ3.out; have := HJ14.out; have := HK3.out; have := HJ37.out; have := HJ58.out; have := HJ60.out; omega
                                                  case rel => exact ⟨(wrap64 (x15_3 + 1)), (by first | rfl | (simp; done) | (simp [*]; done)), H', ⟨by have := HJ3.out; have := HJ14.out; have := HK3.out; have := HJ37.out; have := HJ58.out; have := HJ60.out; omega⟩, ⟨by (with_reducible repeat (first | apply Kd.R_alloc | apply Kd.R_drewN | apply Kd.R_drew)); exact HO_7.out⟩, ⟨by (with_reducible repeat (first | apply Kd.R_alloc | apply Kd.R_drewN | apply Kd.R_drew)); exact HO_9.out⟩, ⟨by (with_reducible repeat (first | apply Kd.R_alloc | apply Kd.R_drewN | apply Kd.R_drew)); exact HO_11.out⟩, ⟨by repeat (first | (with_reducible first | exact HB.out | apply below_alloc | apply pw_below_drewN | apply below_drew1 | refine below_set ?_ GE141.out) | exact HB.out)⟩⟩
                                                · as_aux_lemma =>
                                                  rw [if_neg c69] at H
                                                  have c69b0 : ((rd t132 x15_3) == ((rd_T30 l0 x15_3).f1)) = false := beq_eq_false_iff_ne.mpr c69
                                                  have c69b1 : ((rd t132 x15_3) != ((rd_T30 l0 x15_3).f1)) = true := bne_iff_ne.mpr c69
                                                  obtain rfl := Option.some.inj H
                                                  have hcz72_0 : wc.cell? ⟨gb141, 0, none⟩ = some (.int .i64 ((rd_T30 l0 x15_3).f0)) := (blk_cell BK141.out 0).trans rfl
                                                  have hcz72_1 : wc.cell? ⟨gb141, 1, none⟩ = some (.int .i64 ((rd_T30 l0 x15_3).f1)) := (blk_cell BK141.out 1).trans rfl
                                                  have hcz72_2 : wc.cell? ⟨gb141, 2, none⟩ = some (.int .i64 ((rd_T30 l0 x15_3).f2)) := (blk_cell BK141.out 2).trans rfl
                                                  have hcz72_3 : wc.cell? ⟨gb141, 3, none⟩ = some (.int .i64 ((rd_T30 l0 x15_3).f3)) := (blk_cell BK141.out 3).trans rfl
                                                  have hfz72_0 := blk_frozen BK141.out 0
                                                  have hfz72_1 := blk_frozen BK141.out 1
                                                  have hfz72_2 := blk_frozen BK141.out 2
                                                  have hfz72_3 := blk_frozen BK141.out 3
                                                  obtain ⟨Ao73, co73, eo73⟩ := Kd.R_slice HO_11.out
                                                  subst eo73
                                                  have p146 : 0 ≤ (x15_3 : Int) := of_decide_eq_true (by first | (with_reducible assumption) | assumption)
                                                  have q146 : x15_3 < (t132.length : Int) := of_decide_eq_true (by first | (with_reducible assumption) | assumption)
                                                  obtain ⟨ad146, e146, hx146_0⟩ := Kd.at_int (Kd.R_reads' HO_11.out).2.2 x15_3 p146 q146
                                                  cases e146
                                                  replace p146 := eq_true p146
                                                  replace q146 := eq_true q146
                                                  go_wp2
                                                  repeat (go_quiet (fail); try go_wp2)
                                                  go_ret
                                                  exact ⟨by first | rfl | (simp [errW_none, errW_some] <;> rfl) | (simp [*, errW_none, errW_some] <;> rfl), by repeat (first | (with_reducible first | exact HB.out | apply below_alloc | apply pw_below_drewN | apply below_drew1 | refine below_set ?_ GE141.out) | exact HB.out)⟩
                                              · as_aux_lemma =>
                                                rw [if_neg c68] at H
                                                exact absurd H (by simp)
                                            · as_aux_lemma =>
                                              rw [if_neg c67] at H
                                              exact absurd H (by simp)
                                          · replace c66 := Bool.eq_false_iff.mpr c66
                                            subst c66
                                            have H1 : (if 0 ≤ x15_3 then (if x15_3 < (t132.length : Int) then (if (rd t132 x15_3) = x17_58 then (bulkheadlaw11_OccRule.l0 kj60 l0 a1 t124 t128 t132 t136 (wrap64 (x15_3 + 1))) else (some false)) else (none)) else (none)) = some r := by rw [if_neg (show ¬ (false = true) by decide)] at H; exact H
                                            clear H
                                            have H := H1
                                            clear H1
                                            by_cases c74 : 0 ≤ x15_3
                                            · as_aux_lemma =>
                                              rw [if_pos c74] at H
                                              have c74b0 : decide (0 ≤ x15_3) = true := decide_eq_true c74
                                              clear c74
                                              by_cases c75 : x15_3 < (t132.length : Int)
                                              · as_aux_lemma =>
                                                rw [if_pos c75] at H
                                                have c75b0 : decide (x15_3 < (t132.length : Int)) = true := decide_eq_true c75
                                                clear c75
                                                by_cases c76 : (rd t132 x15_3) = x17_58
                                                · as_aux_lemma =>
                                                  rw [if_pos c76] at H
                                                  have c76b0 : ((rd t132 x15_3) == x17_58) = true := beq_iff_eq.mpr c76
                                                  have c76b1 : ((rd t132 x15_3) != x17_58) = false := bne_eq_false_iff_eq.mpr c76
                                                  clear c76
                                                  have H' := Aside0.mk H
                                                  clear H
                                                  obtain ⟨Ao77, co77, eo77⟩ := Kd.R_slice HO_11.out
                                                  subst eo77
                                                  have p147 : 0 ≤ (x15_3 : Int) := of_decide_eq_true (by first | (with_reducible assumption) | assumption)
                                                  have q147 : x15_3 < (t132.length : Int) := of_decide_eq_true (by first | (with_reducible assumption) | assumption)
                                                  obtain ⟨ad147, e147, hx147_0⟩ := Kd.at_int (Kd.R_reads' HO_11.out).2.2 x15_3 p147 q147
                                                  cases e147
                                                  replace p147 := eq_true p147
                                                  replace q147 := eq_true q147
                                                  go_wp2
                                                  repeat (go_quiet (fail); try go_wp2)
                                                  go_roundg kj60
                                                  case measure => have := HJ3.out; have := HJ14.out; have := HK3.out; have := HJ37.out; have := HJ58.out; have := HJ60.out; omega
                                                  case rel => exact ⟨(wrap64 (x15_3 + 1)), (by first | rfl | (simp; done) | (simp [*]; done)), H', ⟨by have := HJ3.out; have := HJ14.out; have := HK3.out; have := HJ37.out; have := HJ58.out; have := HJ60.out; omega⟩, ⟨by (with_reducible repeat (first | apply Kd.R_alloc | apply Kd.R_drewN | apply Kd.R_drew)); exact HO_7.out⟩, ⟨by (with_reducible repeat (first | apply Kd.R_alloc | apply Kd.R_drewN | apply Kd.R_drew)); exact HO_9.out⟩, ⟨by (with_reducible repeat (first | apply Kd.R_alloc | apply Kd.R_drewN | apply Kd.R_drew)); exact HO_11.out⟩, ⟨by repeat (first | (with_reducible first | exact HB.out | apply below_alloc | apply pw_below_drewN | apply below_drew1 | refine below_set ?_ GE141.out) | exact HB.out)⟩⟩
                                                · as_aux_lemma =>
                                                  rw [if_neg c76] at H
                                                  have c76b0 : ((rd t132 x15_3) == x17_58) = false := beq_eq_false_iff_ne.mpr c76
                                                  have c76b1 : ((rd t132 x15_3) != x17_58) = true := bne_iff_ne.mpr c76
                                                  obtain rfl := Option.some.inj H
                                                  obtain ⟨Ao78, co78, eo78⟩ := Kd.R_slice HO_11.out
                                                  subst eo78
                                                  have p147 : 0 ≤ (x15_3 : Int) := of_decide_eq_true (by first | (with_reducible assumption) | assumption)
                                                  have q147 : x15_3 < (t132.length : Int) := of_decide_eq_true (by first | (with_reducible assumption) | assumption)
                                                  obtain ⟨ad147, e147, hx147_0⟩ := Kd.at_int (Kd.R_reads' HO_11.out).2.2 x15_3 p147 q147
                                                  cases e147
                                                  replace p147 := eq_true p147
                                                  replace q147 := eq_true q147
                                                  go_wp2
                                                  repeat (go_quiet (fail); try go_wp2)
                                                  go_ret
                                                  exact ⟨by first | rfl | (simp [errW_none, errW_some] <;> rfl) | (simp [*, errW_none, errW_some] <;> rfl), by repeat (first | (with_reducible first | exact HB.out | apply below_alloc | apply pw_below_drewN | apply below_drew1 | refine below_set ?_ GE141.out) | exact HB.out)⟩
                                              · as_aux_lemma =>
                                                rw [if_neg c75] at H
                                                exact absurd H (by simp)
                                            · as_aux_lemma =>
                                              rw [if_neg c74] at H
                                              exact absurd H (by simp)
                                · as_aux_lemma =>
                                  rw [if_neg c58] at H
                                  exact absurd H (by simp)
                              · as_aux_lemma =>
                                rw [if_neg c57] at H
                                exact absurd H (by simp)
                      · as_aux_lemma =>
                        rw [if_neg c37] at H
                        exact absurd H (by simp)
                    · as_aux_lemma =>
                      rw [if_neg c36] at H
                      have c36b0 : decide (x15_3 < (l0.length : Int)) = false := decide_eq_false c36
                      clear c36
                      replace H := Option.bind_eq_some_iff.mp H
                      obtain ⟨t139, A790, H⟩ := H
                      replace H : (some t139) = some r := H
                      have A79 := Aside0.mk A790
                      clear A790
                      obtain rfl := Option.some.inj H
                      go_wp2_with (first | (go_at_call 11; (with_reducible refine (bulkheadlaw11_works.calls  t139 _ ?side1 A79.out).mono ?_); (case side1 => repeat (first | exact (GH_below HG.out HB.out) | (with_reducible refine GH_alloc ?_ _) | (with_reducible refine GH_drewN ?_ _) | (with_reducible refine GH_drew ?_))); rintro e w80 ⟨rfl, hb⟩; have n0_ := Aside0.mk (Kd.R_below (by (with_reducible repeat (first | apply Kd.R_alloc | apply Kd.R_drewN | apply Kd.R_drew)); exact HO_7.out) hb); have n1_ := Aside0.mk (Kd.R_below (by (with_reducible repeat (first | apply Kd.R_alloc | apply Kd.R_drewN | apply Kd.R_drew)); exact HO_9.out) hb); have n2_ := Aside0.mk (Kd.R_below (by (with_reducible repeat (first | apply Kd.R_alloc | apply Kd.R_drewN | apply Kd.R_drew)); exact HO_11.out) hb); have n3_ := Aside0.mk (below_step (by repeat (first | (with_reducible first | exact HB.out | apply below_alloc | apply pw_below_drewN | apply below_drew1) | exact HB.out)) hb); clear HO_7; clear HO_9; clear HO_11; clear HB; have HO_7 := n0_; have HO_9 := n1_; have HO_11 := n2_; have HB := n3_; clear n0_ n1_ n2_ n3_; (try clear hb); (try clear hb2); (try clear hk); (try clear hi)))
                      repeat (go_quiet (first | (go_at_call 11; (with_reducible refine (bulkheadlaw11_works.calls  t139 _ ?side1 A79.out).mono ?_); (case side1 => repeat (first | exact (GH_below HG.out HB.out) | (with_reducible refine GH_alloc ?_ _) | (with_reducible refine GH_drewN ?_ _) | (with_reducible refine GH_drew ?_))); rintro e w80 ⟨rfl, hb⟩; have n0_ := Aside0.mk (Kd.R_below (by (with_reducible repeat (first | apply Kd.R_alloc | apply Kd.R_drewN | apply Kd.R_drew)); exact HO_7.out) hb); have n1_ := Aside0.mk (Kd.R_below (by (with_reducible repeat (first | apply Kd.R_alloc | apply Kd.R_drewN | apply Kd.R_drew)); exact HO_9.out) hb); have n2_ := Aside0.mk (Kd.R_below (by (with_reducible repeat (first | apply Kd.R_alloc | apply Kd.R_drewN | apply Kd.R_drew)); exact HO_11.out) hb); have n3_ := Aside0.mk (below_step (by repeat (first | (with_reducible first | exact HB.out | apply below_alloc | apply pw_below_drewN | apply below_drew1) | exact HB.out)) hb); clear HO_7; clear HO_9; clear HO_11; clear HB; have HO_7 := n0_; have HO_9 := n1_; have HO_11 := n2_; have HB := n3_; clear n0_ n1_ n2_ n3_; (try clear hb); (try clear hb2); (try clear hk); (try clear hi))); try go_wp2_with (first | (go_at_call 11; (with_reducible refine (bulkheadlaw11_works.calls  t139 _ ?side1 A79.out).mono ?_); (case side1 => repeat (first | exact (GH_below HG.out HB.out) | (with_reducible refine GH_alloc ?_ _) | (with_reducible refine GH_drewN ?_ _) | (with_reducible refine GH_drew ?_))); rintro e w80 ⟨rfl, hb⟩; have n0_ := Aside0.mk (Kd.R_below (by (with_reducible repeat (first | apply Kd.R_alloc | apply Kd.R_drewN | apply Kd.R_drew)); exact HO_7.out) hb); have n1_ := Aside0.mk (Kd.R_below (by (with_reducible repeat (first | apply Kd.R_alloc | apply Kd.R_drewN | apply Kd.R_drew)); exact HO_9.out) hb); have n2_ := Aside0.mk (Kd.R_below (by (with_reducible repeat (first | apply Kd.R_alloc | apply Kd.R_drewN | apply Kd.R_drew)); exact HO_11.out) hb); have n3_ := Aside0.mk (below_step (by repeat (first | (with_reducible first | exact HB.out | apply below_alloc | apply pw_below_drewN | apply below_drew1) | exact HB.out)) hb); clear HO_7; clear HO_9; clear HO_11; clear HB; have HO_7 := n0_; have HO_9 := n1_; have HO_11 := n2_; have HB := n3_; clear n0_ n1_ n2_ n3_; (try clear hb); (try clear hb2); (try clear hk); (try clear hi))))
                      go_ret
                      exact ⟨by first | rfl | (simp [errW_none, errW_some] <;> rfl) | (simp [*, errW_none, errW_some] <;> rfl), by repeat (first | (with_reducible first | exact HB.out | apply below_alloc | apply pw_below_drewN | apply below_drew1) | exact HB.out)⟩
              · as_aux_lemma =>
                rw [if_neg c34] at H
                have c34b0 : (t136 == t138) = false := beq_eq_false_iff_ne.mpr c34
                have c34b1 : (t136 != t138) = true := bne_iff_ne.mpr c34
                obtain rfl := Option.some.inj H
                obtain ⟨Ao81, co81, eo81⟩ := Kd.R_slice HO_9.out
                subst eo81
                go_wp2_with (first | (go_at_call 23; (with_reducible refine (bulkheadlaw11_chosen.calls kj14 _ _ l0 _ _ t128 t138 _ ?side1 ?side2 ?side3 ?side4 A33.out).mono ?_); (case side1 => repeat (first | exact (Kd.C_below HR0.out HB.out) | (with_reducible refine Kd.C_alloc ?_ _) | (with_reducible refine Kd.C_drewN ?_ _) | (with_reducible refine Kd.C_drew ?_))); (case side2 => exact HC0.out); (case side3 => repeat (first | exact (Kd.R_reads' HO_9.out).2.2 | (with_reducible refine Kd.C_alloc ?_ _) | (with_reducible refine Kd.C_drewN ?_ _) | (with_reducible refine Kd.C_drew ?_))); (case side4 => exact (Kd.R_reads' HO_9.out).2.1); rintro e w' ⟨rfl, ⟨nd, rfl⟩⟩; (try first | exact ⟨rfl, _, World.drewN_drewN _ _ _⟩ | exact ⟨rfl, _, Eq.trans (World.drewN_drewN _ _ _) (congrArg (World.drewN _) (Nat.add_assoc _ _ _))⟩)))
                repeat (go_quiet (first | (go_at_call 23; (with_reducible refine (bulkheadlaw11_chosen.calls kj14 _ _ l0 _ _ t128 t138 _ ?side1 ?side2 ?side3 ?side4 A33.out).mono ?_); (case side1 => repeat (first | exact (Kd.C_below HR0.out HB.out) | (with_reducible refine Kd.C_alloc ?_ _) | (with_reducible refine Kd.C_drewN ?_ _) | (with_reducible refine Kd.C_drew ?_))); (case side2 => exact HC0.out); (case side3 => repeat (first | exact (Kd.R_reads' HO_9.out).2.2 | (with_reducible refine Kd.C_alloc ?_ _) | (with_reducible refine Kd.C_drewN ?_ _) | (with_reducible refine Kd.C_drew ?_))); (case side4 => exact (Kd.R_reads' HO_9.out).2.1); rintro e w' ⟨rfl, ⟨nd, rfl⟩⟩; (try first | exact ⟨rfl, _, World.drewN_drewN _ _ _⟩ | exact ⟨rfl, _, Eq.trans (World.drewN_drewN _ _ _) (congrArg (World.drewN _) (Nat.add_assoc _ _ _))⟩))); try go_wp2_with (first | (go_at_call 23; (with_reducible refine (bulkheadlaw11_chosen.calls kj14 _ _ l0 _ _ t128 t138 _ ?side1 ?side2 ?side3 ?side4 A33.out).mono ?_); (case side1 => repeat (first | exact (Kd.C_below HR0.out HB.out) | (with_reducible refine Kd.C_alloc ?_ _) | (with_reducible refine Kd.C_drewN ?_ _) | (with_reducible refine Kd.C_drew ?_))); (case side2 => exact HC0.out); (case side3 => repeat (first | exact (Kd.R_reads' HO_9.out).2.2 | (with_reducible refine Kd.C_alloc ?_ _) | (with_reducible refine Kd.C_drewN ?_ _) | (with_reducible refine Kd.C_drew ?_))); (case side4 => exact (Kd.R_reads' HO_9.out).2.1); rintro e w' ⟨rfl, ⟨nd, rfl⟩⟩; (try first | exact ⟨rfl, _, World.drewN_drewN _ _ _⟩ | exact ⟨rfl, _, Eq.trans (World.drewN_drewN _ _ _) (congrArg (World.drewN _) (Nat.add_assoc _ _ _))⟩))))
                go_ret
                exact ⟨by first | rfl | (simp [errW_none, errW_some] <;> rfl) | (simp [*, errW_none, errW_some] <;> rfl), by repeat (first | (with_reducible first | exact HB.out | apply below_alloc | apply pw_below_drewN | apply below_drew1) | exact HB.out)⟩

end Go.Proofs.YtmphhgcmmcomjaaDoor.B
