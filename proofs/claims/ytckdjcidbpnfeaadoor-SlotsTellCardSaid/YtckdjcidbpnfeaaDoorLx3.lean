/- Lean functions for the Go functions of one law, and proofs that the calls come to them: made by a program of this session (wip/tools/plug.py) over the printer of the kit; no conditions. -/
import Derived.Test.YtckdjcidbpnfeaaDoorLx0
import Derived.Test.YtckdjcidbpnfeaaDoorLx2
import Derived.Test.YtckdjcidbpnfeaaDoorBx2
import Derived.Test.YtckdjcidbpnfeaaDoorHAt
import Derived.Test.YtckdjcidbpnfeaaDoorHCheck2
import Derived.Test.YtckdjcidbpnfeaaDoorHMake13
import Derived.Test.YtckdjcidbpnfeaaDoorHSlotAt13
import Derived.Test.YtckdjcidbpnfeaaDoorHCheck2
namespace Go.Proofs.YtckdjcidbpnfeaaDoor.B
open Go.RowKit Go.Proofs.YtckdjcidbpnfeaaDoorW.PrintWords Go.Proofs.YtckdjcidbpnfeaaDoorW.PrintLast Go.Proofs.YtckdjcidbpnfeaaDoorW.PrintMore
attribute [local go_sem] max2_int min2_int max_two min_two max_three min_three max_four min_four   -- for this text's walks alone
set_option linter.unusedVariables false
set_option linter.unusedSimpArgs false

/-! ### bulkheadlaw13_SlotsTell: function 5 -/
mutual
def bulkheadlaw13_SlotsTell.j0 : Nat → List (S24) → List Int → Int → Int → Int → Bool → List (S72) → List (S72) → Option (Bool)
  | 0, _, _, _, _, _, _, _, _ => none
  | k + 1, x0, x1, x5, x6, x8, x30, x154000, x154001 => if x30 = true then (if x8 = x6 then ((bulkheadlaw13_lives.f k).bind fun t154 => (some t154)) else (some false)) else (if x8 = 0 then ((bulkheadlaw13_total.f k x154000).bind fun t155 => (if t155 = x5 then ((bulkheadlaw13_total.f k x154001).bind fun t156 => (if t156 = x5 then ((bulkheadlaw13_tight.f k x154000 (x0.length : Int)).bind fun t157 => (if t157 = true then ((bulkheadlaw13_tight.f k x154001 (x0.length : Int)).bind fun t158 => (if t158 = true then (if (wrap64 ((x154000.length : Int) + (x154001.length : Int))) > 131074 then (bulkheadlaw13_SlotsTell.j1 k x0 x1 true x154000 x154001) else ((bulkheadlaw13_lives.f k).bind fun t159 => (bulkheadlaw13_SlotsTell.j1 k x0 x1 (!t159) x154000 x154001))) else (bulkheadlaw13_SlotsTell.j1 k x0 x1 true x154000 x154001))) else (bulkheadlaw13_SlotsTell.j1 k x0 x1 true x154000 x154001))) else (bulkheadlaw13_SlotsTell.j1 k x0 x1 true x154000 x154001))) else (bulkheadlaw13_SlotsTell.j1 k x0 x1 true x154000 x154001))) else (bulkheadlaw13_SlotsTell.j1 k x0 x1 true x154000 x154001))
def bulkheadlaw13_SlotsTell.j1 : Nat → List (S24) → List Int → Bool → List (S72) → List (S72) → Option (Bool)
  | 0, _, _, _, _, _ => none
  | k + 1, x0, x1, x82, x154000, x154001 => if x82 = true then (some false) else (bulkheadlaw13_SlotsTell.l0 k x0 x1 0 x154000 x154001)
def bulkheadlaw13_SlotsTell.l0 : Nat → List (S24) → List Int → Int → List (S72) → List (S72) → Option (Bool)
  | 0, _, _, _, _, _ => none
  | k + 1, x0, x1, x9, x154000, x154001 => if x9 < (x1.length : Int) then (if 0 ≤ x9 then ((occ_At.f x0 (rd x1 x9)).bind fun bt161 => ((slots_At.f x154000 x154001 (rd x1 x9)).bind fun bt164 => (if bt161.1 = bt164.1 then (if bt161.2 = bt164.2 then (bulkheadlaw13_SlotsTell.l0 k x0 x1 (wrap64 (x9 + 1)) x154000 x154001) else (some false)) else (some false)))) else (none)) else (some true)
end
def bulkheadlaw13_SlotsTell.f (k : Nat) (l0 : List (S24)) (l1 : List Int) : Option (Bool) := (check_Hyper.f l0).bind fun bt144 => ((slots_Make.f l0).bind fun bt146 => (if bt144.2 = 0 then (bulkheadlaw13_SlotsTell.j0 k l0 l1 bt144.1 bt144.2 bt146.2.2 (decide ((l1.length : Int) > 1000)) bt146.1 bt146.2.1) else (bulkheadlaw13_SlotsTell.j0 k l0 l1 bt144.1 bt144.2 bt146.2.2 true bt146.1 bt146.2.1)))
theorem bulkheadlaw13_SlotsTell.mono_l : ∀ k, (∀ y0 y1 y2 y3 y4 y5 y6 y7, LeO (bulkheadlaw13_SlotsTell.j0 k y0 y1 y2 y3 y4 y5 y6 y7) (bulkheadlaw13_SlotsTell.j0 (k + 1) y0 y1 y2 y3 y4 y5 y6 y7)) ∧ (∀ y0 y1 y2 y3 y4, LeO (bulkheadlaw13_SlotsTell.j1 k y0 y1 y2 y3 y4) (bulkheadlaw13_SlotsTell.j1 (k + 1) y0 y1 y2 y3 y4)) ∧ (∀ y0 y1 y2 y3 y4, LeO (bulkheadlaw13_SlotsTell.l0 k y0 y1 y2 y3 y4) (bulkheadlaw13_SlotsTell.l0 (k + 1) y0 y1 y2 y3 y4))
  | 0 => ⟨fun _ _ _ _ _ _ _ _ r h => by simp [bulkheadlaw13_SlotsTell.j0] at h, fun _ _ _ _ _ r h => by simp [bulkheadlaw13_SlotsTell.j1] at h, fun _ _ _ _ _ r h => by simp [bulkheadlaw13_SlotsTell.l0] at h⟩
  | k + 1 => by
    obtain ⟨ih0, ih1, ih2⟩ := bulkheadlaw13_SlotsTell.mono_l k
    refine ⟨?_, ?_, ?_⟩
    · intro y0 y1 y2 y3 y4 y5 y6 y7
      unfold bulkheadlaw13_SlotsTell.j0
      repeat' first
      | (with_reducible exact ih0 _ _ _ _ _ _ _ _)
      | (with_reducible exact ih1 _ _ _ _ _)
      | (with_reducible exact ih2 _ _ _ _ _)
      | (with_reducible exact bulkheadlaw13_lives.mono _)
      | (with_reducible exact bulkheadlaw13_tight.mono _ _ _)
      | (with_reducible exact bulkheadlaw13_total.mono _ _)
      | (with_reducible exact LeO.refl _)
      | (with_reducible exact LeO.none _)
      | (with_reducible refine LeO.ite ?_ ?_)
      | (with_reducible refine LeO.bind ?_ (fun _ => ?_))
      | exact ih0 _ _ _ _ _ _ _ _
      | exact ih1 _ _ _ _ _
      | exact ih2 _ _ _ _ _
      | exact bulkheadlaw13_lives.mono _
      | exact bulkheadlaw13_tight.mono _ _ _
      | exact bulkheadlaw13_total.mono _ _
      | exact LeO.none _
      | refine LeO.ite ?_ ?_
      | refine LeO.bind ?_ (fun _ => ?_)
    · intro y0 y1 y2 y3 y4
      unfold bulkheadlaw13_SlotsTell.j1
      repeat' first
      | (with_reducible exact ih0 _ _ _ _ _ _ _ _)
      | (with_reducible exact ih1 _ _ _ _ _)
      | (with_reducible exact ih2 _ _ _ _ _)
      | (with_reducible exact bulkheadlaw13_lives.mono _)
      | (with_reducible exact bulkheadlaw13_tight.mono _ _ _)
      | (with_reducible exact bulkheadlaw13_total.mono _ _)
      | (with_reducible exact LeO.refl _)
      | (with_reducible exact LeO.none _)
      | (with_reducible refine LeO.ite ?_ ?_)
      | (with_reducible refine LeO.bind ?_ (fun _ => ?_))
      | exact ih0 _ _ _ _ _ _ _ _
      | exact ih1 _ _ _ _ _
      | exact ih2 _ _ _ _ _
      | exact bulkheadlaw13_lives.mono _
      | exact bulkheadlaw13_tight.mono _ _ _
      | exact bulkheadlaw13_total.mono _ _
      | exact LeO.none _
      | refine LeO.ite ?_ ?_
      | refine LeO.bind ?_ (fun _ => ?_)
    · intro y0 y1 y2 y3 y4
      unfold bulkheadlaw13_SlotsTell.l0
      repeat' first
      | (with_reducible exact ih0 _ _ _ _ _ _ _ _)
      | (with_reducible exact ih1 _ _ _ _ _)
      | (with_reducible exact ih2 _ _ _ _ _)
      | (with_reducible exact bulkheadlaw13_lives.mono _)
      | (with_reducible exact bulkheadlaw13_tight.mono _ _ _)
      | (with_reducible exact bulkheadlaw13_total.mono _ _)
      | (with_reducible exact LeO.refl _)
      | (with_reducible exact LeO.none _)
      | (with_reducible refine LeO.ite ?_ ?_)
      | (with_reducible refine LeO.bind ?_ (fun _ => ?_))
      | exact ih0 _ _ _ _ _ _ _ _
      | exact ih1 _ _ _ _ _
      | exact ih2 _ _ _ _ _
      | exact bulkheadlaw13_lives.mono _
      | exact bulkheadlaw13_tight.mono _ _ _
      | exact bulkheadlaw13_total.mono _ _
      | exact LeO.none _
      | refine LeO.ite ?_ ?_
      | refine LeO.bind ?_ (fun _ => ?_)
theorem bulkheadlaw13_SlotsTell.mono : ∀ a0 a1 k, LeO (bulkheadlaw13_SlotsTell.f k a0 a1) (bulkheadlaw13_SlotsTell.f (k + 1) a0 a1) := by
  intro a0 a1 k
  obtain ⟨ih0, ih1, ih2⟩ := bulkheadlaw13_SlotsTell.mono_l k
  unfold bulkheadlaw13_SlotsTell.f
  repeat' first
      | (with_reducible exact ih0 _ _ _ _ _ _ _ _)
      | (with_reducible exact ih1 _ _ _ _ _)
      | (with_reducible exact ih2 _ _ _ _ _)
      | (with_reducible exact bulkheadlaw13_lives.mono _)
      | (with_reducible exact bulkheadlaw13_tight.mono _ _ _)
      | (with_reducible exact bulkheadlaw13_total.mono _ _)
      | (with_reducible exact LeO.refl _)
      | (with_reducible exact LeO.none _)
      | (with_reducible refine LeO.ite ?_ ?_)
      | (with_reducible refine LeO.bind ?_ (fun _ => ?_))
      | exact ih0 _ _ _ _ _ _ _ _
      | exact ih1 _ _ _ _ _
      | exact ih2 _ _ _ _ _
      | exact bulkheadlaw13_lives.mono _
      | exact bulkheadlaw13_tight.mono _ _ _
      | exact bulkheadlaw13_total.mono _ _
      | exact LeO.none _
      | refine LeO.ite ?_ ?_
      | refine LeO.bind ?_ (fun _ => ?_)
def bulkheadlaw13_SlotsTell.T11 : Bool × List (List Nat × List Nat) := (true, [([], []), ([], []), ([], []), ([1, 2], [1, 2]), ([3], [3]), ([0, 4], [0, 4]), ([5], [5]), ([6], [6]), ([6], [6]), ([7, 5, 0, 1, 2, 3, 4, 5, 6, 7], [7]), ([8, 9, 0, 1, 2, 3, 4, 5, 6, 7, 8, 9], [8])])
def bulkheadlaw13_SlotsTell.B11 : List Nat := [0, 0, 0, 6, 14, 31, 63, 127, 127, 255, 1023]
theorem bulkheadlaw13_SlotsTell.tab11 : rtab .any (opsOf Tryd.f5 11) = bulkheadlaw13_SlotsTell.T11 := by kernel_rfl
theorem bulkheadlaw13_SlotsTell.bits11 : waitsOk bulkheadlaw13_SlotsTell.T11.2 bulkheadlaw13_SlotsTell.B11 = true := by kernel_rfl
set_option maxHeartbeats 8000000 in
set_option maxRecDepth 100000 in
theorem bulkheadlaw13_SlotsTell.calls (k : Nat) (A0 : Option Addr) (c0 : Nat) (l0 : List (S24)) (A1 : Option Addr) (c1 : Nat) (l1 : List Int) (r : Bool) (w : World) (hr0 : Kd.C k24 w A0 l0.length l0) (hc0 : l0.length ≤ c0) (hr1 : Kd.C (Kd.int .i64) w A1 l1.length l1) (hc1 : l1.length ≤ c1) (hG : GH w) (h : bulkheadlaw13_SlotsTell.f k l0 l1 = some r) :
    Calls Tryd.prog 5 #[.slice A0 l0.length c0, .slice A1 l1.length c1] w fun e w' => e = .returned (.bool r) ∧ Below w.heap.size w w' := by
  have hu27 := Tryd.underlying27
  have HR0 := Aside0.mk hr0
  have HC0 := Aside0.mk hc0
  clear hr0 hc0
  have HR1 := Aside0.mk hr1
  have HC1 := Aside0.mk hc1
  clear hr1 hc1
  have HG := Aside0.mk hG
  clear hG
  have HB := Aside0.mk (Below.refl w.heap.size w)
  have H : ((check_Hyper.f l0).bind fun bt144 => ((slots_Make.f l0).bind fun bt146 => (if bt144.2 = 0 then (bulkheadlaw13_SlotsTell.j0 k l0 l1 bt144.1 bt144.2 bt146.2.2 (decide ((l1.length : Int) > 1000)) bt146.1 bt146.2.1) else (bulkheadlaw13_SlotsTell.j0 k l0 l1 bt144.1 bt144.2 bt146.2.2 true bt146.1 bt146.2.1)))) = some r := h
  clear h
  replace H := Option.bind_eq_some_iff.mp H
  obtain ⟨⟨t144, t145⟩, A30, H⟩ := H
  replace H : ((slots_Make.f l0).bind fun bt146 => (if t145 = 0 then (bulkheadlaw13_SlotsTell.j0 k l0 l1 t144 t145 bt146.2.2 (decide ((l1.length : Int) > 1000)) bt146.1 bt146.2.1) else (bulkheadlaw13_SlotsTell.j0 k l0 l1 t144 t145 bt146.2.2 true bt146.1 bt146.2.1))) = some r := H
  have A3 := Aside0.mk A30
  clear A30
  replace H := Option.bind_eq_some_iff.mp H
  obtain ⟨⟨t146, t149, t152⟩, A40, H⟩ := H
  replace H : (if t145 = 0 then (bulkheadlaw13_SlotsTell.j0 k l0 l1 t144 t145 t152 (decide ((l1.length : Int) > 1000)) t146 t149) else (bulkheadlaw13_SlotsTell.j0 k l0 l1 t144 t145 t152 true t146 t149)) = some r := H
  have A4 := Aside0.mk A40
  clear A40
  have HC5 := Aside0.mk H
  clear H
  go_enter Tryd.func5, Tryd.ntmps5
  go_upto_region 3 with (first | ((with_reducible refine gate_callee (f := 23) rfl ?_); refine goesL_ (some 16) rfl rfl Tryd.func23 (by kernel_rfl) rfl #[.slice A0 l0.length c0] rfl (by (try simp only [List.map_toArray, List.map_cons, List.map_nil]); first | done | rfl | (simp only [List.length_drop, List.length_take]; rfl)) ?_; (with_reducible refine (check_Hyper.calls _ _ l0 t144 t145 _ ?side1 ?side2 ?side3 A3.out).mono ?_); (case side1 => repeat (first | exact HR0.out | (with_reducible refine Kd.C_alloc ?_ _) | (with_reducible refine Kd.C_drewN ?_ _) | (with_reducible refine Kd.C_drew ?_))); (case side2 => exact HC0.out); (case side3 => repeat (first | exact HG.out | (with_reducible refine GH_alloc ?_ _) | (with_reducible refine GH_drewN ?_ _) | (with_reducible refine GH_drew ?_))); rintro e w6 ⟨rfl, hb⟩; refine ⟨_, rfl, ?_⟩; have n0_ := Aside0.mk (below_step (by repeat (first | (with_reducible first | exact HB.out | apply below_alloc | apply pw_below_drewN | apply below_drew1) | exact HB.out)) hb); clear HB; have HB := n0_; clear n0_; (try clear hb); (try clear hb2); (try clear hk); (try clear hi)) | ((with_reducible refine gate_callee (f := 9) rfl ?_); refine goesL_ (some 21) rfl rfl Tryd.func9 (by kernel_rfl) rfl #[.slice A0 l0.length c0] rfl (by (try simp only [List.map_toArray, List.map_cons, List.map_nil]); first | done | rfl | (simp only [List.length_drop, List.length_take]; rfl)) ?_; (with_reducible refine (slots_Make.calls _ _ l0 t146 t149 t152 _ ?side1 ?side2 ?side3 A4.out).mono ?_); (case side1 => repeat (first | exact (Kd.C_below HR0.out HB.out) | (with_reducible refine Kd.C_alloc ?_ _) | (with_reducible refine Kd.C_drewN ?_ _) | (with_reducible refine Kd.C_drew ?_))); (case side2 => exact HC0.out); (case side3 => repeat (first | exact (GH_below HG.out HB.out) | (with_reducible refine GH_alloc ?_ _) | (with_reducible refine GH_drewN ?_ _) | (with_reducible refine GH_drew ?_))); rintro e w7 ⟨v147, v150, rfl, ho0, ho1, hb⟩; refine ⟨_, rfl, ?_⟩; have n0_ := Aside0.mk (TV_lower ho0 (below_size (by repeat (first | (with_reducible first | exact HB.out | apply below_alloc | apply pw_below_drewN | apply below_drew1) | exact HB.out)))); have n1_ := Aside0.mk (TV_lower ho1 (below_size (by repeat (first | (with_reducible first | exact HB.out | apply below_alloc | apply pw_below_drewN | apply below_drew1) | exact HB.out)))); have n2_ := Aside0.mk (below_step (by repeat (first | (with_reducible first | exact HB.out | apply below_alloc | apply pw_below_drewN | apply below_drew1) | exact HB.out)) hb); clear HB; have HO148 := n0_; have HO151 := n1_; have HB := n2_; clear n0_ n1_ n2_; (try clear hb); (try clear hb2); (try clear hk); (try clear hi); (try clear ho0); (try clear ho1)) | ((with_reducible refine gate_dst (N := 7) rfl ?_); (try (refine gate_guard (by rfl) ?_; dsimp only)); refine box_event ?hg (N := 7) ?hd (cs := #[.slice none 0 0, .slice none 0 0]) (t := 27) ?hr ?_; (case hd => rfl); (case hg => rfl); (case hr => first | (go_simp; done) | (go_simp; rfl)); intro gb153 hg w8 hbox hb; have n0_ := Aside0.mk (TV_below (by (with_reducible repeat (first | apply TV_alloc | apply TV_drewN | apply TV_drew)); exact HO148.out) hb); have n1_ := Aside0.mk (TV_below (by (with_reducible repeat (first | apply TV_alloc | apply TV_drewN | apply TV_drew)); exact HO151.out) hb); have n2_ := Aside0.mk (below_step (by repeat (first | (with_reducible first | exact HB.out | apply below_alloc | apply pw_below_drewN | apply below_drew1) | exact HB.out)) hb); have n3_ := Aside0.mk (hbox); have n4_ := Aside0.mk ((by rw [hg]; exact (below_size (by repeat (first | (with_reducible first | exact HB.out | apply below_alloc | apply pw_below_drewN | apply below_drew1) | exact HB.out))) : w.heap.size ≤ gb153)); have n5_ := Aside0.mk ((by rw [hg]; exact (below_size (by repeat (first | (with_reducible first | exact HB.out | apply below_alloc | apply pw_below_drewN | apply below_drew1) | exact HB.out))) : w.heap.size ≤ gb153)); clear HO148; clear HO151; clear HB; have HO148 := n0_; have HO151 := n1_; have HB := n2_; have BK153 := n3_; have GW153 := n4_; have GE153 := n5_; clear n0_ n1_ n2_ n3_ n4_ n5_; clear hb hbox hg; obtain ⟨Ao9, co9, eo9⟩ := TV_slice HO148.out; subst eo9; have hcz10_0 : w8.cell? ⟨gb153, 0, none⟩ = some (.slice none 0 0) := (blk_cell BK153.out 0).trans rfl; have hcz10_1 : w8.cell? ⟨gb153, 1, none⟩ = some (.slice none 0 0) := (blk_cell BK153.out 1).trans rfl; have hfz10_0 := blk_frozen BK153.out 0; have hfz10_1 := blk_frozen BK153.out 1; obtain ⟨Ao11, co11, eo11⟩ := TV_slice HO151.out; subst eo11))
  (try simp only [Act.put, List.setIfInBounds_toArray, List.set_cons_zero, List.set_cons_succ])
  go_cut [30] (fun v30 wc => ∃ (kq : Nat) (x30_4 : Bool), v30 = .bool x30_4 ∧ Aside0 (bulkheadlaw13_SlotsTell.j0 kq l0 l1 t144 t145 t152 x30_4 t146 t149 = some r) ∧ Aside0 (kq ≤ k) ∧ Aside0 (TV k72 72 wc w.heap.size (fun _ => True) (.slice Ao9 t146.length co9) t146) ∧ Aside0 (TV k72 72 wc w.heap.size (fun _ => True) (.slice Ao11 t149.length co11) t149) ∧ Aside0 (wc.heap[gb153]? = some (.cells #[(.slice Ao9 t146.length co9), (.slice Ao11 t149.length co11)] 27 (0, 0))) ∧ Aside0 (Below w.heap.size w wc))
  case first =>
    have H := HC5.out
    clear HC5
    by_cases c12 : t145 = 0
    · as_aux_lemma =>
      rw [if_pos c12] at H
      have c12b0 : (t145 == 0) = true := beq_iff_eq.mpr c12
      have c12b1 : (t145 != 0) = false := bne_eq_false_iff_eq.mpr c12
      clear c12
      (first | rw [c12b0] | (simp only [i64_w, i32_w]; rw [c12b0]) | skip)
      have H' := Aside0.mk H
      clear H
      go_wp2
      go_meet
      case rel => exact ⟨_, (decide ((l1.length : Int) > 1000)), (by first | rfl | (simp; done) | (simp [*]; done)), H', ⟨by first | omega | exact Nat.le_refl _⟩, ⟨by (with_reducible repeat (first | apply TV_alloc | apply TV_drewN | apply TV_drew)); exact TV_mono (TV_far (p := ⟨gb153, 1, none⟩) (TV_far (p := ⟨gb153, 0, none⟩) (TV_types HO148.out BK153.out (by decide)) (fun _ hk => hk.2) (.slice Ao9 t146.length co9)) (fun _ hk => hk.2) (.slice Ao11 t149.length co11)) (fun _ hk => hk.1)⟩, ⟨by (with_reducible repeat (first | apply TV_alloc | apply TV_drewN | apply TV_drew)); exact TV_mono (TV_far (p := ⟨gb153, 1, none⟩) (TV_far (p := ⟨gb153, 0, none⟩) (TV_types HO151.out BK153.out (by decide)) (fun _ hk => hk.2) (.slice Ao9 t146.length co9)) (fun _ hk => hk.2) (.slice Ao11 t149.length co11)) (fun _ hk => hk.1)⟩, ⟨by (with_reducible repeat (first | refine blk_drewN ?_ _ | refine blk_drew ?_ | refine blk_alloc ?_ _)); refine blk_put (cs := #[.slice Ao9 t146.length co9, .slice none 0 0]) ?_ 1 _ rfl; (with_reducible repeat (first | refine blk_drewN ?_ _ | refine blk_drew ?_ | refine blk_alloc ?_ _)); refine blk_put (cs := #[.slice none 0 0, .slice none 0 0]) ?_ 0 _ rfl; (with_reducible repeat (first | refine blk_drewN ?_ _ | refine blk_drew ?_ | refine blk_alloc ?_ _)); exact BK153.out⟩, ⟨by repeat (first | (with_reducible first | exact HB.out | apply below_alloc | apply pw_below_drewN | apply below_drew1 | refine below_set ?_ GE153.out) | exact HB.out)⟩⟩
    · as_aux_lemma =>
      rw [if_neg c12] at H
      have c12b0 : (t145 == 0) = false := beq_eq_false_iff_ne.mpr c12
      have c12b1 : (t145 != 0) = true := bne_iff_ne.mpr c12
      (first | rw [c12b0] | (simp only [i64_w, i32_w]; rw [c12b0]) | skip)
      have H' := Aside0.mk H
      clear H
      go_wp2
      go_meet
      case rel => exact ⟨_, (true), (by first | rfl | (simp; done) | (simp [*]; done)), H', ⟨by first | omega | exact Nat.le_refl _⟩, ⟨by (with_reducible repeat (first | apply TV_alloc | apply TV_drewN | apply TV_drew)); exact TV_mono (TV_far (p := ⟨gb153, 1, none⟩) (TV_far (p := ⟨gb153, 0, none⟩) (TV_types HO148.out BK153.out (by decide)) (fun _ hk => hk.2) (.slice Ao9 t146.length co9)) (fun _ hk => hk.2) (.slice Ao11 t149.length co11)) (fun _ hk => hk.1)⟩, ⟨by (with_reducible repeat (first | apply TV_alloc | apply TV_drewN | apply TV_drew)); exact TV_mono (TV_far (p := ⟨gb153, 1, none⟩) (TV_far (p := ⟨gb153, 0, none⟩) (TV_types HO151.out BK153.out (by decide)) (fun _ hk => hk.2) (.slice Ao9 t146.length co9)) (fun _ hk => hk.2) (.slice Ao11 t149.length co11)) (fun _ hk => hk.1)⟩, ⟨by (with_reducible repeat (first | refine blk_drewN ?_ _ | refine blk_drew ?_ | refine blk_alloc ?_ _)); refine blk_put (cs := #[.slice Ao9 t146.length co9, .slice none 0 0]) ?_ 1 _ rfl; (with_reducible repeat (first | refine blk_drewN ?_ _ | refine blk_drew ?_ | refine blk_alloc ?_ _)); refine blk_put (cs := #[.slice none 0 0, .slice none 0 0]) ?_ 0 _ rfl; (with_reducible repeat (first | refine blk_drewN ?_ _ | refine blk_drew ?_ | refine blk_alloc ?_ _)); exact BK153.out⟩, ⟨by repeat (first | (with_reducible first | exact HB.out | apply below_alloc | apply pw_below_drewN | apply below_drew1 | refine below_set ?_ GE153.out) | exact HB.out)⟩⟩
  case rest =>
    clear HC5
    try clear c1
    try clear c2
    try clear p2
    try clear c5
    try clear c9
    try clear c12
    try clear c12b0
    try clear c12b1
    try clear hcz10_0
    try clear hcz10_1
    try clear hfz10_0
    try clear hfz10_1
    obtain ⟨kq, x30_4, rfl, HA, HJ4, HO_154000, HO_154001, BK153, HB⟩ := hcut
    cases kq with
    | zero => exact absurd HA.out (by simp [bulkheadlaw13_SlotsTell.j0])
    | succ kj4 =>
      have H := HA.out
      clear HA
      simp only [bulkheadlaw13_SlotsTell.j0] at H
      by_cases c13 : x30_4 = true
      · subst c13
        have H1 : (if t152 = t145 then ((bulkheadlaw13_lives.f kj4).bind fun t154 => (some t154)) else (some false)) = some r := by rw [if_pos rfl] at H; exact H
        clear H
        have H := H1
        clear H1
        by_cases c14 : t152 = t145
        · as_aux_lemma =>
          rw [if_pos c14] at H
          have c14b0 : (t152 == t145) = true := beq_iff_eq.mpr c14
          have c14b1 : (t152 != t145) = false := bne_eq_false_iff_eq.mpr c14
          clear c14
          replace H := Option.bind_eq_some_iff.mp H
          obtain ⟨t154, A150, H⟩ := H
          replace H : (some t154) = some r := H
          have A15 := Aside0.mk A150
          clear A150
          obtain rfl := Option.some.inj H
          go_wp2_with (first | (go_at_call 12; (with_reducible refine (bulkheadlaw13_lives.calls kj4  t154 _ ?side1 A15.out).mono ?_); (case side1 => repeat (first | exact (GH_below HG.out HB.out) | (with_reducible refine GH_alloc ?_ _) | (with_reducible refine GH_drewN ?_ _) | (with_reducible refine GH_drew ?_))); rintro e w16 ⟨rfl, hb⟩; have n0_ := Aside0.mk (TV_below (by (with_reducible repeat (first | apply TV_alloc | apply TV_drewN | apply TV_drew)); exact HO_154000.out) hb); have n1_ := Aside0.mk (TV_below (by (with_reducible repeat (first | apply TV_alloc | apply TV_drewN | apply TV_drew)); exact HO_154001.out) hb); have n2_ := Aside0.mk (blk_below (g := gb153) (o := .cells #[.slice Ao9 t146.length co9, .slice Ao11 t149.length co11] 27 (0, 0)) (by (with_reducible repeat (first | refine blk_drewN ?_ _ | refine blk_drew ?_ | refine blk_alloc ?_ _)); exact BK153.out) hb); have n3_ := Aside0.mk (below_step (by repeat (first | (with_reducible first | exact HB.out | apply below_alloc | apply pw_below_drewN | apply below_drew1 | refine below_set ?_ GE153.out) | exact HB.out)) hb); clear HO_154000; clear HO_154001; clear BK153; clear HB; have HO_154000 := n0_; have HO_154001 := n1_; have BK153 := n2_; have HB := n3_; clear n0_ n1_ n2_ n3_; (try clear hb); (try clear hb2); (try clear hk); (try clear hi)))
          go_ret
          exact ⟨by first | rfl | (simp [errW_none, errW_some] <;> rfl) | (simp [*, errW_none, errW_some] <;> rfl), by repeat (first | (with_reducible first | exact HB.out | apply below_alloc | apply pw_below_drewN | apply below_drew1 | refine below_set ?_ GE153.out) | exact HB.out)⟩
        · as_aux_lemma =>
          rw [if_neg c14] at H
          have c14b0 : (t152 == t145) = false := beq_eq_false_iff_ne.mpr c14
          have c14b1 : (t152 != t145) = true := bne_iff_ne.mpr c14
          obtain rfl := Option.some.inj H
          go_wp2
          go_ret
          exact ⟨by first | rfl | (simp [errW_none, errW_some] <;> rfl) | (simp [*, errW_none, errW_some] <;> rfl), by repeat (first | (with_reducible first | exact HB.out | apply below_alloc | apply pw_below_drewN | apply below_drew1 | refine below_set ?_ GE153.out) | exact HB.out)⟩
      · replace c13 := Bool.eq_false_iff.mpr c13
        subst c13
        have H1 : (if t152 = 0 then ((bulkheadlaw13_total.f kj4 t146).bind fun t155 => (if t155 = t144 then ((bulkheadlaw13_total.f kj4 t149).bind fun t156 => (if t156 = t144 then ((bulkheadlaw13_tight.f kj4 t146 (l0.length : Int)).bind fun t157 => (if t157 = true then ((bulkheadlaw13_tight.f kj4 t149 (l0.length : Int)).bind fun t158 => (if t158 = true then (if (wrap64 ((t146.length : Int) + (t149.length : Int))) > 131074 then (bulkheadlaw13_SlotsTell.j1 kj4 l0 l1 true t146 t149) else ((bulkheadlaw13_lives.f kj4).bind fun t159 => (bulkheadlaw13_SlotsTell.j1 kj4 l0 l1 (!t159) t146 t149))) else (bulkheadlaw13_SlotsTell.j1 kj4 l0 l1 true t146 t149))) else (bulkheadlaw13_SlotsTell.j1 kj4 l0 l1 true t146 t149))) else (bulkheadlaw13_SlotsTell.j1 kj4 l0 l1 true t146 t149))) else (bulkheadlaw13_SlotsTell.j1 kj4 l0 l1 true t146 t149))) else (bulkheadlaw13_SlotsTell.j1 kj4 l0 l1 true t146 t149)) = some r := by rw [if_neg (show ¬ (false = true) by decide)] at H; exact H
        clear H
        have H := H1
        clear H1
        have HC17 := Aside0.mk H
        clear H
        go_upto_region 5 with (fail)
        go_cut [82] (fun v82 wc => ∃ (kq : Nat) (x82_16 : Bool), v82 = .bool x82_16 ∧ Aside0 (bulkheadlaw13_SlotsTell.j1 kq l0 l1 x82_16 t146 t149 = some r) ∧ Aside0 (kq ≤ kj4) ∧ Aside0 (TV k72 72 wc w.heap.size (fun _ => True) (.slice Ao9 t146.length co9) t146) ∧ Aside0 (TV k72 72 wc w.heap.size (fun _ => True) (.slice Ao11 t149.length co11) t149) ∧ Aside0 (wc.heap[gb153]? = some (.cells #[(.slice Ao9 t146.length co9), (.slice Ao11 t149.length co11)] 27 (0, 0))) ∧ Aside0 (Below w.heap.size w wc))
        case first =>
          have H := HC17.out
          clear HC17
          by_cases c18 : t152 = 0
          · as_aux_lemma =>
            rw [if_pos c18] at H
            have c18b0 : (t152 == 0) = true := beq_iff_eq.mpr c18
            have c18b1 : (t152 != 0) = false := bne_eq_false_iff_eq.mpr c18
            clear c18
            (first | rw [c18b0] | (simp only [i64_w, i32_w]; rw [c18b0]) | skip)
            replace H := Option.bind_eq_some_iff.mp H
            obtain ⟨t155, A190, H⟩ := H
            replace H : (if t155 = t144 then ((bulkheadlaw13_total.f kj4 t149).bind fun t156 => (if t156 = t144 then ((bulkheadlaw13_tight.f kj4 t146 (l0.length : Int)).bind fun t157 => (if t157 = true then ((bulkheadlaw13_tight.f kj4 t149 (l0.length : Int)).bind fun t158 => (if t158 = true then (if (wrap64 ((t146.length : Int) + (t149.length : Int))) > 131074 then (bulkheadlaw13_SlotsTell.j1 kj4 l0 l1 true t146 t149) else ((bulkheadlaw13_lives.f kj4).bind fun t159 => (bulkheadlaw13_SlotsTell.j1 kj4 l0 l1 (!t159) t146 t149))) else (bulkheadlaw13_SlotsTell.j1 kj4 l0 l1 true t146 t149))) else (bulkheadlaw13_SlotsTell.j1 kj4 l0 l1 true t146 t149))) else (bulkheadlaw13_SlotsTell.j1 kj4 l0 l1 true t146 t149))) else (bulkheadlaw13_SlotsTell.j1 kj4 l0 l1 true t146 t149)) = some r := H
            have A19 := Aside0.mk A190
            clear A190
            by_cases c20 : t155 = t144
            · as_aux_lemma =>
              rw [if_pos c20] at H
              have c20b0 : (t155 == t144) = true := beq_iff_eq.mpr c20
              have c20b1 : (t155 != t144) = false := bne_eq_false_iff_eq.mpr c20
              clear c20
              replace H := Option.bind_eq_some_iff.mp H
              obtain ⟨t156, A210, H⟩ := H
              replace H : (if t156 = t144 then ((bulkheadlaw13_tight.f kj4 t146 (l0.length : Int)).bind fun t157 => (if t157 = true then ((bulkheadlaw13_tight.f kj4 t149 (l0.length : Int)).bind fun t158 => (if t158 = true then (if (wrap64 ((t146.length : Int) + (t149.length : Int))) > 131074 then (bulkheadlaw13_SlotsTell.j1 kj4 l0 l1 true t146 t149) else ((bulkheadlaw13_lives.f kj4).bind fun t159 => (bulkheadlaw13_SlotsTell.j1 kj4 l0 l1 (!t159) t146 t149))) else (bulkheadlaw13_SlotsTell.j1 kj4 l0 l1 true t146 t149))) else (bulkheadlaw13_SlotsTell.j1 kj4 l0 l1 true t146 t149))) else (bulkheadlaw13_SlotsTell.j1 kj4 l0 l1 true t146 t149)) = some r := H
              have A21 := Aside0.mk A210
              clear A210
              by_cases c22 : t156 = t144
              · as_aux_lemma =>
                rw [if_pos c22] at H
                have c22b0 : (t156 == t144) = true := beq_iff_eq.mpr c22
                have c22b1 : (t156 != t144) = false := bne_eq_false_iff_eq.mpr c22
                clear c22
                replace H := Option.bind_eq_some_iff.mp H
                obtain ⟨t157, A230, H⟩ := H
                replace H : (if t157 = true then ((bulkheadlaw13_tight.f kj4 t149 (l0.length : Int)).bind fun t158 => (if t158 = true then (if (wrap64 ((t146.length : Int) + (t149.length : Int))) > 131074 then (bulkheadlaw13_SlotsTell.j1 kj4 l0 l1 true t146 t149) else ((bulkheadlaw13_lives.f kj4).bind fun t159 => (bulkheadlaw13_SlotsTell.j1 kj4 l0 l1 (!t159) t146 t149))) else (bulkheadlaw13_SlotsTell.j1 kj4 l0 l1 true t146 t149))) else (bulkheadlaw13_SlotsTell.j1 kj4 l0 l1 true t146 t149)) = some r := H
                have A23 := Aside0.mk A230
                clear A230
                by_cases c24 : t157 = true
                · subst c24
                  have H1 : ((bulkheadlaw13_tight.f kj4 t149 (l0.length : Int)).bind fun t158 => (if t158 = true then (if (wrap64 ((t146.length : Int) + (t149.length : Int))) > 131074 then (bulkheadlaw13_SlotsTell.j1 kj4 l0 l1 true t146 t149) else ((bulkheadlaw13_lives.f kj4).bind fun t159 => (bulkheadlaw13_SlotsTell.j1 kj4 l0 l1 (!t159) t146 t149))) else (bulkheadlaw13_SlotsTell.j1 kj4 l0 l1 true t146 t149))) = some r := by rw [if_pos rfl] at H; exact H
                  clear H
                  have H := H1
                  clear H1
                  replace H := Option.bind_eq_some_iff.mp H
                  obtain ⟨t158, A250, H⟩ := H
                  replace H : (if t158 = true then (if (wrap64 ((t146.length : Int) + (t149.length : Int))) > 131074 then (bulkheadlaw13_SlotsTell.j1 kj4 l0 l1 true t146 t149) else ((bulkheadlaw13_lives.f kj4).bind fun t159 => (bulkheadlaw13_SlotsTell.j1 kj4 l0 l1 (!t159) t146 t149))) else (bulkheadlaw13_SlotsTell.j1 kj4 l0 l1 true t146 t149)) = some r := H
                  have A25 := Aside0.mk A250
                  clear A250
                  by_cases c26 : t158 = true
                  · subst c26
                    have H1 : (if (wrap64 ((t146.length : Int) + (t149.length : Int))) > 131074 then (bulkheadlaw13_SlotsTell.j1 kj4 l0 l1 true t146 t149) else ((bulkheadlaw13_lives.f kj4).bind fun t159 => (bulkheadlaw13_SlotsTell.j1 kj4 l0 l1 (!t159) t146 t149))) = some r := by rw [if_pos rfl] at H; exact H
                    clear H
                    have H := H1
                    clear H1
                    by_cases c27 : (wrap64 ((t146.length : Int) + (t149.length : Int))) > 131074
                    · as_aux_lemma =>
                      rw [if_pos c27] at H
                      have c27b0 : decide (131074 < (wrap64 ((t146.length : Int) + (t149.length : Int)))) = true := decide_eq_true c27
                      clear c27
                      have H' := Aside0.mk H
                      clear H
                      have hcz28_0 : wc.cell? ⟨gb153, 0, none⟩ = some (.slice Ao9 t146.length co9) := (blk_cell BK153.out 0).trans rfl
                      have hcz28_1 : wc.cell? ⟨gb153, 1, none⟩ = some (.slice Ao11 t149.length co11) := (blk_cell BK153.out 1).trans rfl
                      have hfz28_0 := blk_frozen BK153.out 0
                      have hfz28_1 := blk_frozen BK153.out 1
                      go_wp2_with (first | (go_at_call 15; (with_reducible refine (bulkheadlaw13_total.calls kj4 _ _ t146 t155 _ ?side1 ?side2 A19.out).mono ?_); (case side1 => repeat (first | exact (TV_reads' HO_154000.out).2.2 | (with_reducible refine Kd.C_alloc ?_ _) | (with_reducible refine Kd.C_drewN ?_ _) | (with_reducible refine Kd.C_drew ?_))); (case side2 => exact (TV_reads' HO_154000.out).2.1); rintro e w' ⟨rfl, ⟨nd, rfl⟩⟩) | (go_at_call 15; (with_reducible refine (bulkheadlaw13_total.calls kj4 _ _ t149 t156 _ ?side1 ?side2 A21.out).mono ?_); (case side1 => repeat (first | exact (TV_reads' HO_154001.out).2.2 | (with_reducible refine Kd.C_alloc ?_ _) | (with_reducible refine Kd.C_drewN ?_ _) | (with_reducible refine Kd.C_drew ?_))); (case side2 => exact (TV_reads' HO_154001.out).2.1); rintro e w' ⟨rfl, ⟨nd, rfl⟩⟩) | (go_at_call 24; (with_reducible refine (bulkheadlaw13_tight.calls kj4 _ _ t146 (l0.length : Int) true _ ?side1 ?side2 A23.out).mono ?_); (case side1 => repeat (first | exact (TV_reads' HO_154000.out).2.2 | (with_reducible refine Kd.C_alloc ?_ _) | (with_reducible refine Kd.C_drewN ?_ _) | (with_reducible refine Kd.C_drew ?_))); (case side2 => exact (TV_reads' HO_154000.out).2.1); rintro e w' ⟨rfl, ⟨nd, rfl⟩⟩) | (go_at_call 24; (with_reducible refine (bulkheadlaw13_tight.calls kj4 _ _ t149 (l0.length : Int) true _ ?side1 ?side2 A25.out).mono ?_); (case side1 => repeat (first | exact (TV_reads' HO_154001.out).2.2 | (with_reducible refine Kd.C_alloc ?_ _) | (with_reducible refine Kd.C_drewN ?_ _) | (with_reducible refine Kd.C_drew ?_))); (case side2 => exact (TV_reads' HO_154001.out).2.1); rintro e w' ⟨rfl, ⟨nd, rfl⟩⟩))
                      go_meet
                      case rel => exact ⟨_, (true), (by first | rfl | (simp; done) | (simp [*]; done)), H', ⟨by have := HJ4.out; first | omega | exact Nat.le_refl _⟩, ⟨by (with_reducible repeat (first | apply TV_alloc | apply TV_drewN | apply TV_drew)); exact HO_154000.out⟩, ⟨by (with_reducible repeat (first | apply TV_alloc | apply TV_drewN | apply TV_drew)); exact HO_154001.out⟩, ⟨by (with_reducible repeat (first | refine blk_drewN ?_ _ | refine blk_drew ?_ | refine blk_alloc ?_ _)); exact BK153.out⟩, ⟨by repeat (first | (with_reducible first | exact HB.out | apply below_alloc | apply pw_below_drewN | apply below_drew1 | refine below_set ?_ GE153.out) | exact HB.out)⟩⟩
                    · as_aux_lemma =>
                      rw [if_neg c27] at H
                      have c27b0 : decide (131074 < (wrap64 ((t146.length : Int) + (t149.length : Int)))) = false := decide_eq_false c27
                      clear c27
                      replace H := Option.bind_eq_some_iff.mp H
                      obtain ⟨t159, A290, H⟩ := H
                      replace H : (bulkheadlaw13_SlotsTell.j1 kj4 l0 l1 (!t159) t146 t149) = some r := H
                      have A29 := Aside0.mk A290
                      clear A290
                      have H' := Aside0.mk H
                      clear H
                      have hcz30_0 : wc.cell? ⟨gb153, 0, none⟩ = some (.slice Ao9 t146.length co9) := (blk_cell BK153.out 0).trans rfl
                      have hcz30_1 : wc.cell? ⟨gb153, 1, none⟩ = some (.slice Ao11 t149.length co11) := (blk_cell BK153.out 1).trans rfl
                      have hfz30_0 := blk_frozen BK153.out 0
                      have hfz30_1 := blk_frozen BK153.out 1
                      go_wp2_with (first | (go_at_call 15; (with_reducible refine (bulkheadlaw13_total.calls kj4 _ _ t146 t155 _ ?side1 ?side2 A19.out).mono ?_); (case side1 => repeat (first | exact (TV_reads' HO_154000.out).2.2 | (with_reducible refine Kd.C_alloc ?_ _) | (with_reducible refine Kd.C_drewN ?_ _) | (with_reducible refine Kd.C_drew ?_))); (case side2 => exact (TV_reads' HO_154000.out).2.1); rintro e w' ⟨rfl, ⟨nd, rfl⟩⟩) | (go_at_call 15; (with_reducible refine (bulkheadlaw13_total.calls kj4 _ _ t149 t156 _ ?side1 ?side2 A21.out).mono ?_); (case side1 => repeat (first | exact (TV_reads' HO_154001.out).2.2 | (with_reducible refine Kd.C_alloc ?_ _) | (with_reducible refine Kd.C_drewN ?_ _) | (with_reducible refine Kd.C_drew ?_))); (case side2 => exact (TV_reads' HO_154001.out).2.1); rintro e w' ⟨rfl, ⟨nd, rfl⟩⟩) | (go_at_call 24; (with_reducible refine (bulkheadlaw13_tight.calls kj4 _ _ t146 (l0.length : Int) true _ ?side1 ?side2 A23.out).mono ?_); (case side1 => repeat (first | exact (TV_reads' HO_154000.out).2.2 | (with_reducible refine Kd.C_alloc ?_ _) | (with_reducible refine Kd.C_drewN ?_ _) | (with_reducible refine Kd.C_drew ?_))); (case side2 => exact (TV_reads' HO_154000.out).2.1); rintro e w' ⟨rfl, ⟨nd, rfl⟩⟩) | (go_at_call 24; (with_reducible refine (bulkheadlaw13_tight.calls kj4 _ _ t149 (l0.length : Int) true _ ?side1 ?side2 A25.out).mono ?_); (case side1 => repeat (first | exact (TV_reads' HO_154001.out).2.2 | (with_reducible refine Kd.C_alloc ?_ _) | (with_reducible refine Kd.C_drewN ?_ _) | (with_reducible refine Kd.C_drew ?_))); (case side2 => exact (TV_reads' HO_154001.out).2.1); rintro e w' ⟨rfl, ⟨nd, rfl⟩⟩) | (go_at_call 12; (with_reducible refine (bulkheadlaw13_lives.calls kj4  t159 _ ?side1 A29.out).mono ?_); (case side1 => repeat (first | exact (GH_below HG.out (by repeat (first | (with_reducible first | exact HB.out | apply below_alloc | apply pw_below_drewN | apply below_drew1 | refine below_set ?_ GE153.out) | exact HB.out))) | (with_reducible refine GH_alloc ?_ _) | (with_reducible refine GH_drewN ?_ _) | (with_reducible refine GH_drew ?_))); rintro e w31 ⟨rfl, hb⟩; have n0_ := Aside0.mk (TV_below (by (with_reducible repeat (first | apply TV_alloc | apply TV_drewN | apply TV_drew)); exact HO_154000.out) hb); have n1_ := Aside0.mk (TV_below (by (with_reducible repeat (first | apply TV_alloc | apply TV_drewN | apply TV_drew)); exact HO_154001.out) hb); have n2_ := Aside0.mk (blk_below (g := gb153) (o := .cells #[.slice Ao9 t146.length co9, .slice Ao11 t149.length co11] 27 (0, 0)) (by (with_reducible repeat (first | refine blk_drewN ?_ _ | refine blk_drew ?_ | refine blk_alloc ?_ _)); exact BK153.out) hb); have n3_ := Aside0.mk (below_step (by repeat (first | (with_reducible first | exact HB.out | apply below_alloc | apply pw_below_drewN | apply below_drew1 | refine below_set ?_ GE153.out) | exact HB.out)) hb); clear HO_154000; clear HO_154001; clear BK153; clear HB; have HO_154000 := n0_; have HO_154001 := n1_; have BK153 := n2_; have HB := n3_; clear n0_ n1_ n2_ n3_; (try clear hb); (try clear hb2); (try clear hk); (try clear hi)))
                      go_meet
                      case rel => exact ⟨_, (!t159), (by first | rfl | (simp; done) | (simp [*]; done)), H', ⟨by have := HJ4.out; first | omega | exact Nat.le_refl _⟩, ⟨by (with_reducible repeat (first | apply TV_alloc | apply TV_drewN | apply TV_drew)); exact HO_154000.out⟩, ⟨by (with_reducible repeat (first | apply TV_alloc | apply TV_drewN | apply TV_drew)); exact HO_154001.out⟩, ⟨by (with_reducible repeat (first | refine blk_drewN ?_ _ | refine blk_drew ?_ | refine blk_alloc ?_ _)); exact BK153.out⟩, ⟨by repeat (first | (with_reducible first | exact HB.out | apply below_alloc | apply pw_below_drewN | apply below_drew1 | refine below_set ?_ GE153.out) | exact HB.out)⟩⟩
                  · replace c26 := Bool.eq_false_iff.mpr c26
                    subst c26
                    have H1 : (bulkheadlaw13_SlotsTell.j1 kj4 l0 l1 true t146 t149) = some r := by rw [if_neg (show ¬ (false = true) by decide)] at H; exact H
                    clear H
                    have H := H1
                    clear H1
                    have H' := Aside0.mk H
                    clear H
                    have hcz32_0 : wc.cell? ⟨gb153, 0, none⟩ = some (.slice Ao9 t146.length co9) := (blk_cell BK153.out 0).trans rfl
                    have hcz32_1 : wc.cell? ⟨gb153, 1, none⟩ = some (.slice Ao11 t149.length co11) := (blk_cell BK153.out 1).trans rfl
                    have hfz32_0 := blk_frozen BK153.out 0
                    have hfz32_1 := blk_frozen BK153.out 1
                    go_wp2_with (first | (go_at_call 15; (with_reducible refine (bulkheadlaw13_total.calls kj4 _ _ t146 t155 _ ?side1 ?side2 A19.out).mono ?_); (case side1 => repeat (first | exact (TV_reads' HO_154000.out).2.2 | (with_reducible refine Kd.C_alloc ?_ _) | (with_reducible refine Kd.C_drewN ?_ _) | (with_reducible refine Kd.C_drew ?_))); (case side2 => exact (TV_reads' HO_154000.out).2.1); rintro e w' ⟨rfl, ⟨nd, rfl⟩⟩) | (go_at_call 15; (with_reducible refine (bulkheadlaw13_total.calls kj4 _ _ t149 t156 _ ?side1 ?side2 A21.out).mono ?_); (case side1 => repeat (first | exact (TV_reads' HO_154001.out).2.2 | (with_reducible refine Kd.C_alloc ?_ _) | (with_reducible refine Kd.C_drewN ?_ _) | (with_reducible refine Kd.C_drew ?_))); (case side2 => exact (TV_reads' HO_154001.out).2.1); rintro e w' ⟨rfl, ⟨nd, rfl⟩⟩) | (go_at_call 24; (with_reducible refine (bulkheadlaw13_tight.calls kj4 _ _ t146 (l0.length : Int) true _ ?side1 ?side2 A23.out).mono ?_); (case side1 => repeat (first | exact (TV_reads' HO_154000.out).2.2 | (with_reducible refine Kd.C_alloc ?_ _) | (with_reducible refine Kd.C_drewN ?_ _) | (with_reducible refine Kd.C_drew ?_))); (case side2 => exact (TV_reads' HO_154000.out).2.1); rintro e w' ⟨rfl, ⟨nd, rfl⟩⟩) | (go_at_call 24; (with_reducible refine (bulkheadlaw13_tight.calls kj4 _ _ t149 (l0.length : Int) false _ ?side1 ?side2 A25.out).mono ?_); (case side1 => repeat (first | exact (TV_reads' HO_154001.out).2.2 | (with_reducible refine Kd.C_alloc ?_ _) | (with_reducible refine Kd.C_drewN ?_ _) | (with_reducible refine Kd.C_drew ?_))); (case side2 => exact (TV_reads' HO_154001.out).2.1); rintro e w' ⟨rfl, ⟨nd, rfl⟩⟩))
                    go_meet
                    case rel => exact ⟨_, (true), (by first | rfl | (simp; done) | (simp [*]; done)), H', ⟨by have := HJ4.out; first | omega | exact Nat.le_refl _⟩, ⟨by (with_reducible repeat (first | apply TV_alloc | apply TV_drewN | apply TV_drew)); exact HO_154000.out⟩, ⟨by (with_reducible repeat (first | apply TV_alloc | apply TV_drewN | apply TV_drew)); exact HO_154001.out⟩, ⟨by (with_reducible repeat (first | refine blk_drewN ?_ _ | refine blk_drew ?_ | refine blk_alloc ?_ _)); exact BK153.out⟩, ⟨by repeat (first | (with_reducible first | exact HB.out | apply below_alloc | apply pw_below_drewN | apply below_drew1 | refine below_set ?_ GE153.out) | exact HB.out)⟩⟩
                · replace c24 := Bool.eq_false_iff.mpr c24
                  subst c24
                  have H1 : (bulkheadlaw13_SlotsTell.j1 kj4 l0 l1 true t146 t149) = some r := by rw [if_neg (show ¬ (false = true) by decide)] at H; exact H
                  clear H
                  have H := H1
                  clear H1
                  have H' := Aside0.mk H
                  clear H
                  have hcz33_0 : wc.cell? ⟨gb153, 0, none⟩ = some (.slice Ao9 t146.length co9) := (blk_cell BK153.out 0).trans rfl
                  have hcz33_1 : wc.cell? ⟨gb153, 1, none⟩ = some (.slice Ao11 t149.length co11) := (blk_cell BK153.out 1).trans rfl
                  have hfz33_0 := blk_frozen BK153.out 0
                  have hfz33_1 := blk_frozen BK153.out 1
                  go_wp2_with (first | (go_at_call 15; (with_reducible refine (bulkheadlaw13_total.calls kj4 _ _ t146 t155 _ ?side1 ?side2 A19.out).mono ?_); (case side1 => repeat (first | exact (TV_reads' HO_154000.out).2.2 | (with_reducible refine Kd.C_alloc ?_ _) | (with_reducible refine Kd.C_drewN ?_ _) | (with_reducible refine Kd.C_drew ?_))); (case side2 => exact (TV_reads' HO_154000.out).2.1); rintro e w' ⟨rfl, ⟨nd, rfl⟩⟩) | (go_at_call 15; (with_reducible refine (bulkheadlaw13_total.calls kj4 _ _ t149 t156 _ ?side1 ?side2 A21.out).mono ?_); (case side1 => repeat (first | exact (TV_reads' HO_154001.out).2.2 | (with_reducible refine Kd.C_alloc ?_ _) | (with_reducible refine Kd.C_drewN ?_ _) | (with_reducible refine Kd.C_drew ?_))); (case side2 => exact (TV_reads' HO_154001.out).2.1); rintro e w' ⟨rfl, ⟨nd, rfl⟩⟩) | (go_at_call 24; (with_reducible refine (bulkheadlaw13_tight.calls kj4 _ _ t146 (l0.length : Int) false _ ?side1 ?side2 A23.out).mono ?_); (case side1 => repeat (first | exact (TV_reads' HO_154000.out).2.2 | (with_reducible refine Kd.C_alloc ?_ _) | (with_reducible refine Kd.C_drewN ?_ _) | (with_reducible refine Kd.C_drew ?_))); (case side2 => exact (TV_reads' HO_154000.out).2.1); rintro e w' ⟨rfl, ⟨nd, rfl⟩⟩))
                  go_meet
                  case rel => exact ⟨_, (true), (by first | rfl | (simp; done) | (simp [*]; done)), H', ⟨by have := HJ4.out; first | omega | exact Nat.le_refl _⟩, ⟨by (with_reducible repeat (first | apply TV_alloc | apply TV_drewN | apply TV_drew)); exact HO_154000.out⟩, ⟨by (with_reducible repeat (first | apply TV_alloc | apply TV_drewN | apply TV_drew)); exact HO_154001.out⟩, ⟨by (with_reducible repeat (first | refine blk_drewN ?_ _ | refine blk_drew ?_ | refine blk_alloc ?_ _)); exact BK153.out⟩, ⟨by repeat (first | (with_reducible first | exact HB.out | apply below_alloc | apply pw_below_drewN | apply below_drew1 | refine below_set ?_ GE153.out) | exact HB.out)⟩⟩
              · as_aux_lemma =>
                rw [if_neg c22] at H
                have c22b0 : (t156 == t144) = false := beq_eq_false_iff_ne.mpr c22
                have c22b1 : (t156 != t144) = true := bne_iff_ne.mpr c22
                have H' := Aside0.mk H
                clear H
                have hcz34_0 : wc.cell? ⟨gb153, 0, none⟩ = some (.slice Ao9 t146.length co9) := (blk_cell BK153.out 0).trans rfl
                have hcz34_1 : wc.cell? ⟨gb153, 1, none⟩ = some (.slice Ao11 t149.length co11) := (blk_cell BK153.out 1).trans rfl
                have hfz34_0 := blk_frozen BK153.out 0
                have hfz34_1 := blk_frozen BK153.out 1
                go_wp2_with (first | (go_at_call 15; (with_reducible refine (bulkheadlaw13_total.calls kj4 _ _ t146 t155 _ ?side1 ?side2 A19.out).mono ?_); (case side1 => repeat (first | exact (TV_reads' HO_154000.out).2.2 | (with_reducible refine Kd.C_alloc ?_ _) | (with_reducible refine Kd.C_drewN ?_ _) | (with_reducible refine Kd.C_drew ?_))); (case side2 => exact (TV_reads' HO_154000.out).2.1); rintro e w' ⟨rfl, ⟨nd, rfl⟩⟩) | (go_at_call 15; (with_reducible refine (bulkheadlaw13_total.calls kj4 _ _ t149 t156 _ ?side1 ?side2 A21.out).mono ?_); (case side1 => repeat (first | exact (TV_reads' HO_154001.out).2.2 | (with_reducible refine Kd.C_alloc ?_ _) | (with_reducible refine Kd.C_drewN ?_ _) | (with_reducible refine Kd.C_drew ?_))); (case side2 => exact (TV_reads' HO_154001.out).2.1); rintro e w' ⟨rfl, ⟨nd, rfl⟩⟩))
                go_meet
                case rel => exact ⟨_, (true), (by first | rfl | (simp; done) | (simp [*]; done)), H', ⟨by have := HJ4.out; first | omega | exact Nat.le_refl _⟩, ⟨by (with_reducible repeat (first | apply TV_alloc | apply TV_drewN | apply TV_drew)); exact HO_154000.out⟩, ⟨by (with_reducible repeat (first | apply TV_alloc | apply TV_drewN | apply TV_drew)); exact HO_154001.out⟩, ⟨by (with_reducible repeat (first | refine blk_drewN ?_ _ | refine blk_drew ?_ | refine blk_alloc ?_ _)); exact BK153.out⟩, ⟨by repeat (first | (with_reducible first | exact HB.out | apply below_alloc | apply pw_below_drewN | apply below_drew1 | refine below_set ?_ GE153.out) | exact HB.out)⟩⟩
            · as_aux_lemma =>
              rw [if_neg c20] at H
              have c20b0 : (t155 == t144) = false := beq_eq_false_iff_ne.mpr c20
              have c20b1 : (t155 != t144) = true := bne_iff_ne.mpr c20
              have H' := Aside0.mk H
              clear H
              have hcz35_0 : wc.cell? ⟨gb153, 0, none⟩ = some (.slice Ao9 t146.length co9) := (blk_cell BK153.out 0).trans rfl
              have hcz35_1 : wc.cell? ⟨gb153, 1, none⟩ = some (.slice Ao11 t149.length co11) := (blk_cell BK153.out 1).trans rfl
              have hfz35_0 := blk_frozen BK153.out 0
              have hfz35_1 := blk_frozen BK153.out 1
              go_wp2_with (first | (go_at_call 15; (with_reducible refine (bulkheadlaw13_total.calls kj4 _ _ t146 t155 _ ?side1 ?side2 A19.out).mono ?_); (case side1 => repeat (first | exact (TV_reads' HO_154000.out).2.2 | (with_reducible refine Kd.C_alloc ?_ _) | (with_reducible refine Kd.C_drewN ?_ _) | (with_reducible refine Kd.C_drew ?_))); (case side2 => exact (TV_reads' HO_154000.out).2.1); rintro e w' ⟨rfl, ⟨nd, rfl⟩⟩))
              go_meet
              case rel => exact ⟨_, (true), (by first | rfl | (simp; done) | (simp [*]; done)), H', ⟨by have := HJ4.out; first | omega | exact Nat.le_refl _⟩, ⟨by (with_reducible repeat (first | apply TV_alloc | apply TV_drewN | apply TV_drew)); exact HO_154000.out⟩, ⟨by (with_reducible repeat (first | apply TV_alloc | apply TV_drewN | apply TV_drew)); exact HO_154001.out⟩, ⟨by (with_reducible repeat (first | refine blk_drewN ?_ _ | refine blk_drew ?_ | refine blk_alloc ?_ _)); exact BK153.out⟩, ⟨by repeat (first | (with_reducible first | exact HB.out | apply below_alloc | apply pw_below_drewN | apply below_drew1 | refine below_set ?_ GE153.out) | exact HB.out)⟩⟩
          · as_aux_lemma =>
            rw [if_neg c18] at H
            have c18b0 : (t152 == 0) = false := beq_eq_false_iff_ne.mpr c18
            have c18b1 : (t152 != 0) = true := bne_iff_ne.mpr c18
            (first | rw [c18b0] | (simp only [i64_w, i32_w]; rw [c18b0]) | skip)
            have H' := Aside0.mk H
            clear H
            go_wp2
            go_meet
            case rel => exact ⟨_, (true), (by first | rfl | (simp; done) | (simp [*]; done)), H', ⟨by have := HJ4.out; first | omega | exact Nat.le_refl _⟩, ⟨by (with_reducible repeat (first | apply TV_alloc | apply TV_drewN | apply TV_drew)); exact HO_154000.out⟩, ⟨by (with_reducible repeat (first | apply TV_alloc | apply TV_drewN | apply TV_drew)); exact HO_154001.out⟩, ⟨by (with_reducible repeat (first | refine blk_drewN ?_ _ | refine blk_drew ?_ | refine blk_alloc ?_ _)); exact BK153.out⟩, ⟨by repeat (first | (with_reducible first | exact HB.out | apply below_alloc | apply pw_below_drewN | apply below_drew1 | refine below_set ?_ GE153.out) | exact HB.out)⟩⟩
        case rest =>
          clear HC17
          try clear c1
          try clear c2
          try clear p2
          try clear c5
          try clear p6
          try clear c9
          try clear c12
          try clear c12b0
          try clear c12b1
          try clear c13
          try clear c14
          try clear c14b0
          try clear c14b1
          try clear c18
          try clear c18b0
          try clear c18b1
          try clear c20
          try clear c20b0
          try clear c20b1
          try clear c22
          try clear c22b0
          try clear c22b1
          try clear c23
          try clear c24
          try clear c26
          try clear c27
          try clear c27b0
          try clear hcz10_0
          try clear hcz10_1
          try clear hcz28_0
          try clear hcz28_1
          try clear hcz30_0
          try clear hcz30_1
          try clear hcz32_0
          try clear hcz32_1
          try clear hcz33_0
          try clear hcz33_1
          try clear hcz34_0
          try clear hcz34_1
          try clear hcz35_0
          try clear hcz35_1
          try clear hfz10_0
          try clear hfz10_1
          try clear hfz28_0
          try clear hfz28_1
          try clear hfz30_0
          try clear hfz30_1
          try clear hfz32_0
          try clear hfz32_1
          try clear hfz33_0
          try clear hfz33_1
          try clear hfz34_0
          try clear hfz34_1
          try clear hfz35_0
          try clear hfz35_1
          try clear p2
          obtain ⟨kq, x82_16, rfl, HA, HJ16, HO_154000, HO_154001, BK153, HB⟩ := hcut
          cases kq with
          | zero => exact absurd HA.out (by simp [bulkheadlaw13_SlotsTell.j1])
          | succ kj16 =>
            have H := HA.out
            clear HA
            simp only [bulkheadlaw13_SlotsTell.j1] at H
            by_cases c36 : x82_16 = true
            · subst c36
              have H1 : (some false) = some r := by rw [if_pos rfl] at H; exact H
              clear H
              have H := H1
              clear H1
              obtain rfl := Option.some.inj H
              go_wp2
              go_ret
              exact ⟨by first | rfl | (simp [errW_none, errW_some] <;> rfl) | (simp [*, errW_none, errW_some] <;> rfl), by repeat (first | (with_reducible first | exact HB.out | apply below_alloc | apply pw_below_drewN | apply below_drew1 | refine below_set ?_ GE153.out) | exact HB.out)⟩
            · replace c36 := Bool.eq_false_iff.mpr c36
              subst c36
              have H1 : (bulkheadlaw13_SlotsTell.l0 kj16 l0 l1 0 t146 t149) = some r := by rw [if_neg (show ¬ (false = true) by decide)] at H; exact H
              clear H
              have H := H1
              clear H1
              have H' := Aside0.mk H
              clear H
              go_wp2
              go_loopg [9] kj16 (fun kq v9 w' => ∃ (x9_3 : Int), v9 = .int .i64 x9_3 ∧ Aside0 (bulkheadlaw13_SlotsTell.l0 kq l0 l1 x9_3 t146 t149 = some r) ∧ Aside0 (kq ≤ kj16) ∧ Aside0 (TV k72 72 w' w.heap.size (fun _ => True) (.slice Ao9 t146.length co9) t146) ∧ Aside0 (TV k72 72 w' w.heap.size (fun _ => True) (.slice Ao11 t149.length co11) t149) ∧ Aside0 (w'.heap[gb153]? = some (.cells #[(.slice Ao9 t146.length co9), (.slice Ao11 t149.length co11)] 27 (0, 0))) ∧ Aside0 (Below w.heap.size w w'))
              case atStart => exact ⟨(0), (by first | rfl | (simp; done) | (simp [*]; done)), H', ⟨Nat.le_refl _⟩, ⟨by (with_reducible repeat (first | apply TV_alloc | apply TV_drewN | apply TV_drew)); exact HO_154000.out⟩, ⟨by (with_reducible repeat (first | apply TV_alloc | apply TV_drewN | apply TV_drew)); exact HO_154001.out⟩, ⟨by (with_reducible repeat (first | refine blk_drewN ?_ _ | refine blk_drew ?_ | refine blk_alloc ?_ _)); exact BK153.out⟩, ⟨by repeat (first | (with_reducible first | exact HB.out | apply below_alloc | apply pw_below_drewN | apply below_drew1 | refine below_set ?_ GE153.out) | exact HB.out)⟩⟩
              case round =>
                clear H'
                try clear c1
                try clear c2
                try clear p2
                try clear c3
                try clear c5
                try clear p6
                try clear c9
                try clear c12
                try clear c12b0
                try clear c12b1
                try clear c13
                try clear c14
                try clear c14b0
                try clear c14b1
                try clear c18
                try clear c18b0
                try clear c18b1
                try clear c20
                try clear c20b0
                try clear c20b1
                try clear c22
                try clear c22b0
                try clear c22b1
                try clear c23
                try clear c24
                try clear c26
                try clear c27
                try clear c27b0
                try clear c36
                try clear hcz10_0
                try clear hcz10_1
                try clear hcz28_0
                try clear hcz28_1
                try clear hcz30_0
                try clear hcz30_1
                try clear hcz32_0
                try clear hcz32_1
                try clear hcz33_0
                try clear hcz33_1
                try clear hcz34_0
                try clear hcz34_1
                try clear hcz35_0
                try clear hcz35_1
                try clear hfz10_0
                try clear hfz10_1
                try clear hfz28_0
                try clear hfz28_1
                try clear hfz30_0
                try clear hfz30_1
                try clear hfz32_0
                try clear hfz32_1
                try clear hfz33_0
                try clear hfz33_1
                try clear hfz34_0
                try clear hfz34_1
                try clear hfz35_0
                try clear hfz35_1
                try clear p2
                try clear p6
                obtain ⟨x9_3, rfl, HA, HK3, HO_154000, HO_154001, BK153, HB⟩ := hrel
                cases gk with
                | zero => exact absurd HA.out (by simp [bulkheadlaw13_SlotsTell.l0])
                | succ k3 =>
                  have H := HA.out
                  clear HA
                  simp only [bulkheadlaw13_SlotsTell.l0] at H
                  by_cases c37 : x9_3 < (l1.length : Int)
                  · as_aux_lemma =>
                    rw [if_pos c37] at H
                    have c37b0 : decide (x9_3 < (l1.length : Int)) = true := decide_eq_true c37
                    clear c37
                    by_cases c38 : 0 ≤ x9_3
                    · as_aux_lemma =>
                      rw [if_pos c38] at H
                      have c38b0 : decide (0 ≤ x9_3) = true := decide_eq_true c38
                      clear c38
                      replace H := Option.bind_eq_some_iff.mp H
                      obtain ⟨⟨t161, t162⟩, A390, H⟩ := H
                      replace H : ((slots_At.f t146 t149 (rd l1 x9_3)).bind fun bt164 => (if t161 = bt164.1 then (if t162 = bt164.2 then (bulkheadlaw13_SlotsTell.l0 k3 l0 l1 (wrap64 (x9_3 + 1)) t146 t149) else (some false)) else (some false))) = some r := H
                      have A39 := Aside0.mk A390
                      clear A390
                      replace H := Option.bind_eq_some_iff.mp H
                      obtain ⟨⟨t164, t165⟩, A400, H⟩ := H
                      replace H : (if t161 = t164 then (if t162 = t165 then (bulkheadlaw13_SlotsTell.l0 k3 l0 l1 (wrap64 (x9_3 + 1)) t146 t149) else (some false)) else (some false)) = some r := H
                      have A40 := Aside0.mk A400
                      clear A400
                      by_cases c41 : t161 = t164
                      · as_aux_lemma =>
                        rw [if_pos c41] at H
                        have c41b0 : (t161 == t164) = true := beq_iff_eq.mpr c41
                        have c41b1 : (t161 != t164) = false := bne_eq_false_iff_eq.mpr c41
                        clear c41
                        by_cases c42 : t162 = t165
                        · as_aux_lemma =>
                          rw [if_pos c42] at H
                          have c42b0 : (t162 == t165) = true := beq_iff_eq.mpr c42
                          have c42b1 : (t162 != t165) = false := bne_eq_false_iff_eq.mpr c42
                          clear c42
                          have H' := Aside0.mk H
                          clear H
                          have p160 : 0 ≤ (x9_3 : Int) := of_decide_eq_true (by first | (with_reducible assumption) | assumption)
                          have q160 : x9_3 < (l1.length : Int) := of_decide_eq_true (by first | (with_reducible assumption) | assumption)
                          obtain ⟨ad160, e160, hx160_0⟩ := Kd.at_int HR1.out x9_3 p160 q160
                          cases e160
                          replace hx160_0 := (HB.out.cell (World.block_lt_of_cell? w _ hx160_0)).trans hx160_0
                          replace p160 := eq_true p160
                          replace q160 := eq_true q160
                          try go_wp2_with (first | ((with_reducible refine gate_callee (f := 25) rfl ?_); refine goesL_ (some 95) rfl rfl Tryd.func25 (by kernel_rfl) rfl #[.slice A0 l0.length c0, .int .i64 (rd l1 x9_3)] rfl (by (try simp only [List.map_toArray, List.map_cons, List.map_nil]); first | done | rfl | (simp only [List.length_drop, List.length_take]; rfl)) ?_; (with_reducible refine (occ_At.calls _ _ l0 (rd l1 x9_3) t161 t162 _ ?side1 ?side2 ?side3 A39.out).mono ?_); (case side1 => repeat (first | exact (Kd.C_below HR0.out HB.out) | (with_reducible refine Kd.C_alloc ?_ _) | (with_reducible refine Kd.C_drewN ?_ _) | (with_reducible refine Kd.C_drew ?_))); (case side2 => exact HC0.out); (case side3 => repeat (first | exact (GH_below HG.out HB.out) | (with_reducible refine GH_alloc ?_ _) | (with_reducible refine GH_drewN ?_ _) | (with_reducible refine GH_drew ?_))); rintro e w43 ⟨rfl, hb⟩; refine ⟨_, rfl, ?_⟩; have n0_ := Aside0.mk (TV_below (by (with_reducible repeat (first | apply TV_alloc | apply TV_drewN | apply TV_drew)); exact HO_154000.out) hb); have n1_ := Aside0.mk (TV_below (by (with_reducible repeat (first | apply TV_alloc | apply TV_drewN | apply TV_drew)); exact HO_154001.out) hb); have n2_ := Aside0.mk (blk_below (g := gb153) (o := .cells #[.slice Ao9 t146.length co9, .slice Ao11 t149.length co11] 27 (0, 0)) (by (with_reducible repeat (first | refine blk_drewN ?_ _ | refine blk_drew ?_ | refine blk_alloc ?_ _)); exact BK153.out) hb); have n3_ := Aside0.mk (below_step (by repeat (first | (with_reducible first | exact HB.out | apply below_alloc | apply pw_below_drewN | apply below_drew1 | refine below_set ?_ GE153.out) | exact HB.out)) hb); clear HO_154000; clear HO_154001; clear BK153; clear HB; have HO_154000 := n0_; have HO_154001 := n1_; have BK153 := n2_; have HB := n3_; clear n0_ n1_ n2_ n3_; (try clear hb); (try clear hb2); (try clear hk); (try clear hi)))
                          have n0_ := Aside0.mk (TV_drew HO_154000.out)
                          have n1_ := Aside0.mk (TV_drew HO_154001.out)
                          have n2_ := Aside0.mk (blk_drew BK153.out)
                          have n3_ := Aside0.mk (below_drew1 HB.out)
                          clear HO_154000
                          clear HO_154001
                          clear BK153
                          clear HB
                          have HO_154000 := n0_
                          have HO_154001 := n1_
                          have BK153 := n2_
                          have HB := n3_
                          clear n0_ n1_ n2_ n3_
                          have p163 : 0 ≤ (x9_3 : Int) := of_decide_eq_true (by first | (with_reducible assumption) | assumption)
                          have q163 : x9_3 < (l1.length : Int) := of_decide_eq_true (by first | (with_reducible assumption) | assumption)
                          obtain ⟨ad163, e163, hx163_0⟩ := Kd.at_int HR1.out x9_3 p163 q163
                          have hw163_0 := hx163_0
                          obtain rfl : ad160 = ad163 := (by injection e163)
                          replace hx163_0 := (HB.out.cell (World.block_lt_of_cell? w _ hx163_0)).trans hx163_0
                          replace p163 := eq_true p163
                          replace q163 := eq_true q163
                          refine start_ (n := 11) (S := fun w' => w'.cell? ⟨gb153, 0, none⟩ = some (.slice Ao9 t146.length co9) ∧ w'.cell? ⟨gb153, 1, none⟩ = some (.slice Ao11 t149.length co11) ∧ w'.cell? (ad160.add (x9_3).toNat) = some (.int .i64 (rd l1 x9_3))) (ds := []) #[false, false, false, false, false, false, false, false, false, false, false] (by kernel_rfl) rfl rfl ⟨(blk_cell BK153.out 0).trans rfl, (blk_cell BK153.out 1).trans rfl, ((HB.out.cell (World.block_lt_of_cell? w _ hw163_0)).trans hw163_0)⟩ (fun hHeld => ?_); refine with_tabW bulkheadlaw13_SlotsTell.tab11 bulkheadlaw13_SlotsTell.bits11 (fun HT_ HW_ => ?_)
                          generalize w43.drew = w44 at HO_154000 HO_154001 BK153 HB hx163_0 hHeld ⊢
                          refine pure_ (i := 1) (N := some 100) (v := ?_) (a' := ?_) #[false, true, false, false, false, false, false, false, false, false, false] rfl rfl (any_of HT_.out (by kernel_rfl)) (fun _ _ _ h => h) (Or.inl ⟨by rfl, ?_⟩) ?_ ?_
                          rotate_left
                          · intro w'
                            go_simp
                            with_reducible rfl
                          rotate_left
                          · simp only [Act.put, List.setIfInBounds_toArray, List.set_cons_zero, List.set_cons_succ, i64_w, i32_w]
                            rfl
                          refine pure_ (i := 2) (N := some 101) (v := ?_) (a' := ?_) #[false, true, true, false, false, false, false, false, false, false, false] rfl rfl (any_of HT_.out (by kernel_rfl)) (fun _ _ _ h => h) (Or.inl ⟨by rfl, ?_⟩) ?_ ?_
                          rotate_left
                          · intro w'
                            go_simp
                            with_reducible rfl
                          rotate_left
                          · simp only [Act.put, List.setIfInBounds_toArray, List.set_cons_zero, List.set_cons_succ, i64_w, i32_w]
                            rfl
                          refine pure_ (i := 3) (N := some 102) (v := ?_) (a' := ?_) #[false, true, true, true, false, false, false, false, false, false, false] rfl rfl (any_of HT_.out (by kernel_rfl)) (fun _ _ _ h => h) (Or.inl ⟨by rfl, ?_⟩) ?_ ?_
                          rotate_left
                          · intro w'
                            go_simp
                            with_reducible rfl
                          rotate_left
                          · simp only [Act.put, List.setIfInBounds_toArray, List.set_cons_zero, List.set_cons_succ, i64_w, i32_w]
                            rfl
                          refine take_ (i := 0) (N := some 99) (v := ?_) (a' := ?_) #[true, true, true, true, false, false, false, false, false, false, false] rfl rfl (take_ofW HT_.out HW_.out (by kernel_rfl)) (fun _ _ _ h => h) (Or.inl ⟨by rfl, ?_⟩) hHeld ?_ ?_
                          rotate_left
                          · rintro w' ⟨s0, s1, s2⟩
                            go_simp
                            with_reducible rfl
                          rotate_left
                          · simp only [Act.put, List.setIfInBounds_toArray, List.set_cons_zero, List.set_cons_succ, i64_w, i32_w]
                            rfl
                          refine take_ (i := 4) (N := some 103) (v := ?_) (a' := ?_) #[true, true, true, true, true, false, false, false, false, false, false] rfl rfl (take_ofW HT_.out HW_.out (by kernel_rfl)) (fun _ _ _ h => h) (Or.inl ⟨by rfl, ?_⟩) hHeld ?_ ?_
                          rotate_left
                          · rintro w' ⟨s0, s1, s2⟩
                            go_simp
                            with_reducible rfl
                          rotate_left
                          · simp only [Act.put, List.setIfInBounds_toArray, List.set_cons_zero, List.set_cons_succ, i64_w, i32_w]
                            rfl
                          refine one_ (i := 5) (N := some 104) #[true, true, true, true, true, true, false, false, false, false, false] rfl rfl (one_of HT_.out (by kernel_rfl)) (by decide) (fun K hK => ?_)
                          refine goes_ Tryd.func18 (by kernel_rfl) rfl #[.agg #[.slice Ao9 t146.length co9, .slice Ao11 t149.length co11], .int .i64 (rd l1 x9_3)] (by rfl) rfl rfl (by (try simp only [List.map_toArray, List.map_cons, List.map_nil]); first | done | rfl | (simp only [List.length_drop, List.length_take]; rfl)) ?_
                          with_reducible refine (slots_At.calls _ _ t146 _ _ t149 (rd l1 x9_3) t164 t165 _ ?side1 ?side2 ?side3 ?side4 A40.out).mono ?_
                          (case side1 => repeat (first | exact (TV_reads' HO_154000.out).2.2 | (with_reducible refine Kd.C_alloc ?_ _) | (with_reducible refine Kd.C_drewN ?_ _) | (with_reducible refine Kd.C_drew ?_)))
                          (case side2 => exact (TV_reads' HO_154000.out).2.1)
                          (case side3 => repeat (first | exact (TV_reads' HO_154001.out).2.2 | (with_reducible refine Kd.C_alloc ?_ _) | (with_reducible refine Kd.C_drewN ?_ _) | (with_reducible refine Kd.C_drew ?_)))
                          (case side4 => exact (TV_reads' HO_154001.out).2.1)
                          rintro e w45 ⟨rfl, hb⟩
                          refine ⟨_, rfl, ?_⟩
                          have n0_ := Aside0.mk (TV_below (by (with_reducible repeat (first | apply TV_alloc | apply TV_drewN | apply TV_drew)); exact HO_154000.out) hb)
                          have n1_ := Aside0.mk (TV_below (by (with_reducible repeat (first | apply TV_alloc | apply TV_drewN | apply TV_drew)); exact HO_154001.out) hb)
                          have n2_ := Aside0.mk (blk_below (g := gb153) (o := .cells #[.slice Ao9 t146.length co9, .slice Ao11 t149.length co11] 27 (0, 0)) (by (with_reducible repeat (first | refine blk_drewN ?_ _ | refine blk_drew ?_ | refine blk_alloc ?_ _)); exact BK153.out) hb)
                          have n3_ := Aside0.mk (below_step (by repeat (first | (with_reducible first | exact HB.out | apply below_alloc | apply pw_below_drewN | apply below_drew1 | refine below_set ?_ GE153.out) | exact HB.out)) hb)
                          clear HO_154000
                          clear HO_154001
                          clear BK153
                          clear HB
                          have HO_154000 := n0_
                          have HO_154001 := n1_
                          have BK153 := n2_
                          have HB := n3_
                          clear n0_ n1_ n2_ n3_
                          (try clear hb)
                          (try clear hb2)
                          (try clear hk)
                          (try clear hi)
                          refine hK.out _ _ ⟨(blk_cell BK153.out 0).trans rfl, (blk_cell BK153.out 1).trans rfl, ((HB.out.cell (World.block_lt_of_cell? w _ hw163_0)).trans hw163_0)⟩ (fun hHeld => ?_)
                          clear hK K
                          refine norm_ (a' := ?_) ?_ ?_
                          rotate_left
                          · show Act.put _ (some 104) _ = _
                            simp only [Act.put, List.setIfInBounds_toArray, List.set_cons_zero, List.set_cons_succ, i64_w, i32_w]
                            rfl
                          refine pure_ (i := 6) (N := some 98) (v := ?_) (a' := ?_) #[true, true, true, true, true, true, true, false, false, false, false] rfl rfl (any_of HT_.out (by kernel_rfl)) (fun _ _ _ h => h) (Or.inl ⟨by rfl, ?_⟩) ?_ ?_
                          rotate_left
                          · intro w'
                            go_simp
                            with_reducible rfl
                          rotate_left
                          · simp only [Act.put, List.setIfInBounds_toArray, List.set_cons_zero, List.set_cons_succ, i64_w, i32_w]
                            rfl
                          refine pure_ (i := 7) (N := some 105) (v := ?_) (a' := ?_) #[true, true, true, true, true, true, true, true, false, false, false] rfl rfl (any_of HT_.out (by kernel_rfl)) (fun _ _ _ h => h) (Or.inl ⟨by rfl, ?_⟩) ?_ ?_
                          rotate_left
                          · intro w'
                            go_simp
                            with_reducible rfl
                          rotate_left
                          · simp only [Act.put, List.setIfInBounds_toArray, List.set_cons_zero, List.set_cons_succ, i64_w, i32_w]
                            rfl
                          refine pure_ (i := 8) (N := some 106) (v := ?_) (a' := ?_) #[true, true, true, true, true, true, true, true, true, false, false] rfl rfl (any_of HT_.out (by kernel_rfl)) (fun _ _ _ h => h) (Or.inl ⟨by rfl, ?_⟩) ?_ ?_
                          rotate_left
                          · intro w'
                            go_simp
                            with_reducible rfl
                          rotate_left
                          · simp only [Act.put, List.setIfInBounds_toArray, List.set_cons_zero, List.set_cons_succ, i64_w, i32_w]
                            rfl
                          refine pure_ (i := 9) (N := some 12) (v := ?_) (a' := ?_) #[true, true, true, true, true, true, true, true, true, true, false] rfl rfl (any_of HT_.out (by kernel_rfl)) (fun _ _ _ h => h) (Or.inl ⟨by rfl, ?_⟩) ?_ ?_
                          rotate_left
                          · intro w'
                            go_simp
                            with_reducible rfl
                          rotate_left
                          · simp only [Act.put, List.setIfInBounds_toArray, List.set_cons_zero, List.set_cons_succ, i64_w, i32_w]
                            rfl
                          refine pure_ (i := 10) (N := some 13) (v := ?_) (a' := ?_) #[true, true, true, true, true, true, true, true, true, true, true] rfl rfl (any_of HT_.out (by kernel_rfl)) (fun _ _ _ h => h) (Or.inl ⟨by rfl, ?_⟩) ?_ ?_
                          rotate_left
                          · intro w'
                            go_simp
                            with_reducible rfl
                          rotate_left
                          · simp only [Act.put, List.setIfInBounds_toArray, List.set_cons_zero, List.set_cons_succ, i64_w, i32_w]
                            rfl
                          refine done_ (done_of HT_.out (by kernel_rfl)) ?_
                          try go_wp2
                          go_roundg k3
                          case measure => have := HJ4.out; have := HJ16.out; have := HK3.out; omega
                          case rel => exact ⟨(wrap64 (x9_3 + 1)), (by first | rfl | (simp; done) | (simp [*]; done)), H', ⟨by have := HJ4.out; have := HJ16.out; have := HK3.out; omega⟩, ⟨by (with_reducible repeat (first | apply TV_alloc | apply TV_drewN | apply TV_drew)); exact HO_154000.out⟩, ⟨by (with_reducible repeat (first | apply TV_alloc | apply TV_drewN | apply TV_drew)); exact HO_154001.out⟩, ⟨by (with_reducible repeat (first | refine blk_drewN ?_ _ | refine blk_drew ?_ | refine blk_alloc ?_ _)); exact BK153.out⟩, ⟨by repeat (first | (with_reducible first | exact HB.out | apply below_alloc | apply pw_below_drewN | apply below_drew1 | refine below_set ?_ GE153.out) | exact HB.out)⟩⟩
                        · as_aux_lemma =>
                          rw [if_neg c42] at H
                          have c42b0 : (t162 == t165) = false := beq_eq_false_iff_ne.mpr c42
                          have c42b1 : (t162 != t165) = true := bne_iff_ne.mpr c42
                          obtain rfl := Option.some.inj H
                          have p160 : 0 ≤ (x9_3 : Int) := of_decide_eq_true (by first | (with_reducible assumption) | assumption)
                          have q160 : x9_3 < (l1.length : Int) := of_decide_eq_true (by first | (with_reducible assumption) | assumption)
                          obtain ⟨ad160, e160, hx160_0⟩ := Kd.at_int HR1.out x9_3 p160 q160
                          cases e160
                          replace hx160_0 := (HB.out.cell (World.block_lt_of_cell? w _ hx160_0)).trans hx160_0
                          replace p160 := eq_true p160
                          replace q160 := eq_true q160
                          try go_wp2_with (first | ((with_reducible refine gate_callee (f := 25) rfl ?_); refine goesL_ (some 95) rfl rfl Tryd.func25 (by kernel_rfl) rfl #[.slice A0 l0.length c0, .int .i64 (rd l1 x9_3)] rfl (by (try simp only [List.map_toArray, List.map_cons, List.map_nil]); first | done | rfl | (simp only [List.length_drop, List.length_take]; rfl)) ?_; (with_reducible refine (occ_At.calls _ _ l0 (rd l1 x9_3) t161 t162 _ ?side1 ?side2 ?side3 A39.out).mono ?_); (case side1 => repeat (first | exact (Kd.C_below HR0.out HB.out) | (with_reducible refine Kd.C_alloc ?_ _) | (with_reducible refine Kd.C_drewN ?_ _) | (with_reducible refine Kd.C_drew ?_))); (case side2 => exact HC0.out); (case side3 => repeat (first | exact (GH_below HG.out HB.out) | (with_reducible refine GH_alloc ?_ _) | (with_reducible refine GH_drewN ?_ _) | (with_reducible refine GH_drew ?_))); rintro e w46 ⟨rfl, hb⟩; refine ⟨_, rfl, ?_⟩; have n0_ := Aside0.mk (TV_below (by (with_reducible repeat (first | apply TV_alloc | apply TV_drewN | apply TV_drew)); exact HO_154000.out) hb); have n1_ := Aside0.mk (TV_below (by (with_reducible repeat (first | apply TV_alloc | apply TV_drewN | apply TV_drew)); exact HO_154001.out) hb); have n2_ := Aside0.mk (blk_below (g := gb153) (o := .cells #[.slice Ao9 t146.length co9, .slice Ao11 t149.length co11] 27 (0, 0)) (by (with_reducible repeat (first | refine blk_drewN ?_ _ | refine blk_drew ?_ | refine blk_alloc ?_ _)); exact BK153.out) hb); have n3_ := Aside0.mk (below_step (by repeat (first | (with_reducible first | exact HB.out | apply below_alloc | apply pw_below_drewN | apply below_drew1 | refine below_set ?_ GE153.out) | exact HB.out)) hb); clear HO_154000; clear HO_154001; clear BK153; clear HB; have HO_154000 := n0_; have HO_154001 := n1_; have BK153 := n2_; have HB := n3_; clear n0_ n1_ n2_ n3_; (try clear hb); (try clear hb2); (try clear hk); (try clear hi)))
                          have n0_ := Aside0.mk (TV_drew HO_154000.out)
                          have n1_ := Aside0.mk (TV_drew HO_154001.out)
                          have n2_ := Aside0.mk (blk_drew BK153.out)
                          have n3_ := Aside0.mk (below_drew1 HB.out)
                          clear HO_154000
                          clear HO_154001
                          clear BK153
                          clear HB
                          have HO_154000 := n0_
                          have HO_154001 := n1_
                          have BK153 := n2_
                          have HB := n3_
                          clear n0_ n1_ n2_ n3_
                          have p163 : 0 ≤ (x9_3 : Int) := of_decide_eq_true (by first | (with_reducible assumption) | assumption)
                          have q163 : x9_3 < (l1.length : Int) := of_decide_eq_true (by first | (with_reducible assumption) | assumption)
                          obtain ⟨ad163, e163, hx163_0⟩ := Kd.at_int HR1.out x9_3 p163 q163
                          have hw163_0 := hx163_0
                          obtain rfl : ad160 = ad163 := (by injection e163)
                          replace hx163_0 := (HB.out.cell (World.block_lt_of_cell? w _ hx163_0)).trans hx163_0
                          replace p163 := eq_true p163
                          replace q163 := eq_true q163
                          refine start_ (n := 11) (S := fun w' => w'.cell? ⟨gb153, 0, none⟩ = some (.slice Ao9 t146.length co9) ∧ w'.cell? ⟨gb153, 1, none⟩ = some (.slice Ao11 t149.length co11) ∧ w'.cell? (ad160.add (x9_3).toNat) = some (.int .i64 (rd l1 x9_3))) (ds := []) #[false, false, false, false, false, false, false, false, false, false, false] (by kernel_rfl) rfl rfl ⟨(blk_cell BK153.out 0).trans rfl, (blk_cell BK153.out 1).trans rfl, ((HB.out.cell (World.block_lt_of_cell? w _ hw163_0)).trans hw163_0)⟩ (fun hHeld => ?_); refine with_tabW bulkheadlaw13_SlotsTell.tab11 bulkheadlaw13_SlotsTell.bits11 (fun HT_ HW_ => ?_)
                          generalize w46.drew = w47 at HO_154000 HO_154001 BK153 HB hx163_0 hHeld ⊢
                          refine pure_ (i := 1) (N := some 100) (v := ?_) (a' := ?_) #[false, true, false, false, false, false, false, false, false, false, false] rfl rfl (any_of HT_.out (by kernel_rfl)) (fun _ _ _ h => h) (Or.inl ⟨by rfl, ?_⟩) ?_ ?_
                          rotate_left
                          · intro w'
                            go_simp
                            with_reducible rfl
                          rotate_left
                          · simp only [Act.put, List.setIfInBounds_toArray, List.set_cons_zero, List.set_cons_succ, i64_w, i32_w]
                            rfl
                          refine pure_ (i := 2) (N := some 101) (v := ?_) (a' := ?_) #[false, true, true, false, false, false, false, false, false, false, false] rfl rfl (any_of HT_.out (by kernel_rfl)) (fun _ _ _ h => h) (Or.inl ⟨by rfl, ?_⟩) ?_ ?_
                          rotate_left
                          · intro w'
                            go_simp
                            with_reducible rfl
                          rotate_left
                          · simp only [Act.put, List.setIfInBounds_toArray, List.set_cons_zero, List.set_cons_succ, i64_w, i32_w]
                            rfl
                          refine pure_ (i := 3) (N := some 102) (v := ?_) (a' := ?_) #[false, true, true, true, false, false, false, false, false, false, false] rfl rfl (any_of HT_.out (by kernel_rfl)) (fun _ _ _ h => h) (Or.inl ⟨by rfl, ?_⟩) ?_ ?_
                          rotate_left
                          · intro w'
                            go_simp
                            with_reducible rfl
                          rotate_left
                          · simp only [Act.put, List.setIfInBounds_toArray, List.set_cons_zero, List.set_cons_succ, i64_w, i32_w]
                            rfl
                          refine take_ (i := 0) (N := some 99) (v := ?_) (a' := ?_) #[true, true, true, true, false, false, false, false, false, false, false] rfl rfl (take_ofW HT_.out HW_.out (by kernel_rfl)) (fun _ _ _ h => h) (Or.inl ⟨by rfl, ?_⟩) hHeld ?_ ?_
                          rotate_left
                          · rintro w' ⟨s0, s1, s2⟩
                            go_simp
                            with_reducible rfl
                          rotate_left
                          · simp only [Act.put, List.setIfInBounds_toArray, List.set_cons_zero, List.set_cons_succ, i64_w, i32_w]
                            rfl
                          refine take_ (i := 4) (N := some 103) (v := ?_) (a' := ?_) #[true, true, true, true, true, false, false, false, false, false, false] rfl rfl (take_ofW HT_.out HW_.out (by kernel_rfl)) (fun _ _ _ h => h) (Or.inl ⟨by rfl, ?_⟩) hHeld ?_ ?_
                          rotate_left
                          · rintro w' ⟨s0, s1, s2⟩
                            go_simp
                            with_reducible rfl
                          rotate_left
                          · simp only [Act.put, List.setIfInBounds_toArray, List.set_cons_zero, List.set_cons_succ, i64_w, i32_w]
                            rfl
                          refine one_ (i := 5) (N := some 104) #[true, true, true, true, true, true, false, false, false, false, false] rfl rfl (one_of HT_.out (by kernel_rfl)) (by decide) (fun K hK => ?_)
                          refine goes_ Tryd.func18 (by kernel_rfl) rfl #[.agg #[.slice Ao9 t146.length co9, .slice Ao11 t149.length co11], .int .i64 (rd l1 x9_3)] (by rfl) rfl rfl (by (try simp only [List.map_toArray, List.map_cons, List.map_nil]); first | done | rfl | (simp only [List.length_drop, List.length_take]; rfl)) ?_
                          with_reducible refine (slots_At.calls _ _ t146 _ _ t149 (rd l1 x9_3) t164 t165 _ ?side1 ?side2 ?side3 ?side4 A40.out).mono ?_
                          (case side1 => repeat (first | exact (TV_reads' HO_154000.out).2.2 | (with_reducible refine Kd.C_alloc ?_ _) | (with_reducible refine Kd.C_drewN ?_ _) | (with_reducible refine Kd.C_drew ?_)))
                          (case side2 => exact (TV_reads' HO_154000.out).2.1)
                          (case side3 => repeat (first | exact (TV_reads' HO_154001.out).2.2 | (with_reducible refine Kd.C_alloc ?_ _) | (with_reducible refine Kd.C_drewN ?_ _) | (with_reducible refine Kd.C_drew ?_)))
                          (case side4 => exact (TV_reads' HO_154001.out).2.1)
                          rintro e w48 ⟨rfl, hb⟩
                          refine ⟨_, rfl, ?_⟩
                          have n0_ := Aside0.mk (TV_below (by (with_reducible repeat (first | apply TV_alloc | apply TV_drewN | apply TV_drew)); exact HO_154000.out) hb)
                          have n1_ := Aside0.mk (TV_below (by (with_reducible repeat (first | apply TV_alloc | apply TV_drewN | apply TV_drew)); exact HO_154001.out) hb)
                          have n2_ := Aside0.mk (blk_below (g := gb153) (o := .cells #[.slice Ao9 t146.length co9, .slice Ao11 t149.length co11] 27 (0, 0)) (by (with_reducible repeat (first | refine blk_drewN ?_ _ | refine blk_drew ?_ | refine blk_alloc ?_ _)); exact BK153.out) hb)
                          have n3_ := Aside0.mk (below_step (by repeat (first | (with_reducible first | exact HB.out | apply below_alloc | apply pw_below_drewN | apply below_drew1 | refine below_set ?_ GE153.out) | exact HB.out)) hb)
                          clear HO_154000
                          clear HO_154001
                          clear BK153
                          clear HB
                          have HO_154000 := n0_
                          have HO_154001 := n1_
                          have BK153 := n2_
                          have HB := n3_
                          clear n0_ n1_ n2_ n3_
                          (try clear hb)
                          (try clear hb2)
                          (try clear hk)
                          (try clear hi)
                          refine hK.out _ _ ⟨(blk_cell BK153.out 0).trans rfl, (blk_cell BK153.out 1).trans rfl, ((HB.out.cell (World.block_lt_of_cell? w _ hw163_0)).trans hw163_0)⟩ (fun hHeld => ?_)
                          clear hK K
                          refine norm_ (a' := ?_) ?_ ?_
                          rotate_left
                          · show Act.put _ (some 104) _ = _
                            simp only [Act.put, List.setIfInBounds_toArray, List.set_cons_zero, List.set_cons_succ, i64_w, i32_w]
                            rfl
                          refine pure_ (i := 6) (N := some 98) (v := ?_) (a' := ?_) #[true, true, true, true, true, true, true, false, false, false, false] rfl rfl (any_of HT_.out (by kernel_rfl)) (fun _ _ _ h => h) (Or.inl ⟨by rfl, ?_⟩) ?_ ?_
                          rotate_left
                          · intro w'
                            go_simp
                            with_reducible rfl
                          rotate_left
                          · simp only [Act.put, List.setIfInBounds_toArray, List.set_cons_zero, List.set_cons_succ, i64_w, i32_w]
                            rfl
                          refine pure_ (i := 7) (N := some 105) (v := ?_) (a' := ?_) #[true, true, true, true, true, true, true, true, false, false, false] rfl rfl (any_of HT_.out (by kernel_rfl)) (fun _ _ _ h => h) (Or.inl ⟨by rfl, ?_⟩) ?_ ?_
                          rotate_left
                          · intro w'
                            go_simp
                            with_reducible rfl
                          rotate_left
                          · simp only [Act.put, List.setIfInBounds_toArray, List.set_cons_zero, List.set_cons_succ, i64_w, i32_w]
                            rfl
                          refine pure_ (i := 8) (N := some 106) (v := ?_) (a' := ?_) #[true, true, true, true, true, true, true, true, true, false, false] rfl rfl (any_of HT_.out (by kernel_rfl)) (fun _ _ _ h => h) (Or.inl ⟨by rfl, ?_⟩) ?_ ?_
                          rotate_left
                          · intro w'
                            go_simp
                            with_reducible rfl
                          rotate_left
                          · simp only [Act.put, List.setIfInBounds_toArray, List.set_cons_zero, List.set_cons_succ, i64_w, i32_w]
                            rfl
                          refine pure_ (i := 9) (N := some 12) (v := ?_) (a' := ?_) #[true, true, true, true, true, true, true, true, true, true, false] rfl rfl (any_of HT_.out (by kernel_rfl)) (fun _ _ _ h => h) (Or.inl ⟨by rfl, ?_⟩) ?_ ?_
                          rotate_left
                          · intro w'
                            go_simp
                            with_reducible rfl
                          rotate_left
                          · simp only [Act.put, List.setIfInBounds_toArray, List.set_cons_zero, List.set_cons_succ, i64_w, i32_w]
                            rfl
                          refine pure_ (i := 10) (N := some 13) (v := ?_) (a' := ?_) #[true, true, true, true, true, true, true, true, true, true, true] rfl rfl (any_of HT_.out (by kernel_rfl)) (fun _ _ _ h => h) (Or.inl ⟨by rfl, ?_⟩) ?_ ?_
                          rotate_left
                          · intro w'
                            go_simp
                            with_reducible rfl
                          rotate_left
                          · simp only [Act.put, List.setIfInBounds_toArray, List.set_cons_zero, List.set_cons_succ, i64_w, i32_w]
                            rfl
                          refine done_ (done_of HT_.out (by kernel_rfl)) ?_
                          try go_wp2
                          go_ret
                          exact ⟨by first | rfl | (simp [errW_none, errW_some] <;> rfl) | (simp [*, errW_none, errW_some] <;> rfl), by repeat (first | (with_reducible first | exact HB.out | apply below_alloc | apply pw_below_drewN | apply below_drew1 | refine below_set ?_ GE153.out) | exact HB.out)⟩
                      · as_aux_lemma =>
                        rw [if_neg c41] at H
                        have c41b0 : (t161 == t164) = false := beq_eq_false_iff_ne.mpr c41
                        have c41b1 : (t161 != t164) = true := bne_iff_ne.mpr c41
                        obtain rfl := Option.some.inj H
                        have p160 : 0 ≤ (x9_3 : Int) := of_decide_eq_true (by first | (with_reducible assumption) | assumption)
                        have q160 : x9_3 < (l1.length : Int) := of_decide_eq_true (by first | (with_reducible assumption) | assumption)
                        obtain ⟨ad160, e160, hx160_0⟩ := Kd.at_int HR1.out x9_3 p160 q160
                        cases e160
                        replace hx160_0 := (HB.out.cell (World.block_lt_of_cell? w _ hx160_0)).trans hx160_0
                        replace p160 := eq_true p160
                        replace q160 := eq_true q160
                        try go_wp2_with (first | ((with_reducible refine gate_callee (f := 25) rfl ?_); refine goesL_ (some 95) rfl rfl Tryd.func25 (by kernel_rfl) rfl #[.slice A0 l0.length c0, .int .i64 (rd l1 x9_3)] rfl (by (try simp only [List.map_toArray, List.map_cons, List.map_nil]); first | done | rfl | (simp only [List.length_drop, List.length_take]; rfl)) ?_; (with_reducible refine (occ_At.calls _ _ l0 (rd l1 x9_3) t161 t162 _ ?side1 ?side2 ?side3 A39.out).mono ?_); (case side1 => repeat (first | exact (Kd.C_below HR0.out HB.out) | (with_reducible refine Kd.C_alloc ?_ _) | (with_reducible refine Kd.C_drewN ?_ _) | (with_reducible refine Kd.C_drew ?_))); (case side2 => exact HC0.out); (case side3 => repeat (first | exact (GH_below HG.out HB.out) | (with_reducible refine GH_alloc ?_ _) | (with_reducible refine GH_drewN ?_ _) | (with_reducible refine GH_drew ?_))); rintro e w49 ⟨rfl, hb⟩; refine ⟨_, rfl, ?_⟩; have n0_ := Aside0.mk (TV_below (by (with_reducible repeat (first | apply TV_alloc | apply TV_drewN | apply TV_drew)); exact HO_154000.out) hb); have n1_ := Aside0.mk (TV_below (by (with_reducible repeat (first | apply TV_alloc | apply TV_drewN | apply TV_drew)); exact HO_154001.out) hb); have n2_ := Aside0.mk (blk_below (g := gb153) (o := .cells #[.slice Ao9 t146.length co9, .slice Ao11 t149.length co11] 27 (0, 0)) (by (with_reducible repeat (first | refine blk_drewN ?_ _ | refine blk_drew ?_ | refine blk_alloc ?_ _)); exact BK153.out) hb); have n3_ := Aside0.mk (below_step (by repeat (first | (with_reducible first | exact HB.out | apply below_alloc | apply pw_below_drewN | apply below_drew1 | refine below_set ?_ GE153.out) | exact HB.out)) hb); clear HO_154000; clear HO_154001; clear BK153; clear HB; have HO_154000 := n0_; have HO_154001 := n1_; have BK153 := n2_; have HB := n3_; clear n0_ n1_ n2_ n3_; (try clear hb); (try clear hb2); (try clear hk); (try clear hi)))
                        have n0_ := Aside0.mk (TV_drew HO_154000.out)
                        have n1_ := Aside0.mk (TV_drew HO_154001.out)
                        have n2_ := Aside0.mk (blk_drew BK153.out)
                        have n3_ := Aside0.mk (below_drew1 HB.out)
                        clear HO_154000
                        clear HO_154001
                        clear BK153
                        clear HB
                        have HO_154000 := n0_
                        have HO_154001 := n1_
                        have BK153 := n2_
                        have HB := n3_
                        clear n0_ n1_ n2_ n3_
                        have p163 : 0 ≤ (x9_3 : Int) := of_decide_eq_true (by first | (with_reducible assumption) | assumption)
                        have q163 : x9_3 < (l1.length : Int) := of_decide_eq_true (by first | (with_reducible assumption) | assumption)
                        obtain ⟨ad163, e163, hx163_0⟩ := Kd.at_int HR1.out x9_3 p163 q163
                        have hw163_0 := hx163_0
                        obtain rfl : ad160 = ad163 := (by injection e163)
                        replace hx163_0 := (HB.out.cell (World.block_lt_of_cell? w _ hx163_0)).trans hx163_0
                        replace p163 := eq_true p163
                        replace q163 := eq_true q163
                        refine start_ (n := 11) (S := fun w' => w'.cell? ⟨gb153, 0, none⟩ = some (.slice Ao9 t146.length co9) ∧ w'.cell? ⟨gb153, 1, none⟩ = some (.slice Ao11 t149.length co11) ∧ w'.cell? (ad160.add (x9_3).toNat) = some (.int .i64 (rd l1 x9_3))) (ds := []) #[false, false, false, false, false, false, false, false, false, false, false] (by kernel_rfl) rfl rfl ⟨(blk_cell BK153.out 0).trans rfl, (blk_cell BK153.out 1).trans rfl, ((HB.out.cell (World.block_lt_of_cell? w _ hw163_0)).trans hw163_0)⟩ (fun hHeld => ?_); refine with_tabW bulkheadlaw13_SlotsTell.tab11 bulkheadlaw13_SlotsTell.bits11 (fun HT_ HW_ => ?_)
                        generalize w49.drew = w50 at HO_154000 HO_154001 BK153 HB hx163_0 hHeld ⊢
                        refine pure_ (i := 1) (N := some 100) (v := ?_) (a' := ?_) #[false, true, false, false, false, false, false, false, false, false, false] rfl rfl (any_of HT_.out (by kernel_rfl)) (fun _ _ _ h => h) (Or.inl ⟨by rfl, ?_⟩) ?_ ?_
                        rotate_left
                        · intro w'
                          go_simp
                          with_reducible rfl
                        rotate_left
                        · simp only [Act.put, List.setIfInBounds_toArray, List.set_cons_zero, List.set_cons_succ, i64_w, i32_w]
                          rfl
                        refine pure_ (i := 2) (N := some 101) (v := ?_) (a' := ?_) #[false, true, true, false, false, false, false, false, false, false, false] rfl rfl (any_of HT_.out (by kernel_rfl)) (fun _ _ _ h => h) (Or.inl ⟨by rfl, ?_⟩) ?_ ?_
                        rotate_left
                        · intro w'
                          go_simp
                          with_reducible rfl
                        rotate_left
                        · simp only [Act.put, List.setIfInBounds_toArray, List.set_cons_zero, List.set_cons_succ, i64_w, i32_w]
                          rfl
                        refine pure_ (i := 3) (N := some 102) (v := ?_) (a' := ?_) #[false, true, true, true, false, false, false, false, false, false, false] rfl rfl (any_of HT_.out (by kernel_rfl)) (fun _ _ _ h => h) (Or.inl ⟨by rfl, ?_⟩) ?_ ?_
                        rotate_left
                        · intro w'
                          go_simp
                          with_reducible rfl
                        rotate_left
                        · simp only [Act.put, List.setIfInBounds_toArray, List.set_cons_zero, List.set_cons_succ, i64_w, i32_w]
                          rfl
                        refine take_ (i := 0) (N := some 99) (v := ?_) (a' := ?_) #[true, true, true, true, false, false, false, false, false, false, false] rfl rfl (take_ofW HT_.out HW_.out (by kernel_rfl)) (fun _ _ _ h => h) (Or.inl ⟨by rfl, ?_⟩) hHeld ?_ ?_
                        rotate_left
                        · rintro w' ⟨s0, s1, s2⟩
                          go_simp
                          with_reducible rfl
                        rotate_left
                        · simp only [Act.put, List.setIfInBounds_toArray, List.set_cons_zero, List.set_cons_succ, i64_w, i32_w]
                          rfl
                        refine take_ (i := 4) (N := some 103) (v := ?_) (a' := ?_) #[true, true, true, true, true, false, false, false, false, false, false] rfl rfl (take_ofW HT_.out HW_.out (by kernel_rfl)) (fun _ _ _ h => h) (Or.inl ⟨by rfl, ?_⟩) hHeld ?_ ?_
                        rotate_left
                        · rintro w' ⟨s0, s1, s2⟩
                          go_simp
                          with_reducible rfl
                        rotate_left
                        · simp only [Act.put, List.setIfInBounds_toArray, List.set_cons_zero, List.set_cons_succ, i64_w, i32_w]
                          rfl
                        refine one_ (i := 5) (N := some 104) #[true, true, true, true, true, true, false, false, false, false, false] rfl rfl (one_of HT_.out (by kernel_rfl)) (by decide) (fun K hK => ?_)
                        refine goes_ Tryd.func18 (by kernel_rfl) rfl #[.agg #[.slice Ao9 t146.length co9, .slice Ao11 t149.length co11], .int .i64 (rd l1 x9_3)] (by rfl) rfl rfl (by (try simp only [List.map_toArray, List.map_cons, List.map_nil]); first | done | rfl | (simp only [List.length_drop, List.length_take]; rfl)) ?_
                        with_reducible refine (slots_At.calls _ _ t146 _ _ t149 (rd l1 x9_3) t164 t165 _ ?side1 ?side2 ?side3 ?side4 A40.out).mono ?_
                        (case side1 => repeat (first | exact (TV_reads' HO_154000.out).2.2 | (with_reducible refine Kd.C_alloc ?_ _) | (with_reducible refine Kd.C_drewN ?_ _) | (with_reducible refine Kd.C_drew ?_)))
                        (case side2 => exact (TV_reads' HO_154000.out).2.1)
                        (case side3 => repeat (first | exact (TV_reads' HO_154001.out).2.2 | (with_reducible refine Kd.C_alloc ?_ _) | (with_reducible refine Kd.C_drewN ?_ _) | (with_reducible refine Kd.C_drew ?_)))
                        (case side4 => exact (TV_reads' HO_154001.out).2.1)
                        rintro e w51 ⟨rfl, hb⟩
                        refine ⟨_, rfl, ?_⟩
                        have n0_ := Aside0.mk (TV_below (by (with_reducible repeat (first | apply TV_alloc | apply TV_drewN | apply TV_drew)); exact HO_154000.out) hb)
                        have n1_ := Aside0.mk (TV_below (by (with_reducible repeat (first | apply TV_alloc | apply TV_drewN | apply TV_drew)); exact HO_154001.out) hb)
                        have n2_ := Aside0.mk (blk_below (g := gb153) (o := .cells #[.slice Ao9 t146.length co9, .slice Ao11 t149.length co11] 27 (0, 0)) (by (with_reducible repeat (first | refine blk_drewN ?_ _ | refine blk_drew ?_ | refine blk_alloc ?_ _)); exact BK153.out) hb)
                        have n3_ := Aside0.mk (below_step (by repeat (first | (with_reducible first | exact HB.out | apply below_alloc | apply pw_below_drewN | apply below_drew1 | refine below_set ?_ GE153.out) | exact HB.out)) hb)
                        clear HO_154000
                        clear HO_154001
                        clear BK153
                        clear HB
                        have HO_154000 := n0_
                        have HO_154001 := n1_
                        have BK153 := n2_
                        have HB := n3_
                        clear n0_ n1_ n2_ n3_
                        (try clear hb)
                        (try clear hb2)
                        (try clear hk)
                        (try clear hi)
                        refine hK.out _ _ ⟨(blk_cell BK153.out 0).trans rfl, (blk_cell BK153.out 1).trans rfl, ((HB.out.cell (World.block_lt_of_cell? w _ hw163_0)).trans hw163_0)⟩ (fun hHeld => ?_)
                        clear hK K
                        refine norm_ (a' := ?_) ?_ ?_
                        rotate_left
                        · show Act.put _ (some 104) _ = _
                          simp only [Act.put, List.setIfInBounds_toArray, List.set_cons_zero, List.set_cons_succ, i64_w, i32_w]
                          rfl
                        refine pure_ (i := 6) (N := some 98) (v := ?_) (a' := ?_) #[true, true, true, true, true, true, true, false, false, false, false] rfl rfl (any_of HT_.out (by kernel_rfl)) (fun _ _ _ h => h) (Or.inl ⟨by rfl, ?_⟩) ?_ ?_
                        rotate_left
                        · intro w'
                          go_simp
                          with_reducible rfl
                        rotate_left
                        · simp only [Act.put, List.setIfInBounds_toArray, List.set_cons_zero, List.set_cons_succ, i64_w, i32_w]
                          rfl
                        refine pure_ (i := 7) (N := some 105) (v := ?_) (a' := ?_) #[true, true, true, true, true, true, true, true, false, false, false] rfl rfl (any_of HT_.out (by kernel_rfl)) (fun _ _ _ h => h) (Or.inl ⟨by rfl, ?_⟩) ?_ ?_
                        rotate_left
                        · intro w'
                          go_simp
                          with_reducible rfl
                        rotate_left
                        · simp only [Act.put, List.setIfInBounds_toArray, List.set_cons_zero, List.set_cons_succ, i64_w, i32_w]
                          rfl
                        refine pure_ (i := 8) (N := some 106) (v := ?_) (a' := ?_) #[true, true, true, true, true, true, true, true, true, false, false] rfl rfl (any_of HT_.out (by kernel_rfl)) (fun _ _ _ h => h) (Or.inl ⟨by rfl, ?_⟩) ?_ ?_
                        rotate_left
                        · intro w'
                          go_simp
                          with_reducible rfl
                        rotate_left
                        · simp only [Act.put, List.setIfInBounds_toArray, List.set_cons_zero, List.set_cons_succ, i64_w, i32_w]
                          rfl
                        refine pure_ (i := 9) (N := some 12) (v := ?_) (a' := ?_) #[true, true, true, true, true, true, true, true, true, true, false] rfl rfl (any_of HT_.out (by kernel_rfl)) (fun _ _ _ h => h) (Or.inl ⟨by rfl, ?_⟩) ?_ ?_
                        rotate_left
                        · intro w'
                          go_simp
                          with_reducible rfl
                        rotate_left
                        · simp only [Act.put, List.setIfInBounds_toArray, List.set_cons_zero, List.set_cons_succ, i64_w, i32_w]
                          rfl
                        refine pure_ (i := 10) (N := some 13) (v := ?_) (a' := ?_) #[true, true, true, true, true, true, true, true, true, true, true] rfl rfl (any_of HT_.out (by kernel_rfl)) (fun _ _ _ h => h) (Or.inl ⟨by rfl, ?_⟩) ?_ ?_
                        rotate_left
                        · intro w'
                          go_simp
                          with_reducible rfl
                        rotate_left
                        · simp only [Act.put, List.setIfInBounds_toArray, List.set_cons_zero, List.set_cons_succ, i64_w, i32_w]
                          rfl
                        refine done_ (done_of HT_.out (by kernel_rfl)) ?_
                        try go_wp2
                        go_ret
                        exact ⟨by first | rfl | (simp [errW_none, errW_some] <;> rfl) | (simp [*, errW_none, errW_some] <;> rfl), by repeat (first | (with_reducible first | exact HB.out | apply below_alloc | apply pw_below_drewN | apply below_drew1 | refine below_set ?_ GE153.out) | exact HB.out)⟩
                    · as_aux_lemma =>
                      rw [if_neg c38] at H
                      exact absurd H (by simp)
                  · as_aux_lemma =>
                    rw [if_neg c37] at H
                    have c37b0 : decide (x9_3 < (l1.length : Int)) = false := decide_eq_false c37
                    clear c37
                    obtain rfl := Option.some.inj H
                    go_wp2
                    go_ret
                    exact ⟨by first | rfl | (simp [errW_none, errW_some] <;> rfl) | (simp [*, errW_none, errW_some] <;> rfl), by repeat (first | (with_reducible first | exact HB.out | apply below_alloc | apply pw_below_drewN | apply below_drew1 | refine below_set ?_ GE153.out) | exact HB.out)⟩

end Go.Proofs.YtckdjcidbpnfeaaDoor.B
