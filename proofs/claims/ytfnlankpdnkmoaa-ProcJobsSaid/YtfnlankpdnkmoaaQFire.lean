/- Proved: the contracts of what a timer does (miss, begin, timeOut), of Fire and Next. Conditions: the table's length is that of a list; places and misses are not beyond a half of all numbers. -/
import Derived.Test.YtfnlankpdnkmoaaQDue
namespace Go.Proofs.Ytfnlankpdnkmoaa.B
open Go.RowKit Go.Proofs.YtfnlankpdnkmoaaW.PrintWords Go.Proofs.YtfnlankpdnkmoaaW.PrintLast Go.Proofs.YtfnlankpdnkmoaaW.PrintMore

theorem At.hi {W : World} {base g : Nat} {T : Tb} {q i : Nat} {x : PS} {p : PD} (h : At W base g T q i x p) : i < T.xs.length := (h.tab.getx h.x).1
def PS.missed (x : PS) : PS := { x with miss := x.miss + 1, dl := -1 }
set_option maxHeartbeats 4000000 in
set_option maxRecDepth 100000 in
theorem miss_is (now : Int) (W : World) (base g : Nat) (T : Tb) (q i : Nat) (x : PS) (p : PD) (h : At W base g T q i x p) (hm : 0 ≤ x.miss ∧ x.miss < 4611686018427387904) :
    Calls Try.prog 64 #[.pointer (some ⟨g, 0, none⟩), .int .i64 ((i : Int) + 1), .int .i64 now] W (TPost W base g T (T.put i x.missed) (.tuple #[])) := by
  have hu48 := Try.underlying48
  have HA := Aside0.mk h.at_
  have y1 := h.tab.r_miss h.a h.x
  have y2 := h.tab.r_dl h.a h.x
  have f1 := h.tab.frz h.a (i * 28 + 27)
  have f2 := h.tab.frz h.a (i * 28 + 21)
  have t1 := h.tab.w_miss h.a h.x (x.miss + 1)
  have t2 := t1.w_dl h.a (T.put_at i _ h.hi) (-1)
  rw [T.put_put] at t2
  have HT := Aside0.mk t2
  have HK := Aside0.mk ((TK.refl (W := W) (g := g)).setS h.a (i * 28 + 27) (.int .i64 (x.miss + 1)) |>.setS h.a (i * 28 + 21) (.int .i64 (-1)))
  obtain ⟨hm0, hm1⟩ := hm
  unfold PS.missed
  generalize x.miss = m at *
  clear h t1 t2
  go_enter Try.func64, Try.ntmps64
  go_wp2_with (go_at_call 35; refine HA.out.mono ?_; rintro e w' ⟨rfl, rfl⟩)
  go_end0
  exact ⟨rfl, HT.out, HK.out⟩
/-- A timer of waiting: the process goes on. -/
def PS.late0 (x : PS) : PS := { x with regs := x.regs.set 0 (if x.st = 2 then 0 else 4) }
set_option maxHeartbeats 4000000 in
set_option maxRecDepth 100000 in
theorem timeOut_is (now : Int) (W : World) (base g : Nat) (T : Tb) (q i : Nat) (x : PS) (p : PD) (h : At W base g T q i x p) (hp : 0 ≤ T.place ∧ T.place < 4611686018427387904) :
    Calls Try.prog 68 #[.pointer (some ⟨g, 0, none⟩), .int .i64 ((i : Int) + 1), .int .i64 now] W (TPost W base g T (T.enter i x.late0 1) (.tuple #[])) := by
  have hu48 := Try.underlying48
  have hu46 := Try.underlying46
  have HA := Aside0.mk h.at_
  have hr := h.tab.r16 h.x
  have y0 := h.tab.r_st h.a h.x
  have y3 := h.tab.sc h.a h.x (3 + 0) (by omega) (PS.get_reg x hr 0 (by omega))
  have f3 := h.tab.frz h.a (i * 28 + (3 + 0))
  have t1 := h.tab.w_reg h.a h.x 0 (by omega) 4
  have t2 := t1.w_reg h.a (T.put_at i _ h.hi) 0 (by omega) 0
  rw [T.put_put] at t2
  simp only [List.set_set] at t2
  have HK1 := Aside0.mk ((TK.refl (W := W) (g := g)).setS h.a (i * 28 + (3 + 0)) (.int .i64 4))
  have HK2 := Aside0.mk (((TK.refl (W := W) (g := g)).setS h.a (i * 28 + (3 + 0)) (.int .i64 4)).setS h.a (i * 28 + (3 + 0)) (.int .i64 0))
  have HE1 := Aside0.mk (enter_is _ base g _ t1 q i _ 1 h.a (T.put_at i _ h.hi) hp)
  have HE2 := Aside0.mk (enter_is _ base g _ t2 q i _ 1 h.a (T.put_at i _ h.hi) hp)
  have hpe : ∀ (z : PS), (T.put i z).enter i z 1 = T.enter i z 1 := fun z => by unfold Tb.enter Tb.take; simp [Tb.put]
  have HPE := Aside0.mk hpe
  simp only [Nat.add_zero] at y0 y3 f3 HK1 HK2 HE1 HE2
  obtain ⟨s, hs⟩ : ∃ s, x.st = s := ⟨_, rfl⟩
  rw [hs] at y0
  have HS := Aside0.mk hs
  clear h t1 t2 hpe hs
  by_cases h2 : s = 2
  · subst h2
    go_enter Try.func68, Try.ntmps68
    go_wp2_with (first
      | (go_at_call 35; refine HA.out.mono ?_; rintro e w' ⟨rfl, rfl⟩)
      | (go_at_call 38; refine HE2.out.mono ?_; rintro e w' ⟨rfl, ht, hk⟩))
    go_end0
    rw [HPE.out] at ht
    exact ⟨rfl, by unfold PS.late0; rw [HS.out, if_pos rfl]; exact ht, HK2.out.trans hk⟩
  · have q2 : (s == 2) = false := by rw [beq_eq_false_iff_ne]; exact h2
    go_enter Try.func68, Try.ntmps68
    go_wp2_with (first
      | (go_at_call 35; refine HA.out.mono ?_; rintro e w' ⟨rfl, rfl⟩)
      | (go_at_call 38; refine HE1.out.mono ?_; rintro e w' ⟨rfl, ht, hk⟩))
    go_end0
    rw [HPE.out] at ht
    exact ⟨rfl, by unfold PS.late0; rw [HS.out, if_neg h2]; exact ht, HK1.out.trans hk⟩
/-- A release. -/
def PS.fresh (x : PS) (p : PD) (now : Int) : PS := { x with regs := x.regs.set 0 0, rel := now, dl := dlOf p now, late := false }
def Tb.begin_ (T : Tb) (i : Nat) (x : PS) (p : PD) (now : Int) : Tb := if x.st = 3 then T.enter i (x.fresh p now) 1 else T.put i { x with late := true }
set_option maxHeartbeats 4000000 in
set_option maxRecDepth 100000 in
theorem begin_is (now : Int) (W : World) (base g : Nat) (T : Tb) (q i : Nat) (x : PS) (p : PD) (h : At W base g T q i x p) (hp : 0 ≤ T.place ∧ T.place < 4611686018427387904) :
    Calls Try.prog 66 #[.pointer (some ⟨g, 0, none⟩), .int .i64 ((i : Int) + 1), .int .i64 now] W (TPost W base g T (T.begin_ i x p now) (.tuple #[])) := by
  have hu48 := Try.underlying48
  have hu46 := Try.underlying46
  have HA := Aside0.mk h.at_
  have y0 := h.tab.r_st h.a h.x
  simp only [Nat.add_zero] at y0
  by_cases h3 : x.st = 3
  · rw [h3] at y0
    rw [show T.begin_ i x p now = T.enter i (x.fresh p now) 1 by unfold Tb.begin_; rw [if_pos h3]]
    have HD := Aside0.mk (fun (w' : World) (hb : Below W.heap.size W w') => deadline_is w' base g T (h.below hb).tab i p h.p now h.n)
    have hr0 := h.tab.r16 h.x
    obtain ⟨r0, er0⟩ : ∃ r0, x.regs[0]'(by omega) = r0 := ⟨_, rfl⟩
    have HE := Aside0.mk (show ∀ w2, Below W.heap.size W w2 → (w2.cell? ⟨q, i * 28 + 3, none⟩ = some (.int .i64 r0) ∧ w2.frozen? ⟨q, i * 28 + 3, none⟩ = false) ∧ (w2.cell? ⟨q, i * 28 + 20, none⟩ = some (.int .i64 x.rel) ∧ w2.frozen? ⟨q, i * 28 + 20, none⟩ = false) ∧ (w2.cell? ⟨q, i * 28 + 21, none⟩ = some (.int .i64 x.dl) ∧ w2.frozen? ⟨q, i * 28 + 21, none⟩ = false) ∧ (w2.cell? ⟨q, i * 28 + 23, none⟩ = some (.bool x.late) ∧ w2.frozen? ⟨q, i * 28 + 23, none⟩ = false) ∧
        Calls Try.prog 38 #[.pointer (some ⟨g, 0, none⟩), .pointer (some ⟨q, i * 28, none⟩), .int .i64 1] ((((w2.setCell ⟨q, i * 28 + 3, none⟩ (.int .i64 0)).setCell ⟨q, i * 28 + 20, none⟩ (.int .i64 now)).setCell ⟨q, i * 28 + 21, none⟩ (.int .i64 (dlOf p now))).setCell ⟨q, i * 28 + 23, none⟩ (.bool false)) (TPost W base g T (T.enter i (x.fresh p now) 1) (.tuple #[])) from fun w2 hb => by
      have h' := h.below hb
      have hr := h'.tab.r16 h'.x
      have z3 := h'.tab.sc h'.a h'.x (3 + 0) (by omega) (PS.get_reg x hr 0 (by omega))
      rw [er0] at z3
      have t1 := h'.tab.w_reg h'.a h'.x 0 (by omega) 0
      have t2 := t1.w_rel h'.a (T.put_at i _ h'.hi) now
      rw [T.put_put] at t2
      have t3 := t2.w_dl h'.a (T.put_at i _ h'.hi) (dlOf p now)
      rw [T.put_put] at t3
      have t4 := t3.w_late h'.a (T.put_at i _ h'.hi) false
      rw [T.put_put] at t4
      have hk := (((((TK.of_below hb : TK W w2 g T.sv).setS h'.a (i * 28 + (3 + 0)) (.int .i64 0)).setS h'.a (i * 28 + 20) (.int .i64 now)).setS h'.a (i * 28 + 21) (.int .i64 (dlOf p now))).setS h'.a (i * 28 + 23) (.bool false))
      have he := enter_is _ base g _ t4 q i _ 1 h'.a (T.put_at i _ h'.hi) hp
      have hpe : ∀ (z : PS), (T.put i z).enter i z 1 = T.enter i z 1 := fun z => by unfold Tb.enter Tb.take; simp [Tb.put]
      rw [hpe] at he
      simp only [Nat.add_zero] at z3 he hk
      exact ⟨⟨z3, h'.tab.frz h'.a _⟩, ⟨h'.tab.r_rel h'.a h'.x, h'.tab.frz h'.a _⟩, ⟨h'.tab.r_dl h'.a h'.x, h'.tab.frz h'.a _⟩, ⟨h'.tab.r_late h'.a h'.x, h'.tab.frz h'.a _⟩, he.mono fun e w' hq => ⟨hq.1, hq.2.1, hk.trans hq.2.2⟩⟩)
    generalize T.enter i (x.fresh p now) 1 = T' at *
    generalize dlOf p now = D at *
    clear er0 hr0 h h3
    go_enter Try.func66, Try.ntmps66
    go_wp2_with (go_at_call 35; refine HA.out.mono ?_; rintro e w' ⟨rfl, rfl⟩)
    go_region_with (go_at_call 37; refine (HD.out _ (below_drew1 (Below.refl _ _))).mono ?_; rintro e w2 ⟨rfl, hb⟩; obtain ⟨⟨y3, f3⟩, ⟨y20, f20⟩, ⟨y21, f21⟩, ⟨y23, f23⟩, hent⟩ := HE.out w2 ((below_drew1 (Below.refl _ _)).trans (hb.mono (Nat.le_refl _))); have HEN := Aside0.mk hent; clear hb hent)
    go_wp2_with (go_at_call 38; refine HEN.out.mono ?_; rintro e w' hq; have he := hq.1; subst he; have HQ := Aside0.mk hq; clear hq)
    go_end0
    exact HQ.out
  · rw [show T.begin_ i x p now = T.put i { x with late := true } by unfold Tb.begin_; rw [if_neg h3]]
    have q3 : (x.st == 3) = false := by rw [beq_eq_false_iff_ne]; exact h3
    have y23 := h.tab.r_late h.a h.x
    have f23 := h.tab.frz h.a (i * 28 + 23)
    have HT := Aside0.mk (h.tab.w_late h.a h.x true)
    have HK := Aside0.mk ((TK.refl (W := W) (g := g)).setS h.a (i * 28 + 23) (.bool true))
    generalize x.st = s at *
    clear h
    go_enter Try.func66, Try.ntmps66
    go_wp2_with (go_at_call 35; refine HA.out.mono ?_; rintro e w' ⟨rfl, rfl⟩)
    first | go_end0 | go_ret
    exact ⟨rfl, HT.out, HK.out⟩
end Go.Proofs.Ytfnlankpdnkmoaa.B
