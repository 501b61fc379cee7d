/- Proved: the contract of the Walker's Advance: it stands in the slot of the tick. -/
import Derived.Test.YtckdjcidbpnfeaaDoorHWalk2
import Derived.StillTailTactics
namespace Go.Proofs.YtckdjcidbpnfeaaDoor.B
open Go.RowKit Go.Proofs.YtckdjcidbpnfeaaDoorW.PrintWords Go.Proofs.YtckdjcidbpnfeaaDoorW.PrintLast Go.Proofs.YtckdjcidbpnfeaaDoorW.PrintMore

theorem WkAt.put {W : World} {base g : Nat} {V0 V1 : Value} {P C : List (Nat × Nat)} {h now : Nat} {c : Bool} {pl u : Nat} (k : WkAt W base g V0 V1 P C h now c pl u) (j : Nat) (v : Value) {now' : Nat} {c' : Bool} {pl' u' : Nat}
    (hc : (#[.int .i64 (now : Nat), .int .i64 (h : Nat), V0, V1, .bool c, .int .i64 (pl : Nat), .int .i64 (u : Nat)] : Array Value).setIfInBounds j v = #[.int .i64 (now' : Nat), .int .i64 (h : Nat), V0, V1, .bool c', .int .i64 (pl' : Nat), .int .i64 (u' : Nat)]) : WkAt (W.setCell ⟨g, j, none⟩ v) base g V0 V1 P C h now' c' pl' u' :=
  k.step (fun i _ hne => Below.heap_setCell _ _ _ i hne) (by have h := blk_set k.blk j v; rw [hc] at h; exact h)
/-- What Advance leaves. -/
def AdvPost (W : World) (base g : Nat) (V0 V1 : Value) (P C : List (Nat × Nat)) (h tk : Nat) (e : Ending) (w' : World) : Prop :=
  e = .returned (.int .i64 0) ∧ ∃ c' pl' u' s', WkAt w' base g V0 V1 P C h tk c' pl' u' ∧ Stands P C h c' pl' u' s' ∧ s' ≤ tk ∧ tk < u' ∧ Below base W w'
theorem jump_math (tk h r F : Nat) (h1 : 1 ≤ h) (hr : tk % h = r) (hF : max (tk - r) h = F) (hj : h ≤ tk) : F = tk - r ∧ F % h = 0 ∧ h ≤ F ∧ F ≤ tk := by
  have e := Nat.div_add_mod tk h
  rw [hr] at e
  have hd : 1 ≤ tk / h := Nat.div_pos hj h1
  have e2 : tk - r = h * (tk / h) := by omega
  have e3 : h ≤ h * (tk / h) := Nat.le_mul_of_pos_right h hd
  have e4 : F = tk - r := by rw [← hF]; exact Nat.max_eq_left (by omega)
  exact ⟨e4, by rw [e4, e2, Nat.mul_mod_right], by omega, by omega⟩
theorem wrap_small (U : Nat) (h : U ≤ 1100000000000) : wrap64 (U : Int) = (U : Int) := by unfold wrap64; omega
theorem meas_lt (tk u U : Nat) (h : u < U) (h2 : u ≤ tk) : tk + 1 - (intOf ((some (Value.int .i64 (U : Nat))).getD undef)).toNat < tk + 1 - (intOf ((some (Value.int .i64 (u : Nat))).getD undef)).toNat := by
  simp [intOf]; omega
theorem sum_small (tk u L0 U : Nat) (h : tk < 1099511627776) (h1 : u ≤ tk) (h2 : L0 ≤ 1048576) (h3 : u + L0 = U) : U ≤ 1100000000000 := by omega
theorem part_still (W : World) (g : Nat) (a0 a1 V0 V1 a5 a6 : Value) (c : Bool) (hb : W.heap[g]? = some (.cells #[a0, a1, V0, V1, .bool c, a5, a6] 81 (0, 0))) (v : Value) (hv : (if c = true then V1 else V0) = v) :
    Calls Tryd.prog 47 #[.pointer (some ⟨g, 0, none⟩)] W fun e w' => e = .returned v ∧ w' = W := (part_is W g a0 a1 V0 V1 a5 a6 c hb).mono fun _ _ h => ⟨by rw [← hv]; exact h.1, h.2.symm⟩
attribute [local go_sem] Oper.semAt_some max2_mx max_two min2_mn min_two
set_option maxHeartbeats 4000000 in
set_option maxRecDepth 100000 in
theorem advance_no (W : World) (base g : Nat) (V0 V1 : Value) (P C : List (Nat × Nat)) (h now : Nat) (c : Bool) (pl u : Nat) (tk : Int) (k : WkAt W base g V0 V1 P C h now c pl u) (hto : 1099511627776 ≤ tk) (hn : now < 1099511627776) :
    Calls Tryd.prog 17 #[.pointer (some ⟨g, 0, none⟩), .int .i64 tk] W fun e w' => e = .returned (.int .i64 2) ∧ W = w' := by
  have hu81 := Tryd.underlying81
  have j0 := (blk_cell k.blk 0).trans (show _ = some (.int .i64 (now : Nat)) from rfl)
  have d1 : ¬ (tk < (now : Int)) := by omega
  clear k
  go_enter Tryd.func17, Tryd.ntmps17
  go_wp2
  go_ret
  exact ⟨rfl, rfl⟩
set_option maxHeartbeats 16000000 in
set_option maxRecDepth 100000 in
theorem advance_is (W : World) (base g : Nat) (V0 V1 : Value) (P C : List (Nat × Nat)) (h now : Nat) (c : Bool) (pl u s tk : Nat) (ht : Table P C h) (k : WkAt W base g V0 V1 P C h now c pl u) (st : Stands P C h c pl u s) (h1 : now ≤ tk) (h2 : tk < 1099511627776) (h3 : s ≤ now) (hub : u ≤ 1099512676352) :
    Calls Tryd.prog 17 #[.pointer (some ⟨g, 0, none⟩), .int .i64 (tk : Nat)] W (AdvPost W base g V0 V1 P C h tk) := by
  have hu81 := Tryd.underlying81
  have hu27 := Tryd.underlying27
  have hu72 := Tryd.underlying72
  have HT := Aside0.mk ht
  have HK := Aside0.mk k
  have HST := Aside0.mk st
  have j0 := (blk_cell k.blk 0).trans (show _ = some (.int .i64 (now : Nat)) from rfl)
  have j1 := (blk_cell k.blk 1).trans (show _ = some (.int .i64 (h : Nat)) from rfl)
  have j6 := (blk_cell k.blk 6).trans (show _ = some (.int .i64 (u : Nat)) from rfl)
  have d1 : ¬ ((tk : Int) < (now : Int)) := by omega
  have hh1 := ht.h1
  have hh2 := ht.h2
  have hz : ((h : Int) == 0) = false := by rw [beq_eq_false_iff_ne]; omega
  have hz2 : ¬ ((h : Int) = 0) := by omega
  have hM : Int.tmod (tk : Int) (h : Int) = ((tk % h : Nat) : Int) := (Int.ofNat_tmod tk h).symm
  have hle := Nat.mod_le tk h
  obtain ⟨r, hr⟩ : ∃ r, tk % h = r := ⟨_, rfl⟩
  rw [hr] at hM hle
  obtain ⟨F, hF⟩ : ∃ F, max (tk - r) h = F := ⟨_, rfl⟩
  have hW : IntKind.i64.wrap ((tk : Int) - (r : Int)) = (tk : Int) - (r : Int) := IntWalk.i64_in _ (by omega)
  have hX : mxI ((tk : Int) - (r : Int)) (h : Int) = (F : Int) := by unfold mxI; split <;> omega
  have HF := Aside0.mk hF
  have HR := Aside0.mk hr
  have HS3 := Aside0.mk h3
  have H2 := Aside0.mk h2
  have HUB := Aside0.mk hub
  have d2 : decide (1099511627776 ≤ tk) = false := decide_eq_false (by omega)
  have d3 : ¬ (1099511627776 ≤ tk) := by omega
  have hT2 : tk ≤ 1099511627776 := by omega
  have HBb := Aside0.mk (show Below base W W.drew from (Below.refl _ _).drew)
  obtain ⟨t, hti⟩ : ∃ t : Int, (tk : Int) = t := ⟨_, rfl⟩
  rw [hti] at d1 hM hW hX ⊢
  have e2 : ¬ (1099511627776 ≤ t) := by omega
  have e3 : t < 1099511627776 := by omega
  have HTI := Aside0.mk hti
  have HD := Aside0.mk hle
  clear k st ht hF hr h3 h2 hub d2 d3 hT2 hti hle
  go_enter Tryd.func17, Tryd.ntmps17
  go_wp2
  go_quiet (fail)
  have HKd := Aside0.mk (HK.out.below (pw_below_drewN (Below.refl _ _) nq))
  have HBd := Aside0.mk (pw_below_drewN (Below.refl base W) nq)
  obtain ⟨Wd, hWd⟩ : ∃ Wd, W.drewN nq = Wd := ⟨_, rfl⟩
  rw [hWd] at HKd HBd ⊢
  have i1 := (blk_cell HKd.out.blk 1).trans (show _ = some (.int .i64 (h : Nat)) from rfl)
  have i6 := (blk_cell HKd.out.blk 6).trans (show _ = some (.int .i64 (u : Nat)) from rfl)
  clear hWd j0 j1 j6 hM hW hX hz hz2 d1 e2 e3 HBb
  have hti := HTI.out
  by_cases hj : h ≤ tk
  · have hji : (h : Int) ≤ t := by omega
    by_cases hg : u < F
    · have hgi : (u : Int) < (F : Int) := by omega
      have hFr : F = tk - r ∧ F % h = 0 ∧ h ≤ F ∧ F ≤ tk := jump_math tk h r F hh1 HR.out HF.out hj
      have HFR := Aside0.mk hFr
      obtain ⟨ad1, n1, cc1, ev1, hn10, x0⟩ := TV_first HKd.out.r1 (HT.out.lpos true)
      have sj := Stands.jump HT.out F hFr.2.2.1 hFr.2.1
      have hL1 : ((lst P C true)[0]'(HT.out.lpos true)).1 ≤ 1048576 := (sj.len HT.out).2.2.1
      have sj' : Stands P C h true 0 (F + ((C[0]'(HT.out.lpos true)).1)) F := sj
      have hL1' : ((C[0]'(HT.out.lpos true)).1) ≤ 1048576 := hL1
      generalize ((C[0]'(HT.out.lpos true)).1) = L0 at *
      obtain ⟨U, hU⟩ : ∃ U, F + L0 = U := ⟨_, rfl⟩
      rw [hU] at sj'
      have hUi : (F : Int) + (L0 : Int) = (U : Int) := by omega
      have HSJ := Aside0.mk sj'
      have i3 := (blk_cell HKd.out.blk 3).trans (show _ = some V1 from rfl)
      rw [ev1] at i3
      have i4 := (blk_cell HKd.out.blk 4).trans (show _ = some (.bool c) from rfl)
      have i5 := (blk_cell HKd.out.blk 5).trans (show _ = some (.int .i64 (pl : Nat)) from rfl)
      have o4 := blk_frozen HKd.out.blk 4
      have o5 := blk_frozen HKd.out.blk 5
      have o6 := blk_frozen HKd.out.blk 6
      have hWU : wrap64 (U : Int) = (U : Int) := wrap_small U (sum_small tk F L0 U H2.out hFr.2.2.2 hL1' hU)
      obtain ⟨w5, hw5⟩ : ∃ w5, ((Wd.setCell ⟨g, 4, none⟩ (.bool true)).setCell ⟨g, 5, none⟩ (.int .i64 0)).setCell ⟨g, 6, none⟩ (.int .i64 (U : Nat)) = w5 := ⟨_, rfl⟩
      have HKe := Aside0.mk (show WkAt w5 base g V0 V1 P C h now true 0 U by rw [← hw5]; exact ((HKd.out.put 4 (.bool true) rfl).put 5 (.int .i64 0) rfl).put 6 (.int .i64 (U : Nat)) rfl)
      have HBe := Aside0.mk (show Below base W w5 by rw [← hw5]; exact ((HBd.out.setCell (p := ⟨g, 4, none⟩) HKd.out.low _).setCell (p := ⟨g, 5, none⟩) HKd.out.low _).setCell (p := ⟨g, 6, none⟩) HKd.out.low _)
      clear hti hj hg hFr sj sj' hL1 hL1' hU ev1
      go_wp2
      (try rw [hWU])
      (try rw [hw5])
      clear hWU hw5 hgi hUi hn10 x0 i3 i4 i5 o4 o5 o6
      go_loopw [] (fun wr => ∃ (c : Bool) (pl u s : Nat), Aside0 (WkAt wr base g V0 V1 P C h now c pl u) ∧ Aside0 (Stands P C h c pl u s) ∧ Aside0 (s ≤ tk) ∧ Aside0 (Below base W wr)) (fun wr => tk + 1 - (intOf ((wr.cell? ⟨g, 6, none⟩).getD undef)).toNat)
      case atStart => exact ⟨_, _, _, _, HKe, HSJ, ⟨HFR.out.2.2.2⟩, HBe⟩
      case round =>
        clear HKd HBd HKe HBe HK HST HS3 i1 i6
        obtain ⟨c, pl, u, s, HK, HST, HS, HB⟩ := hrel
        have j5 := (blk_cell HK.out.blk 5).trans (show _ = some (.int .i64 (pl : Nat)) from rfl)
        have j6 := (blk_cell HK.out.blk 6).trans (show _ = some (.int .i64 (u : Nat)) from rfl)
        have f5 := blk_frozen HK.out.blk 5
        have f0 := blk_frozen HK.out.blk 0
        have j0 := (blk_cell HK.out.blk 0).trans (show _ = some (.int .i64 (now : Nat)) from rfl)
        have hti := HTI.out
        by_cases hu : u ≤ tk
        · have hui : (u : Int) ≤ t := by omega
          have HU := Aside0.mk hu
          clear hti hu
          have hlt := HST.out.lt
          have hll := HT.out.ll c
          obtain ⟨ad, n, cc, ev, hn1, hn2, y0, -⟩ := HK.out.slot hlt
          obtain ⟨q, hq⟩ : ∃ q, pl + 1 = q := ⟨_, rfl⟩
          have hqi : (pl : Int) + 1 = (q : Int) := by omega
          have hqb : q ≤ 1048577 := by omega
          obtain ⟨w1, hw1⟩ : ∃ w1, wr.setCell ⟨g, 5, none⟩ (.int .i64 (q : Nat)) = w1 := ⟨_, rfl⟩
          have HK1 := Aside0.mk (show WkAt w1 base g V0 V1 P C h now c q u by rw [← hw1]; exact HK.out.put 5 (.int .i64 (q : Nat)) rfl)
          have HB1 := Aside0.mk (show Below base W w1 by rw [← hw1]; exact HB.out.setCell (p := ⟨g, 5, none⟩) HK.out.low _)
          have HP := Aside0.mk (fun (W' : World) (hb : Below w1.heap.size w1 W') => part_still W' g _ _ V0 V1 _ _ c (HK1.out.below hb).blk _ ev)
          have k4 := (blk_cell HK1.out.blk 4).trans (show _ = some (.bool c) from rfl)
          have k5 := (blk_cell HK1.out.blk 5).trans (show _ = some (.int .i64 (q : Nat)) from rfl)
          have k6 := (blk_cell HK1.out.blk 6).trans (show _ = some (.int .i64 (u : Nat)) from rfl)
          have g4 := blk_frozen HK1.out.blk 4
          have g5 := blk_frozen HK1.out.blk 5
          have g6 := blk_frozen HK1.out.blk 6
          have HQ := Aside0.mk hq
          have HN2 := Aside0.mk hn2
          clear hlt hll y0 hn1 hn2 hq ev
          by_cases hw : q = n
          · subst hw
            have hqn : pl + 1 = (lst P C c).length := by have := HQ.out; have := HN2.out; omega
            obtain ⟨-, sw⟩ := HST.out.wrap HT.out hqn
            have hL1 := (sw.len HT.out).2.2.1
            obtain ⟨w2, hw2⟩ : ∃ w2, (w1.setCell ⟨g, 4, none⟩ (.bool true)).setCell ⟨g, 5, none⟩ (.int .i64 0) = w2 := ⟨_, rfl⟩
            have HK2 := Aside0.mk (show WkAt w2 base g V0 V1 P C h now true 0 u by rw [← hw2]; exact (HK1.out.put 4 (.bool true) rfl).put 5 (.int .i64 0) rfl)
            have HB2 := Aside0.mk (show Below base W w2 by rw [← hw2]; exact (HB1.out.setCell (p := ⟨g, 4, none⟩) HK.out.low _).setCell (p := ⟨g, 5, none⟩) HK.out.low _)
            obtain ⟨ad1, n1, cc1, ev1, hn10, x0⟩ := TV_first HK2.out.r1 (HT.out.lpos true)
            have HP2 := Aside0.mk (fun (W' : World) (hb : Below w2.heap.size w2 W') => part_still W' g _ _ V0 V1 _ _ true (HK2.out.below hb).blk (.slice (some ad1) n1 cc1) (by rw [if_pos rfl]; exact ev1))
            have sw' : Stands P C h true 0 (u + ((C[0]'(HT.out.lpos true)).1)) u := sw
            have hL1' : ((C[0]'(HT.out.lpos true)).1) ≤ 1048576 := hL1
            generalize ((C[0]'(HT.out.lpos true)).1) = L0 at *
            obtain ⟨U, hU⟩ : ∃ U, u + L0 = U := ⟨_, rfl⟩
            rw [hU] at sw'
            have hUi : (u : Int) + (L0 : Int) = (U : Int) := by omega
            have hl1 := (sw'.len HT.out).1
            have HSW := Aside0.mk sw'
            have HUU := Aside0.mk (show u < U by have := (sw.len HT.out).2.1; omega)
            have hn1i : (0 : Int) < (n1 : Int) := by omega
            have m4 := (blk_cell HK2.out.blk 4).trans (show _ = some (.bool true) from rfl)
            have m5 := (blk_cell HK2.out.blk 5).trans (show _ = some (.int .i64 0) from rfl)
            have m6 := (blk_cell HK2.out.blk 6).trans (show _ = some (.int .i64 (u : Nat)) from rfl)
            have o6 := blk_frozen HK2.out.blk 6
            have HUB2 := Aside0.mk (And.intro hL1' hU)
            clear sw sw' hL1 hL1' hU hl1 ev1 hqn
            go_wp2
            refine wp_region_still_lit (by kernel_rfl) (by kernel_rfl) ?_
            repeat still_step
            still_call (HP.out _ (below_drew1 (Below.refl _ _)))
            repeat still_step
            refine wpStill_nil ?_
            go_wp2
            obtain ⟨w3, hw3⟩ : ∃ w3, w2.drew = w3 := ⟨_, rfl⟩
            rw [hw3]
            have m5' : w3.cell? ⟨g, 5, none⟩ = some (.int .i64 0) := by rw [← hw3]; exact m5
            have m6' : w3.cell? ⟨g, 6, none⟩ = some (.int .i64 (u : Nat)) := by rw [← hw3]; exact m6
            have x0' : w3.cell? ad1 = some (.int .i64 (L0 : Nat)) := by rw [← hw3]; exact x0
            have o6' : w3.frozen? ⟨g, 6, none⟩ = false := by rw [← hw3]; exact o6
            have HK3 := Aside0.mk (show WkAt w3 base g V0 V1 P C h now true 0 u by rw [← hw3]; exact HK2.out.drew)
            have HB3 := Aside0.mk (show Below base W w3 by rw [← hw3]; exact HB2.out.drew)
            have HP3 := Aside0.mk (HP2.out w3.drew (by rw [← hw3]; exact below_drew1 (below_drew1 (Below.refl _ _))))
            clear hw3 m5 m6 x0 o6
            refine wp_region_still_tail 16 (by kernel_rfl) (by kernel_rfl) ?_
            simp only [List.take_succ_cons, List.take_zero, List.drop_succ_cons, List.drop_zero]
            change wpStill _ _ w3.drew _ _ _
            repeat still_step
            still_call HP3.out
            repeat still_step
            refine wpStill_nil ?_
            change wpList _ _ _ _ _ w3.drew
            go_wp2
            have HKn := HK3.out.drew.put 6 (.int .i64 (U : Nat)) (now' := now) (c' := true) (pl' := 0) (u' := U) rfl
            have HBn := HB3.out.drew.setCell (p := ⟨g, 6, none⟩) HK.out.low (.int .i64 (U : Nat))
            have e1 := (blk_cell HKn.blk 6).trans (show _ = some (.int .i64 (U : Nat)) from rfl)
            have hWU : wrap64 (U : Int) = (U : Int) := wrap_small U (sum_small tk u L0 U H2.out HU.out HUB2.out.1 HUB2.out.2)
            rw [hWU]
            go_roundw
            case rel => exact ⟨true, 0, U, u, ⟨HKn⟩, HSW, HU, ⟨HBn⟩⟩
            case measure =>
              have e2 : ((w3.setCell ⟨g, 6, none⟩ (.int .i64 (U : Nat))).drew).cell? ⟨g, 6, none⟩ = some (.int .i64 (U : Nat)) := e1
              rw [e2, j6]
              exact meas_lt tk u U HUU.out HU.out
          · have hwi : ¬ ((q : Int) = (n : Int)) := by omega
            have hwb : ((q : Int) == (n : Int)) = false := by rw [beq_eq_false_iff_ne]; exact hwi
            clear hw
            have hql : q < (lst P C c).length := by have := HST.out.lt; have := HN2.out; have := HQ.out; omega
            obtain ⟨ad2, n2, cc2, ev2, hn2q, hn2l, x0, -⟩ := HK1.out.slot hql
            have sw : Stands P C h c q (u + ((lst P C c)[q]'hql).1) u := by
              have hq1 : pl + 1 < (lst P C c).length := by rw [HQ.out]; exact hql
              have hnx := HST.out.next hq1
              have e : ∀ (a : Nat) (ha : a < (lst P C c).length) (b : Nat) (hb : b < (lst P C c).length), a = b → Stands P C h c a (u + ((lst P C c)[a]'ha).1) u → Stands P C h c b (u + ((lst P C c)[b]'hb).1) u := fun a ha b hb e k => by subst e; exact k
              exact e _ hq1 _ hql HQ.out hnx
            have hL1 : ((lst P C c)[q]'hql).1 ≤ 1048576 := (sw.len HT.out).2.2.1
            have hl1 : 1 ≤ ((lst P C c)[q]'hql).1 := (sw.len HT.out).2.1
            generalize ((lst P C c)[q]'hql).1 = L0 at *
            obtain ⟨U, hU⟩ : ∃ U, u + L0 = U := ⟨_, rfl⟩
            rw [hU] at sw
            have hUi : (u : Int) + (L0 : Int) = (U : Int) := by omega
            have HSW := Aside0.mk sw
            have HUU := Aside0.mk (show u < U by omega)
            have HUB2 := Aside0.mk (And.intro hL1 hU)
            have HP2 := Aside0.mk (fun (W' : World) (hb : Below w1.heap.size w1 W') => part_still W' g _ _ V0 V1 _ _ c (HK1.out.below hb).blk _ ev2)
            have hqn2 : (q : Int) < (n2 : Int) := by omega
            clear sw hL1 hl1 hU hql ev2 hn2l
            go_wp2
            refine wp_region_still_lit (by kernel_rfl) (by kernel_rfl) ?_
            repeat still_step
            still_call (HP.out _ (below_drew1 (Below.refl _ _)))
            repeat still_step
            refine wpStill_nil ?_
            go_wp2
            change Code.wp _ _ _ _ w1.drew
            obtain ⟨w3, hw3⟩ : ∃ w3, w1.drew = w3 := ⟨_, rfl⟩
            rw [hw3]
            have m5' : w3.cell? ⟨g, 5, none⟩ = some (.int .i64 (q : Nat)) := by rw [← hw3]; exact k5
            have m6' : w3.cell? ⟨g, 6, none⟩ = some (.int .i64 (u : Nat)) := by rw [← hw3]; exact k6
            have x0' : w3.cell? (ad2.add (q * 2)) = some (.int .i64 (L0 : Nat)) := by rw [← hw3]; exact x0
            have o6' : w3.frozen? ⟨g, 6, none⟩ = false := by rw [← hw3]; exact g6
            have HK3 := Aside0.mk (show WkAt w3 base g V0 V1 P C h now c q u by rw [← hw3]; exact HK1.out.drew)
            have HB3 := Aside0.mk (show Below base W w3 by rw [← hw3]; exact HB1.out.drew)
            have HP3 := Aside0.mk (HP2.out w3.drew (by rw [← hw3]; exact below_drew1 (below_drew1 (Below.refl _ _))))
            clear hw3 x0 k4 k5 k6 g4 g5 g6
            refine wp_region_still_tail 16 (by kernel_rfl) (by kernel_rfl) ?_
            simp only [List.take_succ_cons, List.take_zero, List.drop_succ_cons, List.drop_zero]
            change wpStill _ _ w3.drew _ _ _
            repeat still_step
            still_call HP3.out
            repeat still_step
            refine wpStill_nil ?_
            change wpList _ _ _ _ _ w3.drew
            go_wp2
            have HKn := HK3.out.drew.put 6 (.int .i64 (U : Nat)) (now' := now) (c' := c) (pl' := q) (u' := U) rfl
            have HBn := HB3.out.drew.setCell (p := ⟨g, 6, none⟩) HK.out.low (.int .i64 (U : Nat))
            have e1 := (blk_cell HKn.blk 6).trans (show _ = some (.int .i64 (U : Nat)) from rfl)
            have hWU : wrap64 (U : Int) = (U : Int) := wrap_small U (sum_small tk u L0 U H2.out HU.out HUB2.out.1 HUB2.out.2)
            (try rw [hWU])
            go_roundw
            case rel => exact ⟨c, q, U, u, ⟨HKn⟩, HSW, HU, ⟨HBn⟩⟩
            case measure =>
              have e2 : ((w3.setCell ⟨g, 6, none⟩ (.int .i64 (U : Nat))).drew).cell? ⟨g, 6, none⟩ = some (.int .i64 (U : Nat)) := e1
              rw [e2, j6]
              exact meas_lt tk u U HUU.out HU.out
        · have hui : ¬ ((u : Int) ≤ t) := by omega
          have HU := Aside0.mk hu
          clear hti hu
          go_wp2
          go_ret
          exact ⟨rfl, c, pl, u, s, HK.out.put 0 (.int .i64 t) (by rw [← HTI.out]; rfl), HST.out, HS.out, by have := HU.out; omega, HB.out.setCell (p := ⟨g, 0, none⟩) HK.out.low _⟩
    · have hgi : ¬ ((u : Int) < (F : Int)) := by omega
      clear hti hj hg
      go_wp2
      go_loopw [] (fun wr => ∃ (c : Bool) (pl u s : Nat), Aside0 (WkAt wr base g V0 V1 P C h now c pl u) ∧ Aside0 (Stands P C h c pl u s) ∧ Aside0 (s ≤ tk) ∧ Aside0 (Below base W wr)) (fun wr => tk + 1 - (intOf ((wr.cell? ⟨g, 6, none⟩).getD undef)).toNat)
      case atStart => exact ⟨_, _, _, _, HKd, HST, ⟨Nat.le_trans HS3.out h1⟩, HBd⟩
      case round =>
        clear HKd HBd HK HST HS3 i1 i6
        obtain ⟨c, pl, u, s, HK, HST, HS, HB⟩ := hrel
        have j5 := (blk_cell HK.out.blk 5).trans (show _ = some (.int .i64 (pl : Nat)) from rfl)
        have j6 := (blk_cell HK.out.blk 6).trans (show _ = some (.int .i64 (u : Nat)) from rfl)
        have f5 := blk_frozen HK.out.blk 5
        have f0 := blk_frozen HK.out.blk 0
        have j0 := (blk_cell HK.out.blk 0).trans (show _ = some (.int .i64 (now : Nat)) from rfl)
        have hti := HTI.out
        by_cases hu : u ≤ tk
        · have hui : (u : Int) ≤ t := by omega
          have HU := Aside0.mk hu
          clear hti hu
          have hlt := HST.out.lt
          have hll := HT.out.ll c
          obtain ⟨ad, n, cc, ev, hn1, hn2, y0, -⟩ := HK.out.slot hlt
          obtain ⟨q, hq⟩ : ∃ q, pl + 1 = q := ⟨_, rfl⟩
          have hqi : (pl : Int) + 1 = (q : Int) := by omega
          have hqb : q ≤ 1048577 := by omega
          obtain ⟨w1, hw1⟩ : ∃ w1, wr.setCell ⟨g, 5, none⟩ (.int .i64 (q : Nat)) = w1 := ⟨_, rfl⟩
          have HK1 := Aside0.mk (show WkAt w1 base g V0 V1 P C h now c q u by rw [← hw1]; exact HK.out.put 5 (.int .i64 (q : Nat)) rfl)
          have HB1 := Aside0.mk (show Below base W w1 by rw [← hw1]; exact HB.out.setCell (p := ⟨g, 5, none⟩) HK.out.low _)
          have HP := Aside0.mk (fun (W' : World) (hb : Below w1.heap.size w1 W') => part_still W' g _ _ V0 V1 _ _ c (HK1.out.below hb).blk _ ev)
          have k4 := (blk_cell HK1.out.blk 4).trans (show _ = some (.bool c) from rfl)
          have k5 := (blk_cell HK1.out.blk 5).trans (show _ = some (.int .i64 (q : Nat)) from rfl)
          have k6 := (blk_cell HK1.out.blk 6).trans (show _ = some (.int .i64 (u : Nat)) from rfl)
          have g4 := blk_frozen HK1.out.blk 4
          have g5 := blk_frozen HK1.out.blk 5
          have g6 := blk_frozen HK1.out.blk 6
          have HQ := Aside0.mk hq
          have HN2 := Aside0.mk hn2
          clear hlt hll y0 hn1 hn2 hq ev
          by_cases hw : q = n
          · subst hw
            have hqn : pl + 1 = (lst P C c).length := by have := HQ.out; have := HN2.out; omega
            obtain ⟨-, sw⟩ := HST.out.wrap HT.out hqn
            have hL1 := (sw.len HT.out).2.2.1
            obtain ⟨w2, hw2⟩ : ∃ w2, (w1.setCell ⟨g, 4, none⟩ (.bool true)).setCell ⟨g, 5, none⟩ (.int .i64 0) = w2 := ⟨_, rfl⟩
            have HK2 := Aside0.mk (show WkAt w2 base g V0 V1 P C h now true 0 u by rw [← hw2]; exact (HK1.out.put 4 (.bool true) rfl).put 5 (.int .i64 0) rfl)
            have HB2 := Aside0.mk (show Below base W w2 by rw [← hw2]; exact (HB1.out.setCell (p := ⟨g, 4, none⟩) HK.out.low _).setCell (p := ⟨g, 5, none⟩) HK.out.low _)
            obtain ⟨ad1, n1, cc1, ev1, hn10, x0⟩ := TV_first HK2.out.r1 (HT.out.lpos true)
            have HP2 := Aside0.mk (fun (W' : World) (hb : Below w2.heap.size w2 W') => part_still W' g _ _ V0 V1 _ _ true (HK2.out.below hb).blk (.slice (some ad1) n1 cc1) (by rw [if_pos rfl]; exact ev1))
            have sw' : Stands P C h true 0 (u + ((C[0]'(HT.out.lpos true)).1)) u := sw
            have hL1' : ((C[0]'(HT.out.lpos true)).1) ≤ 1048576 := hL1
            generalize ((C[0]'(HT.out.lpos true)).1) = L0 at *
            obtain ⟨U, hU⟩ : ∃ U, u + L0 = U := ⟨_, rfl⟩
            rw [hU] at sw'
            have hUi : (u : Int) + (L0 : Int) = (U : Int) := by omega
            have hl1 := (sw'.len HT.out).1
            have HSW := Aside0.mk sw'
            have HUU := Aside0.mk (show u < U by have := (sw.len HT.out).2.1; omega)
            have hn1i : (0 : Int) < (n1 : Int) := by omega
            have m4 := (blk_cell HK2.out.blk 4).trans (show _ = some (.bool true) from rfl)
            have m5 := (blk_cell HK2.out.blk 5).trans (show _ = some (.int .i64 0) from rfl)
            have m6 := (blk_cell HK2.out.blk 6).trans (show _ = some (.int .i64 (u : Nat)) from rfl)
            have o6 := blk_frozen HK2.out.blk 6
            have HUB2 := Aside0.mk (And.intro hL1' hU)
            clear sw sw' hL1 hL1' hU hl1 ev1 hqn
            go_wp2
            refine wp_region_still_lit (by kernel_rfl) (by kernel_rfl) ?_
            repeat still_step
            still_call (HP.out _ (below_drew1 (Below.refl _ _)))
            repeat still_step
            refine wpStill_nil ?_
            go_wp2
            obtain ⟨w3, hw3⟩ : ∃ w3, w2.drew = w3 := ⟨_, rfl⟩
            rw [hw3]
            have m5' : w3.cell? ⟨g, 5, none⟩ = some (.int .i64 0) := by rw [← hw3]; exact m5
            have m6' : w3.cell? ⟨g, 6, none⟩ = some (.int .i64 (u : Nat)) := by rw [← hw3]; exact m6
            have x0' : w3.cell? ad1 = some (.int .i64 (L0 : Nat)) := by rw [← hw3]; exact x0
            have o6' : w3.frozen? ⟨g, 6, none⟩ = false := by rw [← hw3]; exact o6
            have HK3 := Aside0.mk (show WkAt w3 base g V0 V1 P C h now true 0 u by rw [← hw3]; exact HK2.out.drew)
            have HB3 := Aside0.mk (show Below base W w3 by rw [← hw3]; exact HB2.out.drew)
            have HP3 := Aside0.mk (HP2.out w3.drew (by rw [← hw3]; exact below_drew1 (below_drew1 (Below.refl _ _))))
            clear hw3 m5 m6 x0 o6
            refine wp_region_still_tail 16 (by kernel_rfl) (by kernel_rfl) ?_
            simp only [List.take_succ_cons, List.take_zero, List.drop_succ_cons, List.drop_zero]
            change wpStill _ _ w3.drew _ _ _
            repeat still_step
            still_call HP3.out
            repeat still_step
            refine wpStill_nil ?_
            change wpList _ _ _ _ _ w3.drew
            go_wp2
            have HKn := HK3.out.drew.put 6 (.int .i64 (U : Nat)) (now' := now) (c' := true) (pl' := 0) (u' := U) rfl
            have HBn := HB3.out.drew.setCell (p := ⟨g, 6, none⟩) HK.out.low (.int .i64 (U : Nat))
            have e1 := (blk_cell HKn.blk 6).trans (show _ = some (.int .i64 (U : Nat)) from rfl)
            have hWU : wrap64 (U : Int) = (U : Int) := wrap_small U (sum_small tk u L0 U H2.out HU.out HUB2.out.1 HUB2.out.2)
            rw [hWU]
            go_roundw
            case rel => exact ⟨true, 0, U, u, ⟨HKn⟩, HSW, HU, ⟨HBn⟩⟩
            case measure =>
              have e2 : ((w3.setCell ⟨g, 6, none⟩ (.int .i64 (U : Nat))).drew).cell? ⟨g, 6, none⟩ = some (.int .i64 (U : Nat)) := e1
              rw [e2, j6]
              exact meas_lt tk u U HUU.out HU.out
          · have hwi : ¬ ((q : Int) = (n : Int)) := by omega
            have hwb : ((q : Int) == (n : Int)) = false := by rw [beq_eq_false_iff_ne]; exact hwi
            clear hw
            have hql : q < (lst P C c).length := by have := HST.out.lt; have := HN2.out; have := HQ.out; omega
            obtain ⟨ad2, n2, cc2, ev2, hn2q, hn2l, x0, -⟩ := HK1.out.slot hql
            have sw : Stands P C h c q (u + ((lst P C c)[q]'hql).1) u := by
              have hq1 : pl + 1 < (lst P C c).length := by rw [HQ.out]; exact hql
              have hnx := HST.out.next hq1
              have e : ∀ (a : Nat) (ha : a < (lst P C c).length) (b : Nat) (hb : b < (lst P C c).length), a = b → Stands P C h c a (u + ((lst P C c)[a]'ha).1) u → Stands P C h c b (u + ((lst P C c)[b]'hb).1) u := fun a ha b hb e k => by subst e; exact k
              exact e _ hq1 _ hql HQ.out hnx
            have hL1 : ((lst P C c)[q]'hql).1 ≤ 1048576 := (sw.len HT.out).2.2.1
            have hl1 : 1 ≤ ((lst P C c)[q]'hql).1 := (sw.len HT.out).2.1
            generalize ((lst P C c)[q]'hql).1 = L0 at *
            obtain ⟨U, hU⟩ : ∃ U, u + L0 = U := ⟨_, rfl⟩
            rw [hU] at sw
            have hUi : (u : Int) + (L0 : Int) = (U : Int) := by omega
            have HSW := Aside0.mk sw
            have HUU := Aside0.mk (show u < U by omega)
            have HUB2 := Aside0.mk (And.intro hL1 hU)
            have HP2 := Aside0.mk (fun (W' : World) (hb : Below w1.heap.size w1 W') => part_still W' g _ _ V0 V1 _ _ c (HK1.out.below hb).blk _ ev2)
            have hqn2 : (q : Int) < (n2 : Int) := by omega
            clear sw hL1 hl1 hU hql ev2 hn2l
            go_wp2
            refine wp_region_still_lit (by kernel_rfl) (by kernel_rfl) ?_
            repeat still_step
            still_call (HP.out _ (below_drew1 (Below.refl _ _)))
            repeat still_step
            refine wpStill_nil ?_
            go_wp2
            change Code.wp _ _ _ _ w1.drew
            obtain ⟨w3, hw3⟩ : ∃ w3, w1.drew = w3 := ⟨_, rfl⟩
            rw [hw3]
            have m5' : w3.cell? ⟨g, 5, none⟩ = some (.int .i64 (q : Nat)) := by rw [← hw3]; exact k5
            have m6' : w3.cell? ⟨g, 6, none⟩ = some (.int .i64 (u : Nat)) := by rw [← hw3]; exact k6
            have x0' : w3.cell? (ad2.add (q * 2)) = some (.int .i64 (L0 : Nat)) := by rw [← hw3]; exact x0
            have o6' : w3.frozen? ⟨g, 6, none⟩ = false := by rw [← hw3]; exact g6
            have HK3 := Aside0.mk (show WkAt w3 base g V0 V1 P C h now c q u by rw [← hw3]; exact HK1.out.drew)
            have HB3 := Aside0.mk (show Below base W w3 by rw [← hw3]; exact HB1.out.drew)
            have HP3 := Aside0.mk (HP2.out w3.drew (by rw [← hw3]; exact below_drew1 (below_drew1 (Below.refl _ _))))
            clear hw3 x0 k4 k5 k6 g4 g5 g6
            refine wp_region_still_tail 16 (by kernel_rfl) (by kernel_rfl) ?_
            simp only [List.take_succ_cons, List.take_zero, List.drop_succ_cons, List.drop_zero]
            change wpStill _ _ w3.drew _ _ _
            repeat still_step
            still_call HP3.out
            repeat still_step
            refine wpStill_nil ?_
            change wpList _ _ _ _ _ w3.drew
            go_wp2
            have HKn := HK3.out.drew.put 6 (.int .i64 (U : Nat)) (now' := now) (c' := c) (pl' := q) (u' := U) rfl
            have HBn := HB3.out.drew.setCell (p := ⟨g, 6, none⟩) HK.out.low (.int .i64 (U : Nat))
            have e1 := (blk_cell HKn.blk 6).trans (show _ = some (.int .i64 (U : Nat)) from rfl)
            have hWU : wrap64 (U : Int) = (U : Int) := wrap_small U (sum_small tk u L0 U H2.out HU.out HUB2.out.1 HUB2.out.2)
            (try rw [hWU])
            go_roundw
            case rel => exact ⟨c, q, U, u, ⟨HKn⟩, HSW, HU, ⟨HBn⟩⟩
            case measure =>
              have e2 : ((w3.setCell ⟨g, 6, none⟩ (.int .i64 (U : Nat))).drew).cell? ⟨g, 6, none⟩ = some (.int .i64 (U : Nat)) := e1
              rw [e2, j6]
              exact meas_lt tk u U HUU.out HU.out
        · have hui : ¬ ((u : Int) ≤ t) := by omega
          have HU := Aside0.mk hu
          clear hti hu
          go_wp2
          go_ret
          exact ⟨rfl, c, pl, u, s, HK.out.put 0 (.int .i64 t) (by rw [← HTI.out]; rfl), HST.out, HS.out, by have := HU.out; omega, HB.out.setCell (p := ⟨g, 0, none⟩) HK.out.low _⟩
  · have hji : ¬ ((h : Int) ≤ t) := by omega
    clear hti hj
    go_wp2
    go_loopw [] (fun wr => ∃ (c : Bool) (pl u s : Nat), Aside0 (WkAt wr base g V0 V1 P C h now c pl u) ∧ Aside0 (Stands P C h c pl u s) ∧ Aside0 (s ≤ tk) ∧ Aside0 (Below base W wr)) (fun wr => tk + 1 - (intOf ((wr.cell? ⟨g, 6, none⟩).getD undef)).toNat)
    case atStart => exact ⟨_, _, _, _, HKd, HST, ⟨Nat.le_trans HS3.out h1⟩, HBd⟩
    case round =>
      clear HKd HBd HK HST HS3 i1 i6
      obtain ⟨c, pl, u, s, HK, HST, HS, HB⟩ := hrel
      have j5 := (blk_cell HK.out.blk 5).trans (show _ = some (.int .i64 (pl : Nat)) from rfl)
      have j6 := (blk_cell HK.out.blk 6).trans (show _ = some (.int .i64 (u : Nat)) from rfl)
      have f5 := blk_frozen HK.out.blk 5
      have f0 := blk_frozen HK.out.blk 0
      have j0 := (blk_cell HK.out.blk 0).trans (show _ = some (.int .i64 (now : Nat)) from rfl)
      have hti := HTI.out
      by_cases hu : u ≤ tk
      · have hui : (u : Int) ≤ t := by omega
        have HU := Aside0.mk hu
        clear hti hu
        have hlt := HST.out.lt
        have hll := HT.out.ll c
        obtain ⟨ad, n, cc, ev, hn1, hn2, y0, -⟩ := HK.out.slot hlt
        obtain ⟨q, hq⟩ : ∃ q, pl + 1 = q := ⟨_, rfl⟩
        have hqi : (pl : Int) + 1 = (q : Int) := by omega
        have hqb : q ≤ 1048577 := by omega
        obtain ⟨w1, hw1⟩ : ∃ w1, wr.setCell ⟨g, 5, none⟩ (.int .i64 (q : Nat)) = w1 := ⟨_, rfl⟩
        have HK1 := Aside0.mk (show WkAt w1 base g V0 V1 P C h now c q u by rw [← hw1]; exact HK.out.put 5 (.int .i64 (q : Nat)) rfl)
        have HB1 := Aside0.mk (show Below base W w1 by rw [← hw1]; exact HB.out.setCell (p := ⟨g, 5, none⟩) HK.out.low _)
        have HP := Aside0.mk (fun (W' : World) (hb : Below w1.heap.size w1 W') => part_still W' g _ _ V0 V1 _ _ c (HK1.out.below hb).blk _ ev)
        have k4 := (blk_cell HK1.out.blk 4).trans (show _ = some (.bool c) from rfl)
        have k5 := (blk_cell HK1.out.blk 5).trans (show _ = some (.int .i64 (q : Nat)) from rfl)
        have k6 := (blk_cell HK1.out.blk 6).trans (show _ = some (.int .i64 (u : Nat)) from rfl)
        have g4 := blk_frozen HK1.out.blk 4
        have g5 := blk_frozen HK1.out.blk 5
        have g6 := blk_frozen HK1.out.blk 6
        have HQ := Aside0.mk hq
        have HN2 := Aside0.mk hn2
        clear hlt hll y0 hn1 hn2 hq ev
        by_cases hw : q = n
        · subst hw
          have hqn : pl + 1 = (lst P C c).length := by have := HQ.out; have := HN2.out; omega
          obtain ⟨-, sw⟩ := HST.out.wrap HT.out hqn
          have hL1 := (sw.len HT.out).2.2.1
          obtain ⟨w2, hw2⟩ : ∃ w2, (w1.setCell ⟨g, 4, none⟩ (.bool true)).setCell ⟨g, 5, none⟩ (.int .i64 0) = w2 := ⟨_, rfl⟩
          have HK2 := Aside0.mk (show WkAt w2 base g V0 V1 P C h now true 0 u by rw [← hw2]; exact (HK1.out.put 4 (.bool true) rfl).put 5 (.int .i64 0) rfl)
          have HB2 := Aside0.mk (show Below base W w2 by rw [← hw2]; exact (HB1.out.setCell (p := ⟨g, 4, none⟩) HK.out.low _).setCell (p := ⟨g, 5, none⟩) HK.out.low _)
          obtain ⟨ad1, n1, cc1, ev1, hn10, x0⟩ := TV_first HK2.out.r1 (HT.out.lpos true)
          have HP2 := Aside0.mk (fun (W' : World) (hb : Below w2.heap.size w2 W') => part_still W' g _ _ V0 V1 _ _ true (HK2.out.below hb).blk (.slice (some ad1) n1 cc1) (by rw [if_pos rfl]; exact ev1))
          have sw' : Stands P C h true 0 (u + ((C[0]'(HT.out.lpos true)).1)) u := sw
          have hL1' : ((C[0]'(HT.out.lpos true)).1) ≤ 1048576 := hL1
          generalize ((C[0]'(HT.out.lpos true)).1) = L0 at *
          obtain ⟨U, hU⟩ : ∃ U, u + L0 = U := ⟨_, rfl⟩
          rw [hU] at sw'
          have hUi : (u : Int) + (L0 : Int) = (U : Int) := by omega
          have hl1 := (sw'.len HT.out).1
          have HSW := Aside0.mk sw'
          have HUU := Aside0.mk (show u < U by have := (sw.len HT.out).2.1; omega)
          have hn1i : (0 : Int) < (n1 : Int) := by omega
          have m4 := (blk_cell HK2.out.blk 4).trans (show _ = some (.bool true) from rfl)
          have m5 := (blk_cell HK2.out.blk 5).trans (show _ = some (.int .i64 0) from rfl)
          have m6 := (blk_cell HK2.out.blk 6).trans (show _ = some (.int .i64 (u : Nat)) from rfl)
          have o6 := blk_frozen HK2.out.blk 6
          have HUB2 := Aside0.mk (And.intro hL1' hU)
          clear sw sw' hL1 hL1' hU hl1 ev1 hqn
          go_wp2
          refine wp_region_still_lit (by kernel_rfl) (by kernel_rfl) ?_
          repeat still_step
          still_call (HP.out _ (below_drew1 (Below.refl _ _)))
          repeat still_step
          refine wpStill_nil ?_
          go_wp2
          obtain ⟨w3, hw3⟩ : ∃ w3, w2.drew = w3 := ⟨_, rfl⟩
          rw [hw3]
          have m5' : w3.cell? ⟨g, 5, none⟩ = some (.int .i64 0) := by rw [← hw3]; exact m5
          have m6' : w3.cell? ⟨g, 6, none⟩ = some (.int .i64 (u : Nat)) := by rw [← hw3]; exact m6
          have x0' : w3.cell? ad1 = some (.int .i64 (L0 : Nat)) := by rw [← hw3]; exact x0
          have o6' : w3.frozen? ⟨g, 6, none⟩ = false := by rw [← hw3]; exact o6
          have HK3 := Aside0.mk (show WkAt w3 base g V0 V1 P C h now true 0 u by rw [← hw3]; exact HK2.out.drew)
          have HB3 := Aside0.mk (show Below base W w3 by rw [← hw3]; exact HB2.out.drew)
          have HP3 := Aside0.mk (HP2.out w3.drew (by rw [← hw3]; exact below_drew1 (below_drew1 (Below.refl _ _))))
          clear hw3 m5 m6 x0 o6
          refine wp_region_still_tail 16 (by kernel_rfl) (by kernel_rfl) ?_
          simp only [List.take_succ_cons, List.take_zero, List.drop_succ_cons, List.drop_zero]
          change wpStill _ _ w3.drew _ _ _
          repeat still_step
          still_call HP3.out
          repeat still_step
          refine wpStill_nil ?_
          change wpList _ _ _ _ _ w3.drew
          go_wp2
          have HKn := HK3.out.drew.put 6 (.int .i64 (U : Nat)) (now' := now) (c' := true) (pl' := 0) (u' := U) rfl
          have HBn := HB3.out.drew.setCell (p := ⟨g, 6, none⟩) HK.out.low (.int .i64 (U : Nat))
          have e1 := (blk_cell HKn.blk 6).trans (show _ = some (.int .i64 (U : Nat)) from rfl)
          have hWU : wrap64 (U : Int) = (U : Int) := wrap_small U (sum_small tk u L0 U H2.out HU.out HUB2.out.1 HUB2.out.2)
          rw [hWU]
          go_roundw
          case rel => exact ⟨true, 0, U, u, ⟨HKn⟩, HSW, HU, ⟨HBn⟩⟩
          case measure =>
            have e2 : ((w3.setCell ⟨g, 6, none⟩ (.int .i64 (U : Nat))).drew).cell? ⟨g, 6, none⟩ = some (.int .i64 (U : Nat)) := e1
            rw [e2, j6]
            exact meas_lt tk u U HUU.out HU.out
        · have hwi : ¬ ((q : Int) = (n : Int)) := by omega
          have hwb : ((q : Int) == (n : Int)) = false := by rw [beq_eq_false_iff_ne]; exact hwi
          clear hw
          have hql : q < (lst P C c).length := by have := HST.out.lt; have := HN2.out; have := HQ.out; omega
          obtain ⟨ad2, n2, cc2, ev2, hn2q, hn2l, x0, -⟩ := HK1.out.slot hql
          have sw : Stands P C h c q (u + ((lst P C c)[q]'hql).1) u := by
            have hq1 : pl + 1 < (lst P C c).length := by rw [HQ.out]; exact hql
            have hnx := HST.out.next hq1
            have e : ∀ (a : Nat) (ha : a < (lst P C c).length) (b : Nat) (hb : b < (lst P C c).length), a = b → Stands P C h c a (u + ((lst P C c)[a]'ha).1) u → Stands P C h c b (u + ((lst P C c)[b]'hb).1) u := fun a ha b hb e k => by subst e; exact k
            exact e _ hq1 _ hql HQ.out hnx
          have hL1 : ((lst P C c)[q]'hql).1 ≤ 1048576 := (sw.len HT.out).2.2.1
          have hl1 : 1 ≤ ((lst P C c)[q]'hql).1 := (sw.len HT.out).2.1
          generalize ((lst P C c)[q]'hql).1 = L0 at *
          obtain ⟨U, hU⟩ : ∃ U, u + L0 = U := ⟨_, rfl⟩
          rw [hU] at sw
          have hUi : (u : Int) + (L0 : Int) = (U : Int) := by omega
          have HSW := Aside0.mk sw
          have HUU := Aside0.mk (show u < U by omega)
          have HUB2 := Aside0.mk (And.intro hL1 hU)
          have HP2 := Aside0.mk (fun (W' : World) (hb : Below w1.heap.size w1 W') => part_still W' g _ _ V0 V1 _ _ c (HK1.out.below hb).blk _ ev2)
          have hqn2 : (q : Int) < (n2 : Int) := by omega
          clear sw hL1 hl1 hU hql ev2 hn2l
          go_wp2
          refine wp_region_still_lit (by kernel_rfl) (by kernel_rfl) ?_
          repeat still_step
          still_call (HP.out _ (below_drew1 (Below.refl _ _)))
          repeat still_step
          refine wpStill_nil ?_
          go_wp2
          change Code.wp _ _ _ _ w1.drew
          obtain ⟨w3, hw3⟩ : ∃ w3, w1.drew = w3 := ⟨_, rfl⟩
          rw [hw3]
          have m5' : w3.cell? ⟨g, 5, none⟩ = some (.int .i64 (q : Nat)) := by rw [← hw3]; exact k5
          have m6' : w3.cell? ⟨g, 6, none⟩ = some (.int .i64 (u : Nat)) := by rw [← hw3]; exact k6
          have x0' : w3.cell? (ad2.add (q * 2)) = some (.int .i64 (L0 : Nat)) := by rw [← hw3]; exact x0
          have o6' : w3.frozen? ⟨g, 6, none⟩ = false := by rw [← hw3]; exact g6
          have HK3 := Aside0.mk (show WkAt w3 base g V0 V1 P C h now c q u by rw [← hw3]; exact HK1.out.drew)
          have HB3 := Aside0.mk (show Below base W w3 by rw [← hw3]; exact HB1.out.drew)
          have HP3 := Aside0.mk (HP2.out w3.drew (by rw [← hw3]; exact below_drew1 (below_drew1 (Below.refl _ _))))
          clear hw3 x0 k4 k5 k6 g4 g5 g6
          refine wp_region_still_tail 16 (by kernel_rfl) (by kernel_rfl) ?_
          simp only [List.take_succ_cons, List.take_zero, List.drop_succ_cons, List.drop_zero]
          change wpStill _ _ w3.drew _ _ _
          repeat still_step
          still_call HP3.out
          repeat still_step
          refine wpStill_nil ?_
          change wpList _ _ _ _ _ w3.drew
          go_wp2
          have HKn := HK3.out.drew.put 6 (.int .i64 (U : Nat)) (now' := now) (c' := c) (pl' := q) (u' := U) rfl
          have HBn := HB3.out.drew.setCell (p := ⟨g, 6, none⟩) HK.out.low (.int .i64 (U : Nat))
          have e1 := (blk_cell HKn.blk 6).trans (show _ = some (.int .i64 (U : Nat)) from rfl)
          have hWU : wrap64 (U : Int) = (U : Int) := wrap_small U (sum_small tk u L0 U H2.out HU.out HUB2.out.1 HUB2.out.2)
          (try rw [hWU])
          go_roundw
          case rel => exact ⟨c, q, U, u, ⟨HKn⟩, HSW, HU, ⟨HBn⟩⟩
          case measure =>
            have e2 : ((w3.setCell ⟨g, 6, none⟩ (.int .i64 (U : Nat))).drew).cell? ⟨g, 6, none⟩ = some (.int .i64 (U : Nat)) := e1
            rw [e2, j6]
            exact meas_lt tk u U HUU.out HU.out
      · have hui : ¬ ((u : Int) ≤ t) := by omega
        have HU := Aside0.mk hu
        clear hti hu
        go_wp2
        go_ret
        exact ⟨rfl, c, pl, u, s, HK.out.put 0 (.int .i64 t) (by rw [← HTI.out]; rfl), HST.out, HS.out, by have := HU.out; omega, HB.out.setCell (p := ⟨g, 0, none⟩) HK.out.low _⟩
end Go.Proofs.YtckdjcidbpnfeaaDoor.B
