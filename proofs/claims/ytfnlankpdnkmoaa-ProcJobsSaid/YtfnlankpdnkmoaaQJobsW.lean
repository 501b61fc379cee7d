/- Proved: the walk of the law ProcJobs: it answers true. Conditions: the jobs stand in memory. -/
import Derived.Test.YtfnlankpdnkmoaaQJobsB
import Derived.Deep.DeepCutAuto
namespace Go.Proofs.Ytfnlankpdnkmoaa.B
open Go.RowKit Go.Proofs.YtfnlankpdnkmoaaW.PrintWords Go.Proofs.YtfnlankpdnkmoaaW.PrintLast Go.Proofs.YtfnlankpdnkmoaaW.PrintMore

/-- Jobs in memory. -/
def JobsAt (W : World) (A : Option Addr) (n : Nat) (gap : Nat → Int) (dn : Nat → Bool) : Prop := ∀ i, i < n → ∃ ad : Addr, A = some ad ∧ (ad.add (i * 2)).block < W.heap.size ∧ W.cell? (ad.add (i * 2)) = some (.int .i64 (gap i)) ∧ W.cell? ⟨(ad.add (i * 2)).block, (ad.add (i * 2)).off + 1, none⟩ = some (.bool (dn i))
def goodP (per lim start : Int) : Prop := 1 ≤ per ∧ per ≤ 200 ∧ 0 ≤ lim ∧ lim ≤ per ∧ 0 ≤ start ∧ start ≤ 549755813888
instance (per lim start : Int) : Decidable (goodP per lim start) := by unfold goodP; infer_instance
theorem clip_is (g : Int) : ∃ G : Nat, 1 ≤ G ∧ G ≤ 90 ∧ ∀ W, Calls Try.prog 17 #[.int .i64 g, .int .i64 1, .int .i64 90] W fun e w' => e = .returned (.int .i64 (G : Int)) ∧ Drawn0 W w' := by
  refine ⟨(if g < 1 then 1 else if g > 90 then 90 else g).toNat, ?_, ?_, fun W => ?_⟩
  · split
    · decide
    · split
      · decide
      · omega
  · split
    · decide
    · split
      · decide
      · omega
  · refine bulkheadlaw15_clip.calls g 1 90 _ W ?_
    unfold bulkheadlaw15_clip.f
    split
    · rfl
    · split
      · rfl
      · rw [show ((g.toNat : Nat) : Int) = g by omega]
set_option maxHeartbeats 16000000 in
set_option maxRecDepth 100000 in
theorem jobsW (per lim start : Int) (A : Option Addr) (n c : Nat) (gap : Nat → Int) (dn : Nat → Bool) (W : World) (h : JobsAt W A n gap dn) :
    Calls Try.prog 4 #[.int .i64 per, .int .i64 lim, .int .i64 start, .slice A n c] W fun e w' => e = .returned (.bool true) ∧ Below W.heap.size W w' := by
  have hu25 := Try.underlying25
  have hu28 := Try.underlying28
  have hu38 := Try.underlying38
  have hu41 := Try.underlying41
  have hu48 := Try.underlying48
  have hu46 := Try.underlying46
  have hu55 := Try.underlying55
  have hu58 := Try.underlying58
  have HJ := Aside0.mk h
  clear h
  obtain ⟨C, hC⟩ : ∃ C, decide (goodP per lim start) = C := ⟨_, rfl⟩
  have HC := Aside0.mk hC
  clear hC
  go_enter Try.func4, Try.ntmps4
  go_upto_region 1 with (fail)
  go_cut [41] (fun v w' => v = .bool (!C) ∧ w' = W)
  case first => as_aux_lemma =>
    have e := HC.out
    clear HC HJ
    by_cases h1 : per < 1
    · rw [decide_eq_false (fun h => by unfold goodP at h; omega)] at e
      subst e
      go_wp2
      go_meet
      exact ⟨rfl, rfl⟩
    by_cases h2 : 200 < per
    · rw [decide_eq_false (fun h => by unfold goodP at h; omega)] at e
      subst e
      go_wp2
      go_meet
      exact ⟨rfl, rfl⟩
    by_cases h3 : lim < 0
    · rw [decide_eq_false (fun h => by unfold goodP at h; omega)] at e
      subst e
      go_wp2
      go_meet
      exact ⟨rfl, rfl⟩
    by_cases h4 : per < lim
    · rw [decide_eq_false (fun h => by unfold goodP at h; omega)] at e
      subst e
      go_wp2
      go_meet
      exact ⟨rfl, rfl⟩
    by_cases h5 : start < 0
    · rw [decide_eq_false (fun h => by unfold goodP at h; omega)] at e
      subst e
      go_wp2
      go_meet
      exact ⟨rfl, rfl⟩
    by_cases h6 : 549755813888 < start
    · rw [decide_eq_false (fun h => by unfold goodP at h; omega)] at e
      subst e
      go_wp2
      go_meet
      exact ⟨rfl, rfl⟩
    · rw [decide_eq_true (show goodP per lim start by unfold goodP; omega)] at e
      subst e
      go_wp2
      go_meet
      exact ⟨rfl, rfl⟩
  case rest =>
    obtain ⟨rfl, ecut⟩ := hcut
    have ecut2 := ecut.symm
    subst ecut2
    clear ecut
    cases C with
    | false =>
      clear HC HJ
      generalize hvv : (!false) = vv
      have hv2 : vv = true := hvv.symm
      subst hv2
      clear hvv
      go_wp2_with (go_at_call 9; refine (known_is _).mono ?_; rintro e w4 ⟨rfl, hb⟩; have HB4 := Aside0.mk hb; clear hb)
      go_ret
      exact ⟨rfl, HB4.out⟩
    | true =>
      have hg : goodP per lim start := of_decide_eq_true HC.out
      have HG := Aside0.mk hg
      unfold goodP at hg
      obtain ⟨g1, g2, g3, g4, g5, g6⟩ := hg
      have HST := Aside0.mk (show 0 ≤ start ∧ start < 1099511627776 by omega)
      clear HC
      go_upto_region 8 with (first
        | (go_at_call 8; generalize hW2 : World.alloc (World.alloc W _) _ = W2; have hY := heap_alloc_new (W.alloc (.cells #[.int .u8 0, .int .u8 0, .int .u8 0, .int .u8 0, .int .i32 0] 25)) (.cells #[.int .i64 0, .int .i64 1, .int .i64 per, .int .i64 lim, .int .i64 0, .bool false] 28); rw [World.size_alloc] at hY; rw [hW2] at hY; have hB2 : Below W.heap.size W W2 := (by rw [← hW2]; exact ((Below.refl _ _).alloc (Nat.le_refl _) _).alloc (by simp) _); refine (one_new (pdJ per lim) _ _ _ (W.heap.size + 1) hY).mono ?_; rintro e w3 ⟨g, rfl, ho, hb⟩; have HO := Aside0.mk ho; have HB := Aside0.mk (hB2.trans (hb.mono hB2.size)); have HL := Aside0.mk hB2.size; clear hY hB2 hW2 ho hb)
        | (go_at_call 9; refine (known_is _).mono ?_; rintro e w4 ⟨rfl, hb⟩; have HO4 := Aside0.mk (HO.out.below hb); have HB4 := Aside0.mk (HB.out.trans (hb.mono HB.out.size)); clear hb)
        | (go_at_call 10; refine (one_start HO4.out start 0 0 0 rfl HST.out (by decide)).mono ?_; rintro e w5 ⟨rfl, ho, hb⟩; have HO5 := Aside0.mk ho; have HB5 := Aside0.mk (HB4.out.trans (hb.mono HL.out)); clear ho hb))
      have hxo : JI W W2.heap.size g w5.heap.size per lim start (91 * 0) start (w5.alloc (.cells #[.int .i64 start, .int .i64 0, .bool false, .bool false, .bool false] 55)) :=
        ⟨_, _, _, HO5.out.below ((Below.refl _ _).alloc (Nat.le_refl _) _), (show WdAt _ _ ⟨start, 0, false, false, false⟩ from heap_alloc_new _ _), Rl.first ⟨g1, g2⟩ ⟨g3, g4⟩ ⟨g5, g6⟩, ⟨rfl, rfl⟩, by decide, by decide, by omega, HB5.out.alloc HB5.out.size _⟩
      have HX := Aside0.mk hxo
      have HLG := Aside0.mk HB5.out.size
      generalize w5.alloc (.cells #[.int .i64 start, .int .i64 0, .bool false, .bool false, .bool false] 55) = w6 at *
      generalize w5.heap.size = gw at *
      generalize W2.heap.size = base at *
      clear hxo HO5 HB5 HO4 HB4 HO HB HST
      go_wp2
      go_loopw [11, 12] (fun v11 v12 wr => ∃ (i : Nat) (now : Int), v12 = .int .i64 (i : Nat) ∧ i ≤ 100 ∧ v11 = .int .i64 now ∧ Aside0 (JI W base g gw per lim start (91 * i) now wr)) (fun _ v12 _ => 100 - (intOf v12).toNat)
      case atStart => exact ⟨0, start, rfl, Nat.zero_le _, rfl, HX⟩
      case round =>
        clear HX
        obtain ⟨i, now, rfl, hi, rfl, HX⟩ := hrel
        by_cases hln : i < n
        · by_cases hlt : i < 100
          · obtain ⟨ad, e, hla, y0, y1⟩ := HJ.out i hln
            cases e
            obtain ⟨x, w, pl, hx⟩ := HX.out
            have x0 := (hx.bl.cell (p := ad.add (i * 2)) hla).trans y0
            have HY := Aside0.mk (show ∀ w' : World, Below W.heap.size W w' → w'.cell? ⟨(ad.add (i * 2)).block, (ad.add (i * 2)).off + 1, none⟩ = some (.bool (dn i)) from fun w' hb => (hb.cell (p := ⟨(ad.add (i * 2)).block, (ad.add (i * 2)).off + 1, none⟩) hla).trans y1)
            obtain ⟨G, hG1, hG2, hcl⟩ : ∃ G : Nat, 1 ≤ G ∧ G ≤ 90 ∧ ∀ w', Calls Try.prog 17 #[.int .i64 (gap i), .int .i64 1, .int .i64 90] w' fun e w'' => e = .returned (.int .i64 (G : Int)) ∧ Drawn0 w' w'' := clip_is (gap i)
            have HCL := Aside0.mk hcl
            have hlt2 : (i : Int) < 100 := by omega
            have hln2 : (i : Int) < (n : Int) := by omega
            have HKB := Aside0.mk (show 91 * i + 91 ≤ 10000 by omega)
            clear y0 y1 hla hx hcl
            go_wp2_with (go_at_call 17; refine (HCL.out _).mono ?_; rintro e w7 ⟨rfl, hd⟩; have HX7 : Aside0 (JI W base g gw per lim start (91 * i + 0) now w7) := (by obtain ⟨x, w, pl, hx⟩ := HX.out; exact ⟨⟨x, w, pl, hx.below (Drawn0.below hd)⟩⟩); clear hd)
            go_loopw [11, 13] (fun v11 v13 wr => ∃ (j : Nat) (now : Int), v13 = .int .i64 ((G : Int) - (j : Nat)) ∧ j ≤ G ∧ v11 = .int .i64 now ∧ Aside0 (JI W base g gw per lim start (91 * i + j) now wr)) (fun _ v13 _ => (intOf v13).toNat)
            case atStart => exact ⟨0, now, by simp, Nat.zero_le _, rfl, HX7⟩
            case round =>
              clear HX7 HX x0
              obtain ⟨j, now, rfl, hj, rfl, HX⟩ := hrel
              by_cases hjg : j < G
              · obtain ⟨x, w, pl, hx⟩ := HX.out
                have hj2 : 0 < (G : Int) - (j : Int) := by omega
                have hk : 91 * i + j + 1 ≤ 10000 := by have := HKB.out; omega
                have hn0 : 0 ≤ now := by have := hx.rl.r0; have := hx.rl.r1; omega
                have hn1 : now ≤ 549755823888 := by have := hx.n1; omega
                obtain ⟨R, hR⟩ : ∃ R, rB (x.m1 (pdJ per lim) (now + 1)) (pdJ per lim) (now + 1) = R := ⟨_, rfl⟩
                obtain ⟨M, hM⟩ : ∃ M, mB x (pdJ per lim) (now + 1) = M := ⟨_, rfl⟩
                obtain ⟨N, hN⟩ : ∃ N, nxtK now x (pdJ per lim) (-1) 3 = N := ⟨_, rfl⟩
                obtain ⟨X, hX⟩ : ∃ X, x.tick (pdJ per lim) pl (now + 1) = X := ⟨_, rfl⟩
                obtain ⟨V, hV⟩ : ∃ V, w.tick (now + 1) per lim = V := ⟨_, rfl⟩
                obtain ⟨P, hP⟩ : ∃ P, plTick x (pdJ per lim) pl (now + 1) = P := ⟨_, rfl⟩
                have HNX := Aside0.mk (jx_next hx)
                have HFD := Aside0.mk (fun (w' : World) (h : JX W base g gw per lim start (91 * i + j) now w' x w pl) => jx_fired h HL.out (by omega))
                have HAT := Aside0.mk (fun (w' : World) (h : JM W base g gw per lim start (91 * i + j) now w' x w pl) => jm_at h ⟨g1, g2⟩ ⟨g3, g4⟩ ⟨g5, g6⟩ HLG.out (by omega))
                have HQ := Aside0.mk (show (N == now + 1) = (R || M) by
                  have h1 := hx.rl.meets ⟨g1, g2⟩ g5 hn1
                  rw [hR, hM, hN] at h1
                  rw [h1]
                  rfl)
                rw [hN] at HNX
                rw [hR, hM] at HFD
                rw [hX, hV, hP] at HAT
                have HGT := Aside0.mk (fun (w' : World) (h : JX W base g gw per lim start (91 * i + j + 1) (now + 1) w' X V P) => jx_get h)
                have HFT := Aside0.mk (fun (w' : World) (h : JX W base g gw per lim start (91 * i + j + 1) (now + 1) w' X V P) (AR : Array Value) (hf : FitRow X AR) => jx_fits h ⟨g3, by omega⟩ ⟨g5, g6⟩ hk AR hf)
                clear hx hR hM hN hX hV hP HX hk HCL
                go_upto_region 17 with (first
                  | (go_at_call 13; refine HNX.out.mono ?_; rintro e w1 ⟨rfl, h1⟩; have H1 := Aside0.mk h1; clear h1)
                  | (go_at_call 18; refine (HFD.out _ H1.out).mono ?_; rintro e w2 ⟨rfl, h2⟩; have H2 := Aside0.mk h2; clear h2))
                go_cut [106] (fun v w' => v = .bool false ∧ w' = w2)
                case first => as_aux_lemma =>
                  have q := HQ.out
                  clear HQ HNX HFD HAT HGT HFT H1 H2 HJ HY HKB
                  cases R with
                  | true =>
                    rw [Bool.true_or] at q
                    go_wp2
                    go_meet
                    exact ⟨rfl, rfl⟩
                  | false =>
                    rw [Bool.false_or] at q
                    cases M with
                    | true =>
                      go_wp2
                      go_meet
                      exact ⟨rfl, rfl⟩
                    | false =>
                      go_wp2
                      go_meet
                      exact ⟨rfl, rfl⟩
                case rest =>
                  obtain ⟨rfl, ecut⟩ := hcut
                  have ecut2 := ecut.symm
                  subst ecut2
                  clear ecut
                  clear HQ HNX HFD H1
                  go_upto_region 20 with (go_at_call 19; refine (HAT.out _ H2.out).mono ?_; rintro e w3 ⟨rfl, h3⟩; have H3 := Aside0.mk h3; clear h3)
                  clear HAT H2
                  go_cut [17] (fun v w' => ∃ gs AR, v = .pointer (some ⟨gs, 0, none⟩) ∧ Aside0 (FitRow X AR) ∧ Aside0 (w'.heap[gs]? = some (.cells AR 48 (0, 0))) ∧ Aside0 (JX W base g gw per lim start (91 * i + j + 1) (now + 1) w' X V P))
                  case first => as_aux_lemma =>
                    clear HFT HJ HY HKB
                    go_wp2_with (first
                      | (go_at_call 16; refine (HGT.out _ H3.out).mono ?_; rintro e w4 ⟨AR, rfl, hf, h4⟩; have HF := Aside0.mk hf; have H4 := Aside0.mk (h4.below ((Below.refl _ _).alloc (Nat.le_refl _) (.cells AR 48))); clear h4 hf)
                      | ((with_reducible refine gate_store (t := 48) (p := 17) rfl ?_); refine wpList_store_new rfl 48 (.tmp 17) (.tmp 115) rfl _ AR rfl rfl HF.out.info HF.out.size.symm HF.out.all ?_))
                    go_meet
                    exact ⟨_, AR, rfl, HF, ⟨heap_alloc_new _ _⟩, H4⟩
                  case rest => as_aux_lemma =>
                    obtain ⟨gs, AR, rfl, HF, HS, H4⟩ := hcut
                    clear HGT H3 HJ HY HKB
                    generalize wc = w4 at *
                    go_wp2_with (first
                      | ((with_reducible refine gate_dst (N := 118) rfl ?_); refine wpList_load_row rfl 48 (.tmp 17) rfl gs rfl 48 AR (0, 0) _ HS.out hu48 rfl HF.out.info ?_)
                      | (go_at_call 20; refine (HFT.out _ H4.out AR HF.out).mono ?_; rintro e w5 ⟨rfl, h5⟩; have H5 := Aside0.mk h5; clear h5))
                    go_roundw
                    case rel => exact ⟨j + 1, now + 1, by go_num, by omega, rfl, ⟨⟨_, _, _, H5.out⟩⟩⟩
                    case measure => simp [intOf]; omega
              · have hjG : j = G := by omega
                subst hjG
                obtain ⟨x, w, pl, hx⟩ := HX.out
                have y1 := HY.out _ hx.bl
                obtain ⟨D, hD⟩ : ∃ D, dn i = D := ⟨_, rfl⟩
                rw [hD] at y1
                clear HCL hD HX
                cases D with
                | false =>
                  have HXX := Aside0.mk (hx.more (show 91 * i + j ≤ 91 * (i + 1) by omega))
                  clear hx
                  go_wp2
                  go_roundw
                  case rel => exact ⟨i + 1, now, by go_num, by omega, rfl, ⟨⟨_, _, _, HXX.out⟩⟩⟩
                  case measure => simp [intOf]; omega
                | true =>
                  have hk : 91 * i + j ≤ 10000 := by have := HKB.out; omega
                  have HPD := Aside0.mk (fun (w' : World) (hb : Below wr.heap.size wr w') => jx_period (hx.below hb) HL.out ⟨g1, g2⟩ ⟨g5, g6⟩ hk)
                  have HWD := Aside0.mk (show ∀ w', Below wr.heap.size wr w' → WdAt w' gw w from fun w' hb => hx.wd.kty (KTy.of_below hb))
                  have HMR := Aside0.mk (show ∀ w' : World, JI W base g gw per lim start (91 * i + j + 1) now w' → JI W base g gw per lim start (91 * (i + 1)) now w' from fun w' hh => by
                    obtain ⟨x, w, pl, hx⟩ := hh
                    exact ⟨x, w, pl, hx.more (by omega)⟩)
                  have hi1 : i + 1 ≤ 100 := by omega
                  clear hx hk
                  obtain ⟨wrel, wmiss, done, wlate, wover⟩ := w
                  have HCELL := Aside0.mk (show ∀ w', WdAt w' gw ⟨wrel, wmiss, done, wlate, wover⟩ → w'.cell? ⟨gw, 2, none⟩ = some (.bool done) ∧ w'.frozen? ⟨gw, 2, none⟩ = false from fun w' h => ⟨(blk_cell h 2).trans rfl, blk_frozen h 2⟩)
                  cases done with
                  | true =>
                    dsimp only [Bool.not_true] at HPD
                    go_wp2
                    have z2 := (HCELL.out _ (HWD.out _ (below_drew1 (Below.refl _ _)))).1
                    go_region_with (go_at_call 21; refine (HPD.out _ (below_drew1 (Below.refl _ _))).mono ?_; rintro e w8 ⟨rfl, hw, hfin⟩; obtain ⟨z3, z4⟩ := HCELL.out w8 hw; have HFN := Aside0.mk (hfin _ (blk_put hw 2 (.bool true) rfl) (TK.refl.setG 2 (.bool true)) HLG.out); clear hw hfin)
                    all_goals
                      go_wp2
                      go_roundw
                      case rel => exact ⟨i + 1, now, by go_num, hi1, rfl, ⟨HMR.out _ HFN.out⟩⟩
                      case measure => simp [intOf]; omega
                  | false =>
                    dsimp only [Bool.not_false] at HPD
                    go_wp2
                    have z2 := (HCELL.out _ (HWD.out _ (below_drew1 (Below.refl _ _)))).1
                    go_region_with (go_at_call 21; refine (HPD.out _ (below_drew1 (Below.refl _ _))).mono ?_; rintro e w8 ⟨rfl, hw, hfin⟩; obtain ⟨z3, z4⟩ := HCELL.out w8 hw; have HFN := Aside0.mk (hfin _ (blk_put hw 2 (.bool true) rfl) (TK.refl.setG 2 (.bool true)) HLG.out); clear hw hfin)
                    all_goals
                      go_wp2
                      go_roundw
                      case rel => exact ⟨i + 1, now, by go_num, hi1, rfl, ⟨HMR.out _ HFN.out⟩⟩
                      case measure => simp [intOf]; omega
          · have hlt2 : ¬ (i : Int) < 100 := by omega
            have hln2 : (i : Int) < (n : Int) := by omega
            go_wp2
            go_ret
            obtain ⟨x, w, pl, hx⟩ := HX.out
            exact ⟨rfl, hx.bl⟩
        · have hln2 : ¬ (i : Int) < (n : Int) := by omega
          go_wp2
          go_ret
          obtain ⟨x, w, pl, hx⟩ := HX.out
          exact ⟨rfl, hx.bl⟩
end Go.Proofs.Ytfnlankpdnkmoaa.B
