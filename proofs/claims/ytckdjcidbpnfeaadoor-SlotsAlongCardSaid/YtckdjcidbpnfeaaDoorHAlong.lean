/- Proved: the law SlotsAlong answers true of a table that goes, walked. Conditions: the law's own guards; GH. -/
import Derived.Test.YtckdjcidbpnfeaaDoorHAlong0
namespace Go.Proofs.YtckdjcidbpnfeaaDoor.B
open Go.RowKit Go.Proofs.YtckdjcidbpnfeaaDoorW.PrintWords Go.Proofs.YtckdjcidbpnfeaaDoorW.PrintLast Go.Proofs.YtckdjcidbpnfeaaDoorW.PrintMore
set_option maxHeartbeats 32000000 in
set_option maxRecDepth 100000 in
theorem along_good (A1 : Option Addr) (c1 : Nat) (A2 : Option Addr) (c2 : Nat) (P C : List (Nat × Nat)) (h : Nat) (t0 st pb : Int) (w : World) (ht : Table P C h) (hr1 : Kd.C k72 w A1 (P.map toS).length (P.map toS)) (hc1 : (P.map toS).length ≤ c1) (hr2 : Kd.C k72 w A2 (C.map toS).length (C.map toS)) (hc2 : (C.map toS).length ≤ c2) (hG : GH w)
    (g1 : (P.map toS).length ≤ 300000) (g2 : (C.map toS).length ≤ 300000) (g3 : 0 ≤ t0) (g4 : t0 < 1099511627776) (g5 : 0 ≤ st) (g6 : st ≤ 100) (g7 : 0 ≤ pb) :
    Calls Tryd.prog 4 #[.agg #[.slice A1 (P.map toS).length c1, .slice A2 (C.map toS).length c2], .int .i64 t0, .int .i64 st, .int .i64 pb] w fun e w' => e = .returned (.bool true) ∧ Below w.heap.size w w' := by
  have hu27 := Tryd.underlying27
  have HT := Aside0.mk ht
  have hll : (P.map toS).length = P.length := List.length_map _
  have HLV := Aside0.mk (fun (W : World) (hb : Below w.heap.size w W) => lives_ok w W hG hb)
  have hB1 := (Below.refl _ w).alloc (Nat.le_refl _) (.cells #[.slice A1 (P.map toS).length c1, .slice A2 (C.map toS).length c2] 27)
  have HV := Aside0.mk (slots_Valid.calls 4194304 A1 c1 (P.map toS) A2 c2 (C.map toS) 0 _ (Kd.C_below hr1 hB1) hc1 (Kd.C_below hr2 hB1) hc2 (valid_goes ht))
  have HTO := Aside0.mk (fun (W : World) (hb : Below w.heap.size w W) => bulkheadlaw13_total.calls 4194304 A1 c1 (P.map toS) ((tot P : Nat) : Int) W (Kd.C_below hr1 hb) hc1 (total_is2 P (by rw [ht.tp]; have := ht.h2; omega) (by omega) 4194304 (by omega)))
  rw [ht.tp] at HTO
  have HWK := Aside0.mk (fun (W : World) (hb : Below w.heap.size w W) => walk_is A1 c1 A2 c2 P C h W ht (Kd.C_below hr1 hb) hc1 (Kd.C_below hr2 hb) hc2)
  have HAT := Aside0.mk (fun (W : World) (hb : Below w.heap.size w W) {c : Bool} {pl u s : Nat} (k : Stands P C h c pl u s) (T : Nat) (t : Int) (hti : (T : Int) = t) (a1 : s ≤ T) (a2 : T < u) (a3 : T < 1099511627776) =>
    (show Calls Tryd.prog 18 #[.agg #[.slice A1 (P.map toS).length c1, .slice A2 (C.map toS).length c2], .int .i64 t] W fun e w' => e = .returned (.tuple #[.int .i64 (((lst P C c)[pl]'k.lt).2 : Nat), .int .i64 0]) ∧ Below W.heap.size W w' by
      rw [← hti]; exact at_known A1 c1 A2 c2 T W ht k a1 a2 a3 (Kd.C_below hr1 hb) hc1 (Kd.C_below hr2 hb) hc2))
  have HUN := Aside0.mk (fun (W : World) (hb : Below w.heap.size w W) {c : Bool} {pl u s : Nat} (k : Stands P C h c pl u s) (T U : Nat) (t : Int) (hti : (T : Int) = t) (hU : min u 1099511627776 = U) (a1 : s ≤ T) (a2 : T < u) (a3 : T < 1099511627776) =>
    (show Calls Tryd.prog 19 #[.agg #[.slice A1 (P.map toS).length c1, .slice A2 (C.map toS).length c2], .int .i64 t] W fun e w' => e = .returned (.tuple #[.int .i64 (U : Nat), .int .i64 0]) ∧ Below W.heap.size W w' by
      rw [← hti, ← hU]; exact until_known A1 c1 A2 c2 T W ht k a1 a2 a3 (Kd.C_below hr1 hb) hc1 (Kd.C_below hr2 hb) hc2))
  obtain ⟨n1, hn1⟩ : ∃ n, (P.map toS).length = n := ⟨_, rfl⟩
  obtain ⟨n2, hn2⟩ : ∃ n, (C.map toS).length = n := ⟨_, rfl⟩
  rw [hn1, hn2] at HV HWK HAT HUN
  rw [hn1] at HTO g1
  rw [hn2] at g2
  rw [hn1, hn2]
  have HF1 := Aside0.mk (show FdAt w w.heap.size (.slice A1 n1 c1) (.slice A2 n2 c2) (w.alloc (.cells #[.slice A1 n1 c1, .slice A2 n2 c2] 27)) from ⟨heap_alloc_new _ _, (Below.refl _ _).alloc (Nat.le_refl _) _, Nat.le_refl _⟩)
  obtain ⟨T0, hT0⟩ : ∃ T0 : Nat, (T0 : Int) = t0 := ⟨t0.toNat, by omega⟩
  have HT0 := Aside0.mk (show T0 < 1099511627776 ∧ (T0 : Int) = t0 from ⟨by omega, hT0⟩)
  obtain ⟨sn, hsn⟩ : ∃ sn : Nat, (sn : Int) = st := ⟨st.toNat, by omega⟩
  subst hsn
  have hsn : sn ≤ 100 := by omega
  have b1 : ¬ ((n1 : Int) > 300000) := by omega
  have b1b : decide (300000 < n1) = false := decide_eq_false (by omega)
  have b2 : ¬ ((n2 : Int) > 300000) := by omega
  have b2b : decide (300000 < n2) = false := decide_eq_false (by omega)
  have b3 : ¬ (t0 < 0) := by omega
  have b3b : decide (t0 < 0) = false := decide_eq_false b3
  have b4 : ¬ (1099511627776 ≤ t0) := by omega
  have b4b : decide (1099511627776 ≤ t0) = false := decide_eq_false b4
  have b6b : decide (100 < sn) = false := decide_eq_false (by omega)
  have b7 : ¬ (pb < 0) := by omega
  have b7b : decide (pb < 0) = false := decide_eq_false b7
  have HPB := Aside0.mk g7
  have hh1 := ht.h1
  have hh2 := ht.h2
  have hz : ((h : Int) == 0) = false := by rw [beq_eq_false_iff_ne]; omega
  have hz2 : ¬ ((h : Int) = 0) := by omega
  clear hB1 hr1 hr2 hc1 hc2 hG hn1 hn2 hll ht hT0 g1 g2 g3 g4 g5 g6 g7
  go_enter Tryd.func4, Tryd.ntmps4
  go_wp2_with (first
    | (go_at_call 13; refine HV.out.mono ?_; rintro e w2 ⟨rfl, hb2⟩; have HF2 := Aside0.mk (HF1.out.below hb2); have y0 := HF2.out.all.2.1; have y1 := HF2.out.all.2.2; clear hb2)
    | (go_at_call 15; refine (HTO.out _ HF2.out.bel).mono ?_; rintro e w3 ⟨rfl, hd3⟩; have HF3 := Aside0.mk (HF2.out.below hd3.below); clear hd3 y0 y1; have z0 := HF3.out.all.2.1; have z1 := HF3.out.all.2.2)
    | (go_at_call 16; refine (HWK.out _ HF3.out.bel).mono ?_; rintro e w4 ⟨g, V0, V1, u0, rfl, hk4, hs4, hb4⟩; have HA4 := Aside0.mk (show AlAt w g (.slice A1 n1 c1) (.slice A2 n2 c2) V0 V1 P C h 0 false 0 u0 w4 from ⟨hk4.weak (blk_lt HF3.out.tb), HF3.out.below hb4⟩); have HS4 := Aside0.mk hs4; clear hk4 hs4 hb4 z0 z1)
    | (go_at_call 17; refine (advance_t HT.out HA4.out.wk HS4.out HT0.out.2 (Nat.zero_le _) HT0.out.1 (Nat.zero_le _)).mono ?_; rintro e w5 ⟨rfl, c5, pl5, u5, s5, hk5, hs5, h51, h52, hb5⟩; have HA5 := Aside0.mk (HA4.out.adv hk5 hb5); have HS5 := Aside0.mk hs5; have H5 := Aside0.mk (And.intro h51 h52); clear hk5 hs5 hb5 h51 h52)
    | (go_at_call 12; refine (HLV.out _ HA5.out.fd.bel).mono ?_; rintro e w6 ⟨rfl, hb6⟩; have HA6 := Aside0.mk (HA5.out.below hb6); clear hb6))
  clear HV HTO HWK HF1 HF2 HF3 HA4 HS4 HLV b1 b1b b2 b2b b3 b3b b4 b4b b6b b7 b7b
  go_loopw [12, 13, 14] (fun v12 v13 v14 wr => ∃ (T : Nat) (t last : Int) (i : Nat) (c : Bool) (pl u s : Nat) (st : Aside0 (Stands P C h c pl u s)), v12 = .int .i64 t ∧ v13 = .int .i64 last ∧ v14 = .int .i64 (i : Nat) ∧ i ≤ sn ∧ Aside0 (AlAt w g (.slice A1 n1 c1) (.slice A2 n2 c2) V0 V1 P C h T c pl u wr) ∧ Aside0 (s ≤ T ∧ T < u) ∧ Aside0 (T < 1099511627776 ∧ (T : Int) = t) ∧ Aside0 (Ahead P C h T last)) (fun _ _ vi _ => sn - (intOf vi).toNat)
  case atStart => exact ⟨T0, t0, -1, 0, c5, pl5, u5, s5, HS5, rfl, rfl, rfl, Nat.zero_le _, HA6, H5, HT0, ⟨.inl rfl⟩⟩
  case round =>
    clear HT0 HA5 HS5 H5 HA6
    obtain ⟨T, t, last, i, c, pl, u, s, HST, rfl, rfl, rfl, hi, HA, HSU, HTI, HAH⟩ := hrel
    by_cases hlt : i < sn
    · obtain ⟨U, a, m, M, hU, e1, e2, e3, e4, e5, e6, e7, e8, e9, e10, e11, e12⟩ := along_steps T s u HSU.out.1 HSU.out.2 HTI.out.1 HTI.out.2 pb HPB.out
      have hlti : (i : Int) < (sn : Int) := by omega
      have HM := Aside0.mk (And.intro e7 (And.intro e8 e9))
      have HU := Aside0.mk hU
      have HU2 := Aside0.mk (And.intro e1 e12)
      obtain ⟨o, ho⟩ : ∃ o : Nat, ((lst P C c)[pl]'HST.out.lt).2 = o := ⟨_, rfl⟩
      have HA1 := Aside0.mk (fun (W : World) (hb : Below w.heap.size w W) => HAT.out W hb HST.out T t HTI.out.2 HSU.out.1 HSU.out.2 HTI.out.1)
      have HA2 := Aside0.mk (fun (W : World) (hb : Below w.heap.size w W) => HAT.out W hb HST.out M (M : Int) rfl e7 e8 e9)
      have HU3 := Aside0.mk (fun (W : World) (hb : Below w.heap.size w W) => HUN.out W hb HST.out T U t HTI.out.2 hU HSU.out.1 HSU.out.2 HTI.out.1)
      have HU4 := Aside0.mk (fun (W : World) (hb : Below w.heap.size w W) => HUN.out W hb HST.out M U (M : Int) rfl hU e7 e8 e9)
      have HOC := Aside0.mk (fun (W : World) (k : AlAt w g (.slice A1 n1 c1) (.slice A2 n2 c2) V0 V1 P C h T c pl u W) => occupant_is W _ g V0 V1 P C h T c pl u k.wk HST.out.lt (by have := HT.out.ll c; have := HST.out.lt; omega))
      have HUW := Aside0.mk (fun (W : World) (k : AlAt w g (.slice A1 n1 c1) (.slice A2 n2 c2) V0 V1 P C h T c pl u W) => wuntil_is W g _ _ _ _ _ _ u k.wk.blk)
      have HNW := Aside0.mk (fun (W : World) (k : AlAt w g (.slice A1 n1 c1) (.slice A2 n2 c2) V0 V1 P C h T c pl u W) => now_is W g _ _ _ _ _ _ _ k.wk.blk)
      rw [ho] at HA1 HA2 HOC
      rw [hU] at HUW
      rw [HTI.out.2] at HNW
      have HO := Aside0.mk ho
      have y0 := HA.out.y0
      have y1 := HA.out.y1
      have e10b : decide ((U : Int) ≤ t) = false := decide_eq_false e10
      have e11b : decide (1099511627776 < U) = false := decide_eq_false e11
      have hTU := Aside0.mk (show T ≤ U by have := HTI.out.2; omega)
      have HAN := Aside0.mk (fun (hq : U < 1099511627776) => (show ∃ (c : Bool) (pl s : Nat), ∃ k : Stands P C h c pl U s, (o : Int) = (((lst P C c)[pl]'k.lt).2 : Nat) from by
        have eu : u = U := by omega
        have key : ∀ x, u = x → ∃ (c : Bool) (pl s : Nat), ∃ k : Stands P C h c pl x s, (o : Int) = (((lst P C c)[pl]'k.lt).2 : Nat) := fun x e => by subst e; exact ⟨c, pl, s, HST.out, by rw [ho]⟩
        exact key U eu))
      clear e7 e8 e9 e12 hU ho hlt e1
      by_cases hol : (o : Int) = last
      · have hmod : T % h = 0 := HAH.out.wrap HST.out HT.out HSU.out.1 HSU.out.2 (by rw [HO.out]; exact hol)
        have hM : Int.tmod t (h : Int) = 0 := by rw [← HTI.out.2, ← Int.ofNat_tmod, hmod]; rfl
        have hob : ((o : Int) == last) = true := beq_iff_eq.2 hol
        clear hmod hol
        go_wp2_with (first
          | (go_at_call 18; with_reducible refine (HA1.out _ HA.out.fd.bel).mono ?_; rintro e wa ⟨rfl, hba⟩; have HAa := Aside0.mk (HA.out.below hba); clear hba y0 y1; have ya0 := HAa.out.y0; have ya1 := HAa.out.y1)
          | (go_at_call 19; with_reducible refine (HU3.out _ HAa.out.fd.bel).mono ?_; rintro e wb ⟨rfl, hbb⟩; have HAb := Aside0.mk (HAa.out.below hbb); clear hbb ya0 ya1; have yb0 := HAb.out.y0; have yb1 := HAb.out.y1)
          | (go_at_call 20; refine (HNW.out _ HAb.out).mono ?_; rintro e wn ⟨rfl, rfl⟩)
          | (go_at_call 21; refine (HOC.out _ HAb.out).mono ?_; rintro e wc ⟨rfl, hbc⟩; have HAc := Aside0.mk (HAb.out.below hbc); clear hbc yb0 yb1; have yc0 := HAc.out.y0; have yc1 := HAc.out.y1)
          | (go_at_call 22; with_reducible refine (HUW.out _ HAc.out).mono ?_; rintro e wn ⟨rfl, rfl⟩)
          | (go_at_call 18; with_reducible refine (HA2.out _ HAc.out.fd.bel).mono ?_; rintro e wd ⟨rfl, hbd⟩; have HAd := Aside0.mk (HAc.out.below hbd); clear hbd yc0 yc1; have yd0 := HAd.out.y0; have yd1 := HAd.out.y1)
          | (go_at_call 19; with_reducible refine (HU4.out _ HAd.out.fd.bel).mono ?_; rintro e we ⟨rfl, hbe⟩; have HAe := Aside0.mk (HAd.out.below hbe); clear hbe yd0 yd1)
          | (go_at_call 17; have hq := beq_iff_eq.1 ‹((U : Int) == 1099511627776) = true›; refine (advance_no _ _ g V0 V1 P C h T c pl u (U : Int) HAe.out.wk (by omega) HTI.out.1).mono ?_; rintro e wf ⟨rfl, rfl⟩)
          | (go_at_call 17; have hq := until_lt U ‹((U : Int) == 1099511627776) = false› HU2.out.1; refine (advance_t HT.out HAe.out.wk HST.out rfl hTU.out hq HSU.out.1).mono ?_; rintro e wf ⟨rfl, c5, pl5, u5, s5, hk5, hs5, h51, h52, hb5⟩; have HAf := Aside0.mk (HAe.out.adv hk5 hb5); have HS5 := Aside0.mk hs5; have H5 := Aside0.mk (And.intro h51 h52); have HQ := Aside0.mk hq; clear hk5 hs5 hb5 h51 h52 hq))
        · go_ret
          exact ⟨rfl, HAe.out.fd.bel⟩
        · go_roundw
          case rel => exact ⟨U, (U : Int), (o : Int), i + 1, c5, pl5, u5, s5, HS5, rfl, rfl, by go_num, by omega, HAf, H5, ⟨HQ.out, rfl⟩, ⟨.inr (HAN.out HQ.out)⟩⟩
          case measure => simp [intOf]; omega
      · have hob : ((o : Int) == last) = false := beq_eq_false_iff_ne.2 hol
        go_wp2_with (first
          | (go_at_call 18; with_reducible refine (HA1.out _ HA.out.fd.bel).mono ?_; rintro e wa ⟨rfl, hba⟩; have HAa := Aside0.mk (HA.out.below hba); clear hba y0 y1; have ya0 := HAa.out.y0; have ya1 := HAa.out.y1)
          | (go_at_call 19; with_reducible refine (HU3.out _ HAa.out.fd.bel).mono ?_; rintro e wb ⟨rfl, hbb⟩; have HAb := Aside0.mk (HAa.out.below hbb); clear hbb ya0 ya1; have yb0 := HAb.out.y0; have yb1 := HAb.out.y1)
          | (go_at_call 20; refine (HNW.out _ HAb.out).mono ?_; rintro e wn ⟨rfl, rfl⟩)
          | (go_at_call 21; refine (HOC.out _ HAb.out).mono ?_; rintro e wc ⟨rfl, hbc⟩; have HAc := Aside0.mk (HAb.out.below hbc); clear hbc yb0 yb1; have yc0 := HAc.out.y0; have yc1 := HAc.out.y1)
          | (go_at_call 22; with_reducible refine (HUW.out _ HAc.out).mono ?_; rintro e wn ⟨rfl, rfl⟩)
          | (go_at_call 18; with_reducible refine (HA2.out _ HAc.out.fd.bel).mono ?_; rintro e wd ⟨rfl, hbd⟩; have HAd := Aside0.mk (HAc.out.below hbd); clear hbd yc0 yc1; have yd0 := HAd.out.y0; have yd1 := HAd.out.y1)
          | (go_at_call 19; with_reducible refine (HU4.out _ HAd.out.fd.bel).mono ?_; rintro e we ⟨rfl, hbe⟩; have HAe := Aside0.mk (HAd.out.below hbe); clear hbe yd0 yd1)
          | (go_at_call 17; have hq := beq_iff_eq.1 ‹((U : Int) == 1099511627776) = true›; refine (advance_no _ _ g V0 V1 P C h T c pl u (U : Int) HAe.out.wk (by omega) HTI.out.1).mono ?_; rintro e wf ⟨rfl, rfl⟩)
          | (go_at_call 17; have hq := until_lt U ‹((U : Int) == 1099511627776) = false› HU2.out.1; refine (advance_t HT.out HAe.out.wk HST.out rfl hTU.out hq HSU.out.1).mono ?_; rintro e wf ⟨rfl, c5, pl5, u5, s5, hk5, hs5, h51, h52, hb5⟩; have HAf := Aside0.mk (HAe.out.adv hk5 hb5); have HS5 := Aside0.mk hs5; have H5 := Aside0.mk (And.intro h51 h52); have HQ := Aside0.mk hq; clear hk5 hs5 hb5 h51 h52 hq))
        · go_ret
          exact ⟨rfl, HAe.out.fd.bel⟩
        · go_roundw
          case rel => exact ⟨U, (U : Int), (o : Int), i + 1, c5, pl5, u5, s5, HS5, rfl, rfl, by go_num, by omega, HAf, H5, ⟨HQ.out, rfl⟩, ⟨.inr (HAN.out HQ.out)⟩⟩
          case measure => simp [intOf]; omega
    · obtain rfl : i = sn := by omega
      clear hlt
      go_wp2
      go_ret
      exact ⟨rfl, HA.out.fd.bel⟩
theorem along_is (A1 : Option Addr) (c1 : Nat) (l1 : List S72) (A2 : Option Addr) (c2 : Nat) (l2 : List S72) (t0 st pb : Int) (w : World) (hr1 : Kd.C k72 w A1 l1.length l1) (hc1 : l1.length ≤ c1) (hr2 : Kd.C k72 w A2 l2.length l2) (hc2 : l2.length ≤ c2)
    (hw1 : ∀ s ∈ l1, (Lit.int .i64 s.f0).wf = true) (hw2 : ∀ s ∈ l2, (Lit.int .i64 s.f0).wf = true) (hG : GH w) :
    Calls Tryd.prog 4 #[.agg #[.slice A1 l1.length c1, .slice A2 l2.length c2], .int .i64 t0, .int .i64 st, .int .i64 pb] w fun e w' => e = .returned (.bool true) ∧ Below w.heap.size w w' := by
  obtain ⟨r, hv, hgood⟩ := valid_any l1 l2 hw1 hw2 4194304 (Nat.le_refl _)
  by_cases g : r = 0 ∧ l1.length ≤ 300000 ∧ l2.length ≤ 300000 ∧ 0 ≤ t0 ∧ t0 < 1099511627776 ∧ 0 ≤ st ∧ st ≤ 100 ∧ 0 ≤ pb
  · obtain ⟨e, g1, g2, g3, g4, g5, g6, g7⟩ := g
    obtain ⟨P, C, h, rfl, rfl, ht⟩ := hgood e
    exact along_good A1 c1 A2 c2 P C h t0 st pb w ht hr1 hc1 hr2 hc2 hG g1 g2 g3 g4 g5 g6 g7
  · exact along_bad A1 c1 l1 A2 c2 l2 t0 st pb r w hr1 hc1 hr2 hc2 hG hv g
end Go.Proofs.YtckdjcidbpnfeaaDoor.B
