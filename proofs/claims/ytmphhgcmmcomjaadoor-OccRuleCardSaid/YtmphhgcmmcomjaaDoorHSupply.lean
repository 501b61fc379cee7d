/- Proved: the contracts of occ.supply, occ.supplier.below (in plain numbers) and occ.Supply. Condition: the variable errors.errorType holds what the program's text lays (GH). -/
import Derived.Test.YtmphhgcmmcomjaaDoorSx1
import Derived.Test.YtmphhgcmmcomjaaDoorHWithin
import Derived.BigRegion
import Derived.IntWalk
namespace Go.Proofs.YtmphhgcmmcomjaaDoor.B
open Go.RowKit Go.Proofs.YtmphhgcmmcomjaaDoorW.PrintWords Go.Proofs.YtmphhgcmmcomjaaDoorW.PrintLast Go.Proofs.YtmphhgcmmcomjaaDoorW.PrintMore

theorem within_plain {l : List S30} (hok : okL l = true) (a b c : Int) (q L : Nat) (hL : L ≤ 4194304) : occ_supplier_within.f a b c l (q : Nat) (L : Nat) = some (((sv l).count q 0 L : Nat) : Int) := by
  unfold occ_supplier_within.f
  rw [if_pos ⟨hok, by omega, by omega, by omega⟩, Int.toNat_natCast, Int.toNat_natCast]

theorem wr {x : Int} (h0 : -4000000000000000000 ≤ x) (h1 : x ≤ 4000000000000000000) : wrap64 x = x := by unfold wrap64; omega

/-- What below tells of a counter that supply has made. -/
theorem below_plain {l : List S30} (hok : okL l = true) {H : Nat} (hO : (sv l).Ok H) (hH2 : H ≤ 1048576) (q T : Nat) (hT : (T : Int) ≤ 1099511627776) :
    occ_supplier_below.f (H : Nat) ((sv l).count q 0 H : Nat) ((sv l).count q H H : Nat) l (q : Nat) (T : Nat) = some (((sv l).count q 0 T : Nat) : Int) := by
  have hH1 := hO.H1
  unfold occ_supplier_below.f
  rw [wr (x := 2 * (H : Int)) (by omega) (by omega)]
  by_cases c : T ≤ 2 * H
  · rw [if_pos (by omega), within_plain hok _ _ _ q T (by omega)]; rfl
  · rw [if_neg (by omega), if_neg (by omega), wr (x := (T : Int) - (H : Int)) (by omega) (by omega), show (T : Int) - (H : Int) = ((T - H : Nat) : Int) by omega]
    have hm := Nat.mod_lt (T - H) (show H > 0 by omega)
    have hd := Nat.div_add_mod (T - H) H
    have kd : (T - H) / H ≤ T - H := Nat.div_le_self _ _
    have k2 := count_le (sv l) q H H
    have hpr : (T - H) / H * (sv l).count q H H ≤ (T - H) / H * H := Nat.mul_le_mul_left _ k2
    have hpr2 : (T - H) / H * H ≤ T := by rw [Nat.mul_comm]; omega
    rw [← Int.ofNat_tmod, ← Int.ofNat_tdiv]
    have main := OccMath.Sv.count_fold hO q T (by omega)
    have split := (sv l).count_add q 0 H ((T - H) % H)
    have k1 := count_le (sv l) q 0 H
    have k3 := count_le (sv l) q 0 (H + (T - H) % H)
    rw [Nat.zero_add] at split
    clear hd
    generalize (T - H) / H = D at *
    generalize (T - H) % H = R at *
    rw [wr (x := (D : Int)) (by omega) (by omega), ← Int.natCast_mul, wr (x := (H : Int) + (R : Int)) (by omega) (by omega), show (H : Int) + (R : Int) = ((H + R : Nat) : Int) by omega, within_plain hok _ _ _ q _ (by omega)]
    simp only [Option.bind_some, Option.some.injEq]
    generalize D * (sv l).count q H H = M at *
    generalize D * H = DH at *
    generalize (sv l).count q 0 H = P at *
    generalize (sv l).count q 0 (H + R) = X at *
    generalize (sv l).count q 0 T = Y at *
    generalize (sv l).count q H R = Z at *
    rw [wr (x := (M : Int)) (by omega) (by omega), wr (x := (P : Int) + (M : Int)) (by omega) (by omega), wr (x := (P : Int) + (M : Int) + (X : Int)) (by omega) (by omega), wr (x := (P : Int) + (M : Int) + (X : Int) - (P : Int)) (by omega) (by omega)]
    omega

theorem two_cells {w w1 : World} {c1 c2 : Array Value} {t1 t2 : TypeId} (hb : Below ((w.alloc (.cells c1 t1)).alloc (.cells c2 t2)).heap.size ((w.alloc (.cells c1 t1)).alloc (.cells c2 t2)) w1) :
    w1.heap[w.heap.size]? = some (.cells c1 t1 (0, 0)) ∧ w1.heap[w.heap.size + 1]? = some (.cells c2 t2 (0, 0)) ∧ Below w.heap.size w w1 := by
  have e0 := heap_alloc_new w (.cells c1 t1)
  have e1 := heap_alloc_new (w.alloc (.cells c1 t1)) (.cells c2 t2)
  simp only [World.size_alloc] at e1
  refine ⟨(hb.block _ (by simp; omega)).trans (blk_alloc e0 _), (hb.block _ (by simp)).trans e1, ?_⟩
  exact (((Below.refl _ w).alloc (Nat.le_refl _) _).alloc (by simp) _).trans (hb.mono (by simp; omega))

/-- What stands while supply counts: a counter's cells, the caller's memory. -/
structure SupAt (w : World) (b : Nat) (h p : Int) (v : Value) (q : Int) (g : Nat) (c' : Array Value) (t' : TypeId) (w' : World) : Prop where
  sup : ∃ c : Int, w'.heap[b]? = some (.cells #[.int .i64 h, .int .i64 p, .int .i64 c, v, .int .i64 q] 69 (0, 0))
  res : w'.heap[g]? = some (.cells c' t' (0, 0))
  bel : Below w.heap.size w w'
/-- The number that a cell holds. -/
def numAt (b i : Nat) (w : World) : Int := match w.cell? ⟨b, i, none⟩ with | some (.int .i64 c) => c | _ => 0
theorem SupAt.below {w : World} {b g : Nat} {h p q : Int} {v : Value} {c' : Array Value} {t' : TypeId} {w1 w2 : World} (hs : SupAt w b h p v q g c' t' w1) (hb : Below w1.heap.size w1 w2) : SupAt w b h p v q g c' t' w2 :=
  ⟨let ⟨c, hc⟩ := hs.sup; ⟨c, (hb.block _ (blk_lt hc)).trans hc⟩, (hb.block _ (blk_lt hs.res)).trans hs.res, hs.bel.trans (hb.mono hs.bel.size)⟩
theorem SupAt.drew {w : World} {b g : Nat} {h p q : Int} {v : Value} {c' : Array Value} {t' : TypeId} {w1 : World} (hs : SupAt w b h p v q g c' t' w1) : SupAt w b h p v q g c' t' w1.drew := ⟨hs.sup, hs.res, below_drew1 hs.bel⟩
theorem SupAt.put {w : World} {b g : Nat} {h p q : Int} {v : Value} {c' : Array Value} {t' : TypeId} {w1 : World} (hs : SupAt w b h p v q g c' t' w1) (hg : g ≠ b) (hw : w.heap.size ≤ b) (C : Int) : SupAt w b h p v q g c' t' (w1.setCell ⟨b, 2, none⟩ (.int .i64 C)) :=
  ⟨let ⟨_, hc⟩ := hs.sup; ⟨C, blk_put hc 2 _ rfl⟩, blk_far hs.res hg _, hs.bel.setCell (p := ⟨b, 2, none⟩) hw _⟩
theorem SupAt.all {w : World} {b g : Nat} {h p q : Int} {v : Value} {c' : Array Value} {t' : TypeId} {w1 : World} (hs : SupAt w b h p v q g c' t' w1) :
    SupAt w b h p v q g c' t' w1 ∧ w1.cell? ⟨b, 0, none⟩ = some (.int .i64 h) ∧ w1.cell? ⟨b, 1, none⟩ = some (.int .i64 p) ∧ w1.cell? ⟨b, 2, none⟩ = some (.int .i64 (numAt b 2 w1)) ∧ w1.cell? ⟨b, 3, none⟩ = some v ∧ w1.cell? ⟨b, 4, none⟩ = some (.int .i64 q) ∧ w1.frozen? ⟨b, 2, none⟩ = false := by
  obtain ⟨c, hc⟩ := hs.sup
  have e2 : w1.cell? ⟨b, 2, none⟩ = some (.int .i64 c) := (blk_cell hc 2).trans rfl
  exact ⟨hs, (blk_cell hc 0).trans rfl, (blk_cell hc 1).trans rfl, by unfold numAt; rw [e2], (blk_cell hc 3).trans rfl, (blk_cell hc 4).trans rfl, blk_frozen hc 2⟩

theorem results_c1 {P : Program} {fn : Func} {p : Tmp} {ty : TypeId} (h : fn.results = #[.cell p ty]) (tmps : Array Value) (w : World) (g : Nat) (t : TypeId) (cs : Array Value) (fr : Nat × Nat) (d : TypeDesc)
    (hp : tmps.getD p undef = .pointer (some ⟨g, 0, none⟩)) (hg : w.heap[g]? = some (.cells cs t fr))
    (hu : P.underlying ty = some d) (hd : (match d with | .struct _ | .array _ _ => true | _ => false) = true) (hi : (P.info? ty).map (·.size) = some cs.size) :
    (results fn tmps).run P w = .ok (.agg cs) w := by
  have hp' : tmps[p]?.getD undef = .pointer (some ⟨g, 0, none⟩) := by simpa using hp
  simp [results, h, hp', asAddr, run_loadVar_row w g t ty cs fr d hg hu hd hi]

set_option maxHeartbeats 4000000 in
set_option maxRecDepth 100000 in
theorem supply_is (A0 : Option Addr) (c0 : Nat) (l0 : List S30) (H q : Nat) (w : World) (hr0 : Kd.C k30 w A0 l0.length l0) (hok : l0.length ≤ 32 ∧ ∀ i, i < l0.length → okAt l0 i = true) (hH : H ≤ 1048576) :
    Calls Tryd.prog 37 #[.slice A0 l0.length c0, .int .i64 (H : Nat), .int .i64 (q : Nat)] w fun e w' =>
      e = .returned (.agg #[.int .i64 (H : Nat), .int .i64 ((sv l0).count q 0 H : Nat), .int .i64 ((sv l0).count q H H : Nat), .slice A0 l0.length c0, .int .i64 (q : Nat)]) ∧ Below w.heap.size w w' := by
  have HR := Aside0.mk hr0
  have HO := Aside0.mk hok
  clear hr0 hok
  have hP := count_le (sv l0) q 0 H
  have hC := count_le (sv l0) q H H
  have hS := (sv l0).count_add q 0 H H
  rw [Nat.zero_add] at hS
  have HW1 := Aside0.mk (fun (a1 a2 : Int) (w1 : World) (hb : Below w.heap.size w w1) => within_is (H : Nat) a1 a2 A0 c0 l0 q H w1 (Kd.C_below HR.out hb) HO.out (by omega))
  have HW2 := Aside0.mk (fun (a1 a2 : Int) (w1 : World) (hb : Below w.heap.size w w1) => within_is (H : Nat) a1 a2 A0 c0 l0 q (H + H) w1 (Kd.C_below HR.out hb) HO.out (by omega))
  rw [hS] at HW2
  obtain ⟨P, hPe⟩ : ∃ P, (sv l0).count q 0 H = P := ⟨_, rfl⟩
  obtain ⟨C, hCe⟩ : ∃ C, (sv l0).count q H H = C := ⟨_, rfl⟩
  rw [hPe] at hP HW1 HW2 ⊢
  rw [hCe] at hC HW2 ⊢
  have hHH : ((H + H : Nat) : Int) = 2 * (H : Int) := by omega
  rw [hHH] at HW2
  obtain ⟨X, hX⟩ : ∃ X : Int, ((P + C : Nat) : Int) = X := ⟨_, rfl⟩
  rw [hX] at HW2
  have wr1 := Aside0.mk (show IntKind.i64.wrap (2 * (H : Int)) = 2 * (H : Int) from IntWalk.i64_in _ (by omega))
  have wr2 := Aside0.mk (show IntKind.i64.wrap (X - (P : Int)) = (C : Int) from (IntWalk.i64_in _ (by omega)).trans (by omega))
  clear hPe hCe hS hHH hX
  have hu69 := Tryd.underlying69
  go_enter Tryd.func37, Tryd.ntmps37
  go_wp2_with (go_at_call 56; refine (HW1.out 0 0 _ (((Below.refl _ w).alloc (Nat.le_refl _) _).alloc (by simp) _)).mono ?_; rintro e w1 ⟨rfl, hb1⟩; obtain ⟨k0, k1, hB⟩ := two_cells hb1; have fz := blk_frozen k1 1; have c1 := blk_cell k1 1; have K0 := Aside0.mk k0; have K1 := Aside0.mk k1; have HB1 := Aside0.mk hB; simp only [List.getElem?_toArray, List.getElem?_cons_zero, List.getElem?_cons_succ] at c1; clear k0 k1 hB hb1)
  obtain ⟨w2, hw2⟩ : ∃ w2, w1.setCell ⟨w.heap.size + 1, 1, none⟩ (.int .i64 (P : Nat)) = w2 := ⟨_, rfl⟩
  rw [hw2]
  have hS : SupAt w (w.heap.size + 1) (H : Nat) (P : Nat) (.slice A0 l0.length c0) (q : Nat) w.heap.size #[.int .i64 0, .int .i64 0, .int .i64 0, .slice none 0 0, .int .i64 0] 69 w2 :=
    ⟨⟨0, by rw [← hw2]; exact blk_put K1.out 1 _ rfl⟩, by rw [← hw2]; exact blk_far K0.out (by simp) _, by rw [← hw2]; exact HB1.out.setCell (p := ⟨w.heap.size + 1, 1, none⟩) (by simp) _⟩
  have hblk : w2.heap[w.heap.size + 1]? = some (.cells #[.int .i64 (H : Nat), .int .i64 (P : Nat), .int .i64 0, .slice A0 l0.length c0, .int .i64 (q : Nat)] 69 (0, 0)) := by rw [← hw2]; exact blk_put K1.out 1 _ rfl
  clear K0 K1 HB1 hw2 fz c1
  have c2' : w2.cell? ⟨w.heap.size + 1, 2, none⟩ = some (.int .i64 0) := (blk_cell hblk 2).trans rfl
  clear hblk
  obtain ⟨hS, c0', c1', -, c3', c4', f2'⟩ := hS.all
  replace wr1 := wr1.out
  replace wr2 := wr2.out
  go_region_with (go_at_call 56; refine (HW2.out P 0 _ (below_drew1 hS.bel)).mono ?_; rintro e w' ⟨rfl, hb⟩; obtain ⟨hT, -, c1'', c2'', -, -, f2''⟩ := (hS.drew.below hb).all)
  all_goals (
    obtain ⟨_, hc⟩ := hT.sup
    have k1 := blk_put hc 2 (.int .i64 (C : Nat)) rfl
    have k0 := blk_far hT.res (p := ⟨w.heap.size + 1, 2, none⟩) (by simp) (.int .i64 (C : Nat))
    have kb := hT.bel.setCell (p := ⟨w.heap.size + 1, 2, none⟩) (by simp) (.int .i64 (C : Nat))
    obtain ⟨w4, hw4⟩ : ∃ w4, w'.setCell ⟨w.heap.size + 1, 2, none⟩ (.int .i64 (C : Nat)) = w4 := ⟨_, rfl⟩
    rw [hw4] at k1 k0 kb
    rw [hw4]
    clear hT hb hc hw4 c1'' c2'' f2'' hS c0' c1' c2' c3' c4' f2' wr1 wr2 HW1 HW2
    have d0 := (blk_cell k1 0).trans rfl
    have d1 := (blk_cell k1 1).trans rfl
    have d2 := (blk_cell k1 2).trans rfl
    have d3 := (blk_cell k1 3).trans rfl
    have d4 := (blk_cell k1 4).trans rfl
    have e0 := (blk_cell k0 0).trans rfl
    have e1 := (blk_cell k0 1).trans rfl
    have e2 := (blk_cell k0 2).trans rfl
    have e3 := (blk_cell k0 3).trans rfl
    have e4 := (blk_cell k0 4).trans rfl
    have f0 := blk_frozen k0 0
    have f1 := blk_frozen k0 1
    have f2 := blk_frozen k0 2
    have f3 := blk_frozen k0 3
    have f4 := blk_frozen k0 4
    go_wp2)
  all_goals (
    have r1 := blk_put k0 0 (.int .i64 (H : Nat)) rfl
    have r2 := blk_put r1 1 (.int .i64 (P : Nat)) rfl
    have r3 := blk_put r2 2 (.int .i64 (C : Nat)) rfl
    have r4 := blk_put r3 3 (.slice A0 l0.length c0) rfl
    have r5 := blk_put r4 4 (.int .i64 (q : Nat)) rfl
    refine bodyPost_ret (results_c1 rfl _ _ w.heap.size 69 _ _ _ rfl r5 hu69 rfl (by kernel_rfl)) rfl ?_
    exact ⟨rfl, ((((kb.setCell (p := ⟨w.heap.size, 0, none⟩) (Nat.le_refl _) _).setCell (p := ⟨w.heap.size, 1, none⟩) (Nat.le_refl _) _).setCell (p := ⟨w.heap.size, 2, none⟩) (Nat.le_refl _) _).setCell (p := ⟨w.heap.size, 3, none⟩) (Nat.le_refl _) _).setCell (p := ⟨w.heap.size, 4, none⟩) (Nat.le_refl _) _⟩)
end Go.Proofs.YtmphhgcmmcomjaaDoor.B
