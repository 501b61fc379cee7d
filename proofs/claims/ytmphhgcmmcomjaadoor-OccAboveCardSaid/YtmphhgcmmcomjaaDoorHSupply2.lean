/- Proved: the contracts of occ.supply, occ.supplier.below (in plain numbers) and occ.Supply. Condition: the variable errors.errorType holds what the program's text lays (GH). Proved: the contract of occ.Supply, in the form that printed texts cite. Condition: the variable errors.errorType holds what the program's text lays (GH). -/
import Derived.Test.YtmphhgcmmcomjaaDoorSx1
import Derived.Test.YtmphhgcmmcomjaaDoorHWithin
import Derived.BigRegion
import Derived.IntWalk
import Derived.Test.YtmphhgcmmcomjaaDoorBx1
import Derived.Deep.RegionHeld3
namespace Go.Proofs.YtmphhgcmmcomjaaDoor.B
open Go.RowKit Go.Proofs.YtmphhgcmmcomjaaDoorW.PrintWords Go.Proofs.YtmphhgcmmcomjaaDoorW.PrintLast Go.Proofs.YtmphhgcmmcomjaaDoorW.PrintMore

theorem within_plain {l : List S30} (hok : okL l = true) (a b c : Int) (q L : Nat) (hL : L ≤ 4194304) : occ_supplier_within.f a b c l (q : Nat) (L : Nat) = some (((sv l).count q 0 L : Nat) : Int) := by
  unfold occ_supplier_within.f
  rw [if_pos ⟨hok, by omega, by omega, by omega⟩, Int.toNat_natCast, Int.toNat_natCast]

theorem wr {x : Int} (h0 : -4000000000000000000 ≤ x) (h1 : x ≤ 4000000000000000000) : wrap64 x = x := by unfold wrap64; omega

/-- What below tells of a counter that supply has made. -/
theorem below_plain {l : List S30} (hok : okL l = true) {H : Nat} (hO : (sv l).Ok H) (hH2 : H ≤ 1048576) (q T : Nat) (hT : (T : Int) ≤ 1099511627776) :
    occ_supplier_below.f (H : Nat) ((sv l).count q 0 H : Nat) ((sv l).count q H H : Nat) l (q : Nat) (T : Nat) = some (((sv l).count q 0 T : Nat) : Int) := by
  have hH1 := hO.H1
  unfold occ_supplier_below.f
  rw [wr (x := 2 * (H : Int)) (by omega) (by omega)]
  by_cases c : T ≤ 2 * H
  · rw [if_pos (by omega), within_plain hok _ _ _ q T (by omega)]; rfl
  · rw [if_neg (by omega), if_neg (by omega), wr (x := (T : Int) - (H : Int)) (by omega) (by omega), show (T : Int) - (H : Int) = ((T - H : Nat) : Int) by omega]
    have hm := Nat.mod_lt (T - H) (show H > 0 by omega)
    have hd := Nat.div_add_mod (T - H) H
    have kd : (T - H) / H ≤ T - H := Nat.div_le_self _ _
    have k2 := count_le (sv l) q H H
    have hpr : (T - H) / H * (sv l).count q H H ≤ (T - H) / H * H := Nat.mul_le_mul_left _ k2
    have hpr2 : (T - H) / H * H ≤ T := by rw [Nat.mul_comm]; omega
    rw [← Int.ofNat_tmod, ← Int.ofNat_tdiv]
    have main := OccMath.Sv.count_fold hO q T (by omega)
    have split := (sv l).count_add q 0 H ((T - H) % H)
    have k1 := count_le (sv l) q 0 H
    have k3 := count_le (sv l) q 0 (H + (T - H) % H)
    rw [Nat.zero_add] at split
    clear hd
    generalize (T - H) / H = D at *
    generalize (T - H) % H = R at *
    rw [wr (x := (D : Int)) (by omega) (by omega), ← Int.natCast_mul, wr (x := (H : Int) + (R : Int)) (by omega) (by omega), show (H : Int) + (R : Int) = ((H + R : Nat) : Int) by omega, within_plain hok _ _ _ q _ (by omega)]
    simp only [Option.bind_some, Option.some.injEq]
    generalize D * (sv l).count q H H = M at *
    generalize D * H = DH at *
    generalize (sv l).count q 0 H = P at *
    generalize (sv l).count q 0 (H + R) = X at *
    generalize (sv l).count q 0 T = Y at *
    generalize (sv l).count q H R = Z at *
    rw [wr (x := (M : Int)) (by omega) (by omega), wr (x := (P : Int) + (M : Int)) (by omega) (by omega), wr (x := (P : Int) + (M : Int) + (X : Int)) (by omega) (by omega), wr (x := (P : Int) + (M : Int) + (X : Int) - (P : Int)) (by omega) (by omega)]
    omega

theorem two_cells {w w1 : World} {c1 c2 : Array Value} {t1 t2 : TypeId} (hb : Below ((w.alloc (.cells c1 t1)).alloc (.cells c2 t2)).heap.size ((w.alloc (.cells c1 t1)).alloc (.cells c2 t2)) w1) :
    w1.heap[w.heap.size]? = some (.cells c1 t1 (0, 0)) ∧ w1.heap[w.heap.size + 1]? = some (.cells c2 t2 (0, 0)) ∧ Below w.heap.size w w1 := by
  have e0 := heap_alloc_new w (.cells c1 t1)
  have e1 := heap_alloc_new (w.alloc (.cells c1 t1)) (.cells c2 t2)
  simp only [World.size_alloc] at e1
  refine ⟨(hb.block _ (by simp; omega)).trans (blk_alloc e0 _), (hb.block _ (by simp)).trans e1, ?_⟩
  exact (((Below.refl _ w).alloc (Nat.le_refl _) _).alloc (by simp) _).trans (hb.mono (by simp; omega))

/-- What stands while supply counts: a counter's cells, the caller's memory. -/
structure SupAt (w : World) (b : Nat) (h p : Int) (v : Value) (q : Int) (g : Nat) (c' : Array Value) (t' : TypeId) (w' : World) : Prop where
  sup : ∃ c : Int, w'.heap[b]? = some (.cells #[.int .i64 h, .int .i64 p, .int .i64 c, v, .int .i64 q] 69 (0, 0))
  res : w'.heap[g]? = some (.cells c' t' (0, 0))
  bel : Below w.heap.size w w'
/-- The number that a cell holds. -/
def numAt (b i : Nat) (w : World) : Int := match w.cell? ⟨b, i, none⟩ with | some (.int .i64 c) => c | _ => 0
theorem SupAt.below {w : World} {b g : Nat} {h p q : Int} {v : Value} {c' : Array Value} {t' : TypeId} {w1 w2 : World} (hs : SupAt w b h p v q g c' t' w1) (hb : Below w1.heap.size w1 w2) : SupAt w b h p v q g c' t' w2 :=
  ⟨let ⟨c, hc⟩ := hs.sup; ⟨c, (hb.block _ (blk_lt hc)).trans hc⟩, (hb.block _ (blk_lt hs.res)).trans hs.res, hs.bel.trans (hb.mono hs.bel.size)⟩
theorem SupAt.drew {w : World} {b g : Nat} {h p q : Int} {v : Value} {c' : Array Value} {t' : TypeId} {w1 : World} (hs : SupAt w b h p v q g c' t' w1) : SupAt w b h p v q g c' t' w1.drew := ⟨hs.sup, hs.res, below_drew1 hs.bel⟩
theorem SupAt.put {w : World} {b g : Nat} {h p q : Int} {v : Value} {c' : Array Value} {t' : TypeId} {w1 : World} (hs : SupAt w b h p v q g c' t' w1) (hg : g ≠ b) (hw : w.heap.size ≤ b) (C : Int) : SupAt w b h p v q g c' t' (w1.setCell ⟨b, 2, none⟩ (.int .i64 C)) :=
  ⟨let ⟨_, hc⟩ := hs.sup; ⟨C, blk_put hc 2 _ rfl⟩, blk_far hs.res hg _, hs.bel.setCell (p := ⟨b, 2, none⟩) hw _⟩
theorem SupAt.all {w : World} {b g : Nat} {h p q : Int} {v : Value} {c' : Array Value} {t' : TypeId} {w1 : World} (hs : SupAt w b h p v q g c' t' w1) :
    SupAt w b h p v q g c' t' w1 ∧ w1.cell? ⟨b, 0, none⟩ = some (.int .i64 h) ∧ w1.cell? ⟨b, 1, none⟩ = some (.int .i64 p) ∧ w1.cell? ⟨b, 2, none⟩ = some (.int .i64 (numAt b 2 w1)) ∧ w1.cell? ⟨b, 3, none⟩ = some v ∧ w1.cell? ⟨b, 4, none⟩ = some (.int .i64 q) ∧ w1.frozen? ⟨b, 2, none⟩ = false := by
  obtain ⟨c, hc⟩ := hs.sup
  have e2 : w1.cell? ⟨b, 2, none⟩ = some (.int .i64 c) := (blk_cell hc 2).trans rfl
  exact ⟨hs, (blk_cell hc 0).trans rfl, (blk_cell hc 1).trans rfl, by unfold numAt; rw [e2], (blk_cell hc 3).trans rfl, (blk_cell hc 4).trans rfl, blk_frozen hc 2⟩

theorem results_c1 {P : Program} {fn : Func} {p : Tmp} {ty : TypeId} (h : fn.results = #[.cell p ty]) (tmps : Array Value) (w : World) (g : Nat) (t : TypeId) (cs : Array Value) (fr : Nat × Nat) (d : TypeDesc)
    (hp : tmps.getD p undef = .pointer (some ⟨g, 0, none⟩)) (hg : w.heap[g]? = some (.cells cs t fr))
    (hu : P.underlying ty = some d) (hd : (match d with | .struct _ | .array _ _ => true | _ => false) = true) (hi : (P.info? ty).map (·.size) = some cs.size) :
    (results fn tmps).run P w = .ok (.agg cs) w := by
  have hp' : tmps[p]?.getD undef = .pointer (some ⟨g, 0, none⟩) := by simpa using hp
  simp [results, h, hp', asAddr, run_loadVar_row w g t ty cs fr d hg hu hd hi]

set_option maxHeartbeats 4000000 in
set_option maxRecDepth 100000 in
theorem supply_is (A0 : Option Addr) (c0 : Nat) (l0 : List S30) (H q : Nat) (w : World) (hr0 : Kd.C k30 w A0 l0.length l0) (hok : l0.length ≤ 32 ∧ ∀ i, i < l0.length → okAt l0 i = true) (hH : H ≤ 1048576) :
    Calls Tryd.prog 37 #[.slice A0 l0.length c0, .int .i64 (H : Nat), .int .i64 (q : Nat)] w fun e w' =>
      e = .returned (.agg #[.int .i64 (H : Nat), .int .i64 ((sv l0).count q 0 H : Nat), .int .i64 ((sv l0).count q H H : Nat), .slice A0 l0.length c0, .int .i64 (q : Nat)]) ∧ Below w.heap.size w w' := by
  have HR := Aside0.mk hr0
  have HO := Aside0.mk hok
  clear hr0 hok
  have hP := count_le (sv l0) q 0 H
  have hC := count_le (sv l0) q H H
  have hS := (sv l0).count_add q 0 H H
  rw [Nat.zero_add] at hS
  have HW1 := Aside0.mk (fun (a1 a2 : Int) (w1 : World) (hb : Below w.heap.size w w1) => within_is (H : Nat) a1 a2 A0 c0 l0 q H w1 (Kd.C_below HR.out hb) HO.out (by omega))
  have HW2 := Aside0.mk (fun (a1 a2 : Int) (w1 : World) (hb : Below w.heap.size w w1) => within_is (H : Nat) a1 a2 A0 c0 l0 q (H + H) w1 (Kd.C_below HR.out hb) HO.out (by omega))
  rw [hS] at HW2
  obtain ⟨P, hPe⟩ : ∃ P, (sv l0).count q 0 H = P := ⟨_, rfl⟩
  obtain ⟨C, hCe⟩ : ∃ C, (sv l0).count q H H = C := ⟨_, rfl⟩
  rw [hPe] at hP HW1 HW2 ⊢
  rw [hCe] at hC HW2 ⊢
  have hHH : ((H + H : Nat) : Int) = 2 * (H : Int) := by omega
  rw [hHH] at HW2
  obtain ⟨X, hX⟩ : ∃ X : Int, ((P + C : Nat) : Int) = X := ⟨_, rfl⟩
  rw [hX] at HW2
  have wr1 := Aside0.mk (show IntKind.i64.wrap (2 * (H : Int)) = 2 * (H : Int) from IntWalk.i64_in _ (by omega))
  have wr2 := Aside0.mk (show IntKind.i64.wrap (X - (P : Int)) = (C : Int) from (IntWalk.i64_in _ (by omega)).trans (by omega))
  clear hPe hCe hS hHH hX
  have hu69 := Tryd.underlying69
  go_enter Tryd.func37, Tryd.ntmps37
  go_wp2_with (go_at_call 56; refine (HW1.out 0 0 _ (((Below.refl _ w).alloc (Nat.le_refl _) _).alloc (by simp) _)).mono ?_; rintro e w1 ⟨rfl, hb1⟩; obtain ⟨k0, k1, hB⟩ := two_cells hb1; have fz := blk_frozen k1 1; have c1 := blk_cell k1 1; have K0 := Aside0.mk k0; have K1 := Aside0.mk k1; have HB1 := Aside0.mk hB; simp only [List.getElem?_toArray, List.getElem?_cons_zero, List.getElem?_cons_succ] at c1; clear k0 k1 hB hb1)
  obtain ⟨w2, hw2⟩ : ∃ w2, w1.setCell ⟨w.heap.size + 1, 1, none⟩ (.int .i64 (P : Nat)) = w2 := ⟨_, rfl⟩
  rw [hw2]
  have hS : SupAt w (w.heap.size + 1) (H : Nat) (P : Nat) (.slice A0 l0.length c0) (q : Nat) w.heap.size #[.int .i64 0, .int .i64 0, .int .i64 0, .slice none 0 0, .int .i64 0] 69 w2 :=
    ⟨⟨0, by rw [← hw2]; exact blk_put K1.out 1 _ rfl⟩, by rw [← hw2]; exact blk_far K0.out (by simp) _, by rw [← hw2]; exact HB1.out.setCell (p := ⟨w.heap.size + 1, 1, none⟩) (by simp) _⟩
  have hblk : w2.heap[w.heap.size + 1]? = some (.cells #[.int .i64 (H : Nat), .int .i64 (P : Nat), .int .i64 0, .slice A0 l0.length c0, .int .i64 (q : Nat)] 69 (0, 0)) := by rw [← hw2]; exact blk_put K1.out 1 _ rfl
  clear K0 K1 HB1 hw2 fz c1
  have c2' : w2.cell? ⟨w.heap.size + 1, 2, none⟩ = some (.int .i64 0) := (blk_cell hblk 2).trans rfl
  clear hblk
  obtain ⟨hS, c0', c1', -, c3', c4', f2'⟩ := hS.all
  replace wr1 := wr1.out
  replace wr2 := wr2.out
  go_region_with (go_at_call 56; refine (HW2.out P 0 _ (below_drew1 hS.bel)).mono ?_; rintro e w' ⟨rfl, hb⟩; obtain ⟨hT, -, c1'', c2'', -, -, f2''⟩ := (hS.drew.below hb).all)
  all_goals (
    obtain ⟨_, hc⟩ := hT.sup
    have k1 := blk_put hc 2 (.int .i64 (C : Nat)) rfl
    have k0 := blk_far hT.res (p := ⟨w.heap.size + 1, 2, none⟩) (by simp) (.int .i64 (C : Nat))
    have kb := hT.bel.setCell (p := ⟨w.heap.size + 1, 2, none⟩) (by simp) (.int .i64 (C : Nat))
    obtain ⟨w4, hw4⟩ : ∃ w4, w'.setCell ⟨w.heap.size + 1, 2, none⟩ (.int .i64 (C : Nat)) = w4 := ⟨_, rfl⟩
    rw [hw4] at k1 k0 kb
    rw [hw4]
    clear hT hb hc hw4 c1'' c2'' f2'' hS c0' c1' c2' c3' c4' f2' wr1 wr2 HW1 HW2
    have d0 := (blk_cell k1 0).trans rfl
    have d1 := (blk_cell k1 1).trans rfl
    have d2 := (blk_cell k1 2).trans rfl
    have d3 := (blk_cell k1 3).trans rfl
    have d4 := (blk_cell k1 4).trans rfl
    have e0 := (blk_cell k0 0).trans rfl
    have e1 := (blk_cell k0 1).trans rfl
    have e2 := (blk_cell k0 2).trans rfl
    have e3 := (blk_cell k0 3).trans rfl
    have e4 := (blk_cell k0 4).trans rfl
    have f0 := blk_frozen k0 0
    have f1 := blk_frozen k0 1
    have f2 := blk_frozen k0 2
    have f3 := blk_frozen k0 3
    have f4 := blk_frozen k0 4
    go_wp2)
  all_goals (
    have r1 := blk_put k0 0 (.int .i64 (H : Nat)) rfl
    have r2 := blk_put r1 1 (.int .i64 (P : Nat)) rfl
    have r3 := blk_put r2 2 (.int .i64 (C : Nat)) rfl
    have r4 := blk_put r3 3 (.slice A0 l0.length c0) rfl
    have r5 := blk_put r4 4 (.int .i64 (q : Nat)) rfl
    refine bodyPost_ret (results_c1 rfl _ _ w.heap.size 69 _ _ _ rfl r5 hu69 rfl (by kernel_rfl)) rfl ?_
    exact ⟨rfl, ((((kb.setCell (p := ⟨w.heap.size, 0, none⟩) (Nat.le_refl _) _).setCell (p := ⟨w.heap.size, 1, none⟩) (Nat.le_refl _) _).setCell (p := ⟨w.heap.size, 2, none⟩) (Nat.le_refl _) _).setCell (p := ⟨w.heap.size, 3, none⟩) (Nat.le_refl _) _).setCell (p := ⟨w.heap.size, 4, none⟩) (Nat.le_refl _) _⟩)
end Go.Proofs.YtmphhgcmmcomjaaDoor.B
namespace Go.Proofs.YtmphhgcmmcomjaaDoor.B
open Go.RowKit Go.Proofs.YtmphhgcmmcomjaaDoorW.PrintWords Go.Proofs.YtmphhgcmmcomjaaDoorW.PrintLast Go.Proofs.YtmphhgcmmcomjaaDoorW.PrintMore

/-- A counter's cells, at a world. -/
structure CtAt (w : World) (b : Nat) (h p c : Int) (v : Value) (q : Int) (w' : World) : Prop where
  sup : w'.heap[b]? = some (.cells #[.int .i64 h, .int .i64 p, .int .i64 c, v, .int .i64 q] 69 (0, 0))
  bel : Below w.heap.size w w'
theorem CtAt.below {w : World} {b : Nat} {h p c q : Int} {v : Value} {w1 w2 : World} (hs : CtAt w b h p c v q w1) (hb : Below w1.heap.size w1 w2) : CtAt w b h p c v q w2 :=
  ⟨(hb.block _ (blk_lt hs.sup)).trans hs.sup, hs.bel.trans (hb.mono hs.bel.size)⟩
theorem CtAt.drew {w : World} {b : Nat} {h p c q : Int} {v : Value} {w1 : World} (hs : CtAt w b h p c v q w1) : CtAt w b h p c v q w1.drew := ⟨hs.sup, below_drew1 hs.bel⟩
theorem CtAt.all {w : World} {b : Nat} {h p c q : Int} {v : Value} {w1 : World} (hs : CtAt w b h p c v q w1) :
    CtAt w b h p c v q w1 ∧ w1.cell? ⟨b, 0, none⟩ = some (.int .i64 h) ∧ w1.cell? ⟨b, 1, none⟩ = some (.int .i64 p) ∧ w1.cell? ⟨b, 2, none⟩ = some (.int .i64 c) ∧ w1.cell? ⟨b, 3, none⟩ = some v ∧ w1.cell? ⟨b, 4, none⟩ = some (.int .i64 q) :=
  ⟨hs, (blk_cell hs.sup 0).trans rfl, (blk_cell hs.sup 1).trans rfl, (blk_cell hs.sup 2).trans rfl, (blk_cell hs.sup 3).trans rfl, (blk_cell hs.sup 4).trans rfl⟩

def spanB (a b : Int) : Bool := decide (0 ≤ a) && decide (a ≤ b) && decide (b ≤ 1099511627776)
theorem span_plain (a b : Int) : occ_span.f a b = some (spanB a b) := by
  unfold occ_span.f spanB
  by_cases c : 0 ≤ a
  · by_cases d : a ≤ b
    · simp [c, d]
    · simp [c, d]
  · simp [c]

/-- What Supply tells. -/
def occ_Supply.f (l : List S30) (q a b : Int) : Option (Int × Int) :=
  some (if (hypS lcmF l).2 = 0 then (if q < 1 ∨ (l.length : Int) < q then (0, 220) else if spanB a b = false then (0, 2) else ((((sv l).count q.toNat 0 b.toNat : Nat) : Int) - (((sv l).count q.toNat 0 a.toNat : Nat) : Int), 0)) else (0, (hypS lcmF l).2))

set_option maxHeartbeats 4000000 in
set_option maxRecDepth 100000 in
theorem occ_Supply.calls (A0 : Option Addr) (c0 : Nat) (l0 : List S30) (a1 a2 a3 : Int) (r1 : Int) (r2 : Int) (w : World) (hr0 : Kd.C k30 w A0 l0.length l0) (_hc0 : l0.length ≤ c0) (hG : GH w) (h : occ_Supply.f l0 a1 a2 a3 = some (r1, r2)) :
    Calls Tryd.prog 13 #[.slice A0 l0.length c0, .int .i64 a1, .int .i64 a2, .int .i64 a3] w fun e w' => e = .returned (.tuple #[.int .i64 r1, .int .i64 r2]) ∧ Below w.heap.size w w' := by
  have HH := Aside0.mk (check_Hyper.calls A0 c0 l0 (hypS lcmF l0).1 (hypS lcmF l0).2 w hr0 _hc0 hG rfl)
  have HR := Aside0.mk hr0
  clear hr0 hG
  unfold occ_Supply.f at h
  have HSp := Aside0.mk (fun w => occ_span.calls a2 a3 (spanB a2 a3) w (span_plain a2 a3))
  by_cases he : (hypS lcmF l0).2 = 0
  · rw [if_pos he] at h
    by_cases hq : a1 < 1 ∨ (l0.length : Int) < a1
    · rw [if_pos hq] at h
      obtain ⟨rfl, rfl⟩ : 0 = r1 ∧ 220 = r2 := by simpa using h
      rw [he] at HH
      clear h he
      by_cases hq1 : a1 < 1
      · clear hq
        go_enter Tryd.func13, Tryd.ntmps13
        go_wp2_with (go_at_call 10; refine HH.out.mono ?_; rintro e w' ⟨rfl, hb⟩)
        go_ret2
        exact ⟨rfl, by assumption⟩
      · have hq2 : (l0.length : Int) < a1 := by omega
        clear hq
        go_enter Tryd.func13, Tryd.ntmps13
        go_wp2_with (go_at_call 10; refine HH.out.mono ?_; rintro e w' ⟨rfl, hb⟩)
        go_ret2
        exact ⟨rfl, by assumption⟩
    · rw [if_neg hq] at h
      have hq1 : ¬ a1 < 1 := by omega
      have hq2 : ¬ (l0.length : Int) < a1 := by omega
      obtain ⟨sp, hsp⟩ : ∃ sp, spanB a2 a3 = sp := ⟨_, rfl⟩
      rw [hsp] at h HSp
      cases sp with
      | false =>
        rw [if_pos rfl] at h
        obtain ⟨rfl, rfl⟩ : 0 = r1 ∧ 2 = r2 := by simpa using h
        rw [he] at HH
        clear h he hq hsp
        go_enter Tryd.func13, Tryd.ntmps13
        go_wp2_with (first | (go_at_call 10; refine HH.out.mono ?_; rintro e w' ⟨rfl, hb⟩) | (go_at_call 36; refine (HSp.out _).mono ?_; rintro e w' ⟨rfl, hd⟩))
        go_ret2
        exact ⟨rfl, (by assumption : Below w.heap.size w _).trans ((Drawn0.below (by assumption)).mono (Below.size (by assumption)))⟩
      | true =>
        rw [if_neg (by simp)] at h
        obtain ⟨hbd, hok, hH1, hH2, hHe, hOk⟩ := ok_of_hyp l0 he
        have hb3 : 0 ≤ a2 ∧ a2 ≤ a3 ∧ a3 ≤ 1099511627776 := by unfold spanB at hsp; simp only [Bool.and_eq_true, decide_eq_true_eq] at hsp; omega
        obtain ⟨F, rfl⟩ : ∃ F : Nat, a2 = (F : Int) := ⟨a2.toNat, by omega⟩
        obtain ⟨E, rfl⟩ : ∃ E : Nat, a3 = (E : Int) := ⟨a3.toNat, by omega⟩
        obtain ⟨q, rfl⟩ : ∃ q : Nat, a1 = (q : Int) := ⟨a1.toNat, by omega⟩
        simp only [Int.toNat_natCast, Option.some.injEq, Prod.mk.injEq] at h
        obtain ⟨rfl, rfl⟩ := h
        rw [he, hHe] at HH
        obtain ⟨H, hH⟩ : ∃ H, hyp l0 = H := ⟨_, rfl⟩
        rw [hH] at hH1 hH2 HH hOk
        have hokL : okL l0 = true := (okL_iff _).2 ⟨hbd.1, hok⟩
        have HSu := Aside0.mk (fun (w1 : World) (hb : Below w.heap.size w w1) => supply_is A0 c0 l0 H q w1 (Kd.C_below HR.out hb) ((okL_iff _).1 hokL) hH2)
        have HBF := Aside0.mk (fun (w1 : World) (hb : Below w.heap.size w w1) => occ_supplier_below.calls _ _ _ A0 c0 l0 _ _ _ w1 (Kd.C_below HR.out hb) _hc0 (below_plain hokL hOk hH2 q F (by omega)))
        have HBE := Aside0.mk (fun (w1 : World) (hb : Below w.heap.size w w1) => occ_supplier_below.calls _ _ _ A0 c0 l0 _ _ _ w1 (Kd.C_below HR.out hb) _hc0 (below_plain hokL hOk hH2 q E (by omega)))
        obtain ⟨P, hP⟩ : ∃ P, (sv l0).count q 0 H = P := ⟨_, rfl⟩
        obtain ⟨C, hC⟩ : ∃ C, (sv l0).count q H H = C := ⟨_, rfl⟩
        have kF := count_le (sv l0) q 0 F
        have kE := count_le (sv l0) q 0 E
        obtain ⟨X, hX⟩ : ∃ X, (sv l0).count q 0 F = X := ⟨_, rfl⟩
        obtain ⟨Y, hY⟩ : ∃ Y, (sv l0).count q 0 E = Y := ⟨_, rfl⟩
        rw [hP, hC] at HSu HBF HBE
        rw [hX] at HBF kF ⊢
        rw [hY] at HBE kE ⊢
        have hw := Aside0.mk (show IntKind.i64.wrap ((Y : Int) - (X : Int)) = (Y : Int) - (X : Int) from IntWalk.i64_in _ (by omega))
        have hu69 := Tryd.underlying69
        clear hX hY hP hC hH hHe hOk hbd hok hokL hsp he hb3 kF kE hq
        go_enter Tryd.func13, Tryd.ntmps13
        go_wp2_with (first | (go_at_call 10; refine HH.out.mono ?_; rintro e w1 ⟨rfl, hb1⟩) | (go_at_call 36; refine (HSp.out _).mono ?_; rintro e w2 ⟨rfl, hd⟩; have hb2 := hb1.trans (hd.below.mono hb1.size); clear hd) | (go_at_call 37; refine (HSu.out _ hb2).mono ?_; rintro e w3 ⟨rfl, hb3⟩; replace hb3 := hb2.trans (hb3.mono hb2.size)))
        obtain ⟨w4, hw4⟩ : ∃ w4, w3.alloc (.cells #[.int .i64 (H : Nat), .int .i64 (P : Nat), .int .i64 (C : Nat), .slice A0 l0.length c0, .int .i64 (q : Nat)] 69) = w4 := ⟨_, rfl⟩
        have hS : CtAt w w3.heap.size (H : Nat) (P : Nat) (C : Nat) (.slice A0 l0.length c0) (q : Nat) w4 := ⟨by rw [← hw4]; exact heap_alloc_new _ _, by rw [← hw4]; exact hb3.alloc hb3.size _⟩
        rw [hw4]
        clear hw4 hb1 hb2 hb3 HH HSp HSu
        replace hw := hw.out
        obtain ⟨hS, c0', c1', c2', c3', c4'⟩ := hS.all
        go_region_held3 (fun w' => CtAt w w3.heap.size (H : Nat) (P : Nat) (C : Nat) (.slice A0 l0.length c0) (q : Nat) w' ∧ w'.cell? ⟨w3.heap.size, 0, none⟩ = some (.int .i64 (H : Nat)) ∧ w'.cell? ⟨w3.heap.size, 1, none⟩ = some (.int .i64 (P : Nat)) ∧ w'.cell? ⟨w3.heap.size, 2, none⟩ = some (.int .i64 (C : Nat)) ∧ w'.cell? ⟨w3.heap.size, 3, none⟩ = some (.slice A0 l0.length c0) ∧ w'.cell? ⟨w3.heap.size, 4, none⟩ = some (.int .i64 (q : Nat)))
          (first | exact CtAt.all (CtAt.drew (by assumption)) | exact CtAt.all (CtAt.below (And.left (by assumption)) (by assumption)) | exact CtAt.all (CtAt.below (by assumption) (by assumption)))
          (first
            | (go_at_call_of 38 (Value.int .i64 (E : Int)); refine (HBE.out _ ?hbb).mono ?_; (case hbb => (first | exact CtAt.bel (And.left (by assumption)) | exact CtAt.bel (by assumption))); rintro e w' ⟨rfl, hb⟩)
            | (go_at_call_of 38 (Value.int .i64 (F : Int)); refine (HBF.out _ ?hbb).mono ?_; (case hbb => (first | exact CtAt.bel (And.left (by assumption)) | exact CtAt.bel (by assumption))); rintro e w' ⟨rfl, hb⟩))
        go_wp2
        go_ret2
        exact ⟨rfl, CtAt.bel (And.left (by assumption))⟩
  · rw [if_neg he] at h
    obtain ⟨rfl, rfl⟩ : 0 = r1 ∧ (hypS lcmF l0).2 = r2 := by simpa using h
    clear HSp
    go_enter Tryd.func13, Tryd.ntmps13
    go_wp2_with (go_at_call 10; refine HH.out.mono ?_; rintro e w' ⟨rfl, hb⟩)
    go_ret2
    exact ⟨rfl, by assumption⟩
end Go.Proofs.YtmphhgcmmcomjaaDoor.B
