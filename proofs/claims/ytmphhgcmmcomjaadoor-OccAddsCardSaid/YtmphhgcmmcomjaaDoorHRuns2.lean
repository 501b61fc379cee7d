/- Proved: what occ.Runs does with servers and a span that may be. Conditions as its hypotheses say. Proved: the contract of occ.Runs, in the form that printed texts cite. Condition: the variable errors.errorType holds what the program's text lays (GH). -/
import Derived.Test.YtmphhgcmmcomjaaDoorHRunsAt
import Derived.StillTailTactics
import Derived.BigRegion
import Derived.IntWalk
import Derived.Test.YtmphhgcmmcomjaaDoorSx0
namespace Go.Proofs.YtmphhgcmmcomjaaDoor.B
open Go.RowKit Go.Shelf Go.Proofs.YtmphhgcmmcomjaaDoorW.PrintWords Go.Proofs.YtmphhgcmmcomjaaDoorW.PrintLast Go.Proofs.YtmphhgcmmcomjaaDoorW.PrintMore

/-- The world where Runs's loop begins. -/
theorem runs_world {w w0 w1 w2 W : World} {fr tb h : Nat} {H2 : Int} (h0 : w0 = (w.alloc (.cells #[.int .i64 (fr : Nat)] 3)).alloc (.cells #[.int .i64 (tb : Nat)] 3))
    (hb : Below w0.heap.size w0 w1) (hd : Below (w1.alloc (.cells #[.int .i64 (h : Nat)] 3)).heap.size (w1.alloc (.cells #[.int .i64 (h : Nat)] 3)) w2)
    (hW : W = (((w2.alloc (.cells #[.slice none 0 0, .int .i64 65536, .bool false] 78)).alloc (.cells #[.func (.func 45) #[] #[.pointer (some ⟨w.heap.size, 0, none⟩), .pointer (some ⟨w.heap.size + 1, 0, none⟩), .pointer (some ⟨w2.heap.size, 0, none⟩)]] 80)).alloc (.cells #[.slice none 0 0, .int .i64 H2, .bool false] 78)))
    (hH : H2 = ((2 * h : Nat) : Int)) : RnAt w w1.heap.size w2.heap.size fr tb h (.slice none 0 0) ([], false) (.slice none 0 0) ([], false) W ∧ W.heap.size = w2.heap.size + 3 := by
  have e0 := heap_alloc_new w (.cells #[.int .i64 (fr : Nat)] 3)
  have e1 := heap_alloc_new (w.alloc (.cells #[.int .i64 (fr : Nat)] 3)) (.cells #[.int .i64 (tb : Nat)] 3)
  have e2 := heap_alloc_new w1 (.cells #[.int .i64 (h : Nat)] 3)
  have e3 := heap_alloc_new w2 (.cells #[.slice none 0 0, .int .i64 65536, .bool false] 78)
  obtain ⟨w3, hw3⟩ : ∃ w3, w2.alloc (.cells #[.slice none 0 0, .int .i64 65536, .bool false] 78) = w3 := ⟨_, rfl⟩
  have s3 : w3.heap.size = w2.heap.size + 1 := by rw [← hw3]; simp
  rw [hw3] at hW e3
  obtain ⟨F, hF⟩ : ∃ F : Value, Value.func (.func 45) #[] #[.pointer (some ⟨w.heap.size, 0, none⟩), .pointer (some ⟨w.heap.size + 1, 0, none⟩), .pointer (some ⟨w2.heap.size, 0, none⟩)] = F := ⟨_, rfl⟩
  rw [hF] at hW
  have e4 := heap_alloc_new w3 (.cells #[F] 80)
  have e5 := heap_alloc_new (w3.alloc (.cells #[F] 80)) (.cells #[.slice none 0 0, .int .i64 H2, .bool false] 78)
  simp only [World.size_alloc] at e1 e5
  have z : w0.heap.size = w.heap.size + 2 := by rw [h0]; simp
  have b0 : Below w.heap.size w w0 := by rw [h0]; exact ((Below.refl _ w).alloc (Nat.le_refl _) _).alloc (by simp) _
  have s1 := hb.size
  have s2 := hd.size
  simp only [World.size_alloc] at s2
  have up2 : ∀ k o, k < w2.heap.size → w2.heap[k]? = some o → W.heap[k]? = some o := fun k o hk ho => by
    rw [hW]; refine blk_alloc (blk_alloc ?_ _) _; rw [← hw3]; exact blk_alloc ho _
  have up : ∀ k o, k < w0.heap.size → w0.heap[k]? = some o → W.heap[k]? = some o := fun k o hk ho =>
    up2 k o (by omega) ((hd.block k (by simp; omega)).trans (blk_alloc ((hb.block k hk).trans ho) _))
  have bW : Below w.heap.size w W := by
    have c1 := (b0.trans (hb.mono (by omega))).alloc (by omega) (.cells #[.int .i64 (h : Nat)] 3)
    have c2 := c1.trans (hd.mono (by simp; omega))
    rw [hW, ← hw3]
    exact ((c2.alloc (by omega) _).alloc (by simp; omega) _).alloc (by simp; omega) _
  rw [s3] at e4 e5
  subst hH
  refine ⟨⟨up _ _ (by omega) (by rw [h0]; exact blk_alloc e0 _), up _ _ (by omega) (by rw [h0]; exact e1), up2 _ _ (by omega) ((hd.block _ (by simp)).trans e2), ?_, ⟨?_, ⟨by simp [flat], .inl ⟨rfl, rfl⟩⟩⟩, ⟨?_, ⟨by simp [flat], .inl ⟨rfl, rfl⟩⟩⟩, (fun k hk => by cases hk), bW, by omega, by omega⟩, by rw [hW]; simp; omega⟩
  · rw [hW, hF]; exact blk_alloc e4 _
  · rw [hW]; exact blk_alloc (blk_alloc e3 _) _
  · rw [hW]; exact e5

theorem run_store_func {P : Program} {w : World} {a : Addr} {m : Mode} (f : Fn) (x y : Array Value) : (store a (.func f x y) m).run P w = stored P w a (.func f x y) m := run_store P w a _ m rfl
attribute [local go_sem] Oper.semAt_some max2_mx max_two min2_mn min_two run_store_func
set_option maxHeartbeats 16000000 in
set_option maxRecDepth 100000 in
theorem runs_is (A0 : Option Addr) (c0 : Nat) (l0 : List S30) (H fr tb : Nat) (w : World) (HR : Aside0 (Kd.C k30 w A0 l0.length l0)) (HO : Aside0 (∀ i, i < l0.length → okAt l0 i = true)) (HBd : Aside0 (Bd (sv l0)))
    (h0 : fr ≤ tb) (h1 : tb ≤ 1099511627776) (hH : H ≤ 1048576) (hH1 : 1 ≤ H)
    (HH : Aside0 (∀ w1, Below w.heap.size w w1 → Calls Tryd.prog 10 #[.slice A0 l0.length c0] w1 fun e w' => e = .returned (.tuple #[.int .i64 (H : Nat), .int .i64 0]) ∧ Below w1.heap.size w1 w'))
    (HSp : Aside0 (∀ w1, Calls Tryd.prog 36 #[.int .i64 (fr : Nat), .int .i64 (tb : Nat)] w1 fun e w' => e = .returned (.bool true) ∧ Drawn0 w1 w')) :
    Calls Tryd.prog 24 #[.slice A0 l0.length c0, .int .i64 (fr : Nat), .int .i64 (tb : Nat)] w (RunsPost w (runsV l0 H fr tb)) := by
  refine (callsIn_wide (n := 7)).1 ?_
  refine callsIn_of_wp_marks Tryd.func24 rfl trivial ?_ rfl
  simp only [Tryd.ntmps24, List.size_toArray, List.length_cons, List.length_nil, Nat.reduceAdd, Nat.reduceSub, Array.replicate_succ, Array.replicate_zero, List.push_toArray, List.append_toArray, List.nil_append, List.cons_append]
  have hu78 := Tryd.underlying78
  have hu55 := Tryd.underlying55
  have hu80 := Tryd.underlying80
  gi_wp2
  refine ⟨trivial, ?_⟩
  gi_at_call 10
  refine (callsIn_wide.2 (HH.out _ ?hbb)).mono ?_
  case hbb => exact ((Below.refl _ w).alloc (Nat.le_refl _) _).alloc (by simp) _
  rintro e w1 ⟨rfl, hb1⟩
  obtain ⟨w0, hw0⟩ : ∃ w0, (w.alloc (.cells #[.int .i64 (fr : Nat)] 3)).alloc (.cells #[.int .i64 (tb : Nat)] 3) = w0 := ⟨_, rfl⟩
  rw [hw0] at hb1
  have k0 : w0.heap.size = w.heap.size + 2 := by rw [← hw0]; simp
  have d0 : w0.heap[w.heap.size]? = some (.cells #[.int .i64 (fr : Nat)] 3 (0, 0)) := by rw [← hw0]; exact blk_alloc (heap_alloc_new w _) _
  have d1 : w0.heap[w.heap.size + 1]? = some (.cells #[.int .i64 (tb : Nat)] 3 (0, 0)) := by
    have e1 := heap_alloc_new (w.alloc (.cells #[.int .i64 (fr : Nat)] 3)) (.cells #[.int .i64 (tb : Nat)] 3)
    rw [World.size_alloc] at e1
    rw [← hw0]; exact e1
  have c0' : (w1.alloc (.cells #[.int .i64 (H : Nat)] 3)).cell? ⟨w.heap.size, 0, none⟩ = some (.int .i64 (fr : Nat)) := (blk_cell (blk_alloc ((hb1.block _ (by omega)).trans d0) _) 0).trans rfl
  have c1' : (w1.alloc (.cells #[.int .i64 (H : Nat)] 3)).cell? ⟨w.heap.size + 1, 0, none⟩ = some (.int .i64 (tb : Nat)) := (blk_cell (blk_alloc ((hb1.block _ (by omega)).trans d1) _) 0).trans rfl
  have hs1 : w.heap.size + 2 ≤ w1.heap.size := by have := hb1.size; omega
  clear d0 d1
  gi_wp2
  refine ⟨trivial, ?_⟩
  gi_at_call 36
  refine (callsIn_wide.2 (HSp.out _)).mono ?_
  rintro e w2 ⟨rfl, hd⟩
  have hs2 : w1.heap.size < w2.heap.size := by have := hd.below.size; simp at this; omega
  have hhb := (hd.below.block w1.heap.size (by simp)).trans (heap_alloc_new w1 (.cells #[.int .i64 (H : Nat)] 3))
  obtain ⟨o1, ho1⟩ : ∃ o1, Obj.cells #[.slice none 0 0, .int .i64 65536, .bool false] 78 = o1 := ⟨_, rfl⟩
  obtain ⟨o2, ho2⟩ : ∃ o2, Obj.cells #[.func (.func 45) #[] #[.pointer (some ⟨w.heap.size, 0, none⟩), .pointer (some ⟨w.heap.size + 1, 0, none⟩), .pointer (some ⟨w2.heap.size, 0, none⟩)]] 80 = o2 := ⟨_, rfl⟩
  obtain ⟨o3, ho3⟩ : ∃ o3, Obj.cells #[.slice none 0 0, .int .i64 (2 * (H : Int)), .bool false] 78 = o3 := ⟨_, rfl⟩
  have h8 := (blk_cell (blk_alloc (blk_alloc hhb o1) o2) 0).trans rfl
  have h9 := (blk_cell (blk_alloc (blk_alloc (blk_alloc hhb o1) o2) o3) 0).trans rfl
  subst ho1 ho2 ho3
  have HW := Aside0.mk (fun W hW => runs_world (W := W) (H2 := 2 * (H : Int)) hw0.symm hb1 hd.below hW rfl)
  clear hw0 hb1 hd hhb c0' c1'
  gi_wp2
  refine ⟨trivial, ?_⟩
  gi_at_call 34
  obtain ⟨w3, hw3⟩ : ∃ w3, (((w2.alloc (.cells #[.slice none 0 0, .int .i64 65536, .bool false] 78)).alloc (.cells #[.func (.func 45) #[] #[.pointer (some ⟨w.heap.size, 0, none⟩), .pointer (some ⟨w.heap.size + 1, 0, none⟩), .pointer (some ⟨w2.heap.size, 0, none⟩)]] 80)).alloc (.cells #[.slice none 0 0, .int .i64 (2 * (H : Int)), .bool false] 78)) = w3 := ⟨_, rfl⟩
  obtain ⟨hR3, hs3⟩ := HW.out w3 hw3.symm
  rw [hw3] at h9 ⊢
  clear hw3 HW h8 h9
  refine (callsIn_wide.2 (play_is _ _ _ _ _)).mono ?_
  rintro e w4 ⟨rfl, hw4⟩
  obtain ⟨hs4, hx1, hx2, hb4⟩ := boxes_world hw4
  have HR4 := Aside0.mk (hR3.kept (W' := w4) (fun k hk _ => hb4.block k hk) (hR3.bel.trans (hb4.mono (by omega))))
  have HSv := Aside0.mk (srv_of HO.out HR.out (Nat.le_refl _))
  clear hw4 hb4 hR3
  have hx2' : w4.cell? ⟨w3.heap.size + 1, 0, none⟩ = some (.int .i64 ((2 * H : Nat) : Int)) := hx2
  rw [hs3] at hx1 hx2' hs4
  have hn4 := HR4.out.bel.size
  have HCov := Aside0.mk ((sv l0).play_zero (fun i hi => (HBd.out.2 i hi).1) (2 * H) (2 * H) (Nat.le_refl _))
  have HXB := Aside0.mk (cover_bound (sv l0) (2 * H) _ 0 HCov.out)
  have HAB := Aside0.mk (fun a x b e => all_bd (sv l0) H fr tb (2 * H) hH1 _ [] 0 HCov.out (Nat.le_refl _) (Nat.le_refl _) (by simp [jAll]) (by simp [cAll]) a x b e)
  gi_wp2
  refine wpIn_rangeFunc_cells rfl (by omega) (gf := 54) (lb := #[.pointer (some ⟨w2.heap.size + 3, 0, none⟩), .pointer (some ⟨w2.heap.size + 3 + 1, 0, none⟩)]) rfl trivial (enters_of Tryd.func54 (by kernel_rfl) rfl)
    (play1_is w.heap.size (w2.heap.size + 3) (w2.heap.size + 3) (w2.heap.size + 3 + 1) A0 c0 l0 (2 * H) _ (by omega) HBd.out (by omega) w4 (HSv.out.kept fun k hk => HR4.out.bel.block k hk) hn4 hx1 hx2' (by omega) (by omega) (by omega) (by omega))
    PKp_t (fun W l o o' hl h _ _ => PKp_b (by omega) W l o o' hl h) (Below.refl _ _) (fun _ => rfl)
    (fun pre W => ∃ Vj Vc, RnAt w w1.heap.size w2.heap.size fr tb H Vj (jAll H fr tb pre) Vc (cAll H pre) W ∧ (pre = [] ∨ w2.heap.size + 8 ≤ W.heap.size))
    (fun _ _ _ => False)
    (fun s A B ⟨Vj, Vc, h, hz⟩ hb => ⟨Vj, Vc, h.kept (fun k hk h2 => by rcases h2 with h2 | h2; exact hb.block k (by omega); exact hb.far k hk (by omega)) (h.bel.trans (hb.toBelow.mono (by omega))), hz.imp id fun h => Nat.le_trans h hb.size⟩)
    (fun _ _ _ _ h _ => h) ⟨_, _, HR4.out, .inl rfl⟩
    (fun x a' Wn => ∃ b, w4.heap.size + 3 ≤ b ∧ Wn.heap[b]? = some (.cells #[.int .i64 (x.2.1 : Nat), .int .i64 (x.2.2 : Nat)] 55 (0, 0)) ∧ NoRow w2.heap.size b Wn ∧ a' = { tmps := #[.slice A0 l0.length c0, .int .i64 ((fr : Nat) : Int), .int .i64 ((tb : Nat) : Int), undef, .pointer (some ⟨w.heap.size, 0, none⟩), .pointer (some ⟨w.heap.size + 1, 0, none⟩), .slice none 0 0, .int .i64 0, .pointer (some ⟨w1.heap.size, 0, none⟩), .int .i64 0, .pointer (some ⟨w2.heap.size, 0, none⟩), .pointer (some ⟨w2.heap.size + 1, 0, none⟩), .pointer (some ⟨w2.heap.size + 1 + 1, 0, none⟩), .int .i64 (x.1 : Nat), .pointer (some ⟨b, 0, none⟩), undef, undef, undef, undef, .tuple #[.int .i64 ((H : Nat) : Int), .int .i64 0], .slice A0 l0.length c0, .tuple #[.int .i64 ((H : Nat) : Int), .int .i64 0], .int .i64 ((H : Nat) : Int), .int .i64 0, .bool false, .int .i64 0, .bool false, undef, .bool false, .int .i64 ((fr : Nat) : Int), .int .i64 ((tb : Nat) : Int), .bool true, .bool false, .agg #[.slice none 0 0, .int .i64 65536, .bool false], .func (.func 45) #[] #[.pointer (some ⟨w.heap.size, 0, none⟩), .pointer (some ⟨w.heap.size + 1, 0, none⟩), .pointer (some ⟨w2.heap.size, 0, none⟩)], .int .i64 ((H : Nat) : Int), .int .i64 (2 * ((H : Nat) : Int)), .agg #[.slice none 0 0, .int .i64 (2 * ((H : Nat) : Int)), .bool false], .slice A0 l0.length c0, .int .i64 ((H : Nat) : Int), .int .i64 (2 * ((H : Nat) : Int)), .func (.func 54) #[] #[.pointer (some ⟨w2.heap.size + 3, 0, none⟩), .pointer (some ⟨w2.heap.size + 3 + 1, 0, none⟩)], .int .i64 (x.1 : Nat), .agg #[.int .i64 (x.2.1 : Nat), .int .i64 (x.2.2 : Nat)], undef, undef, undef, undef, undef, undef, undef, undef, undef, undef, undef, undef, undef, undef, undef, undef, undef, undef, undef, undef, undef, undef, undef, undef, undef, undef, undef, undef, undef, undef, undef, undef, undef, undef, undef, undef, undef, undef, undef, undef, undef, undef, undef, undef, undef, undef, undef, undef, undef, undef, undef, undef, undef, undef, undef, undef, undef, undef, undef, undef, undef, undef, undef, undef, undef, undef, undef, undef, undef, undef, undef, undef, undef, undef, undef, undef, undef, undef, undef, undef, undef, undef, undef, undef, undef, undef, undef, undef, undef, undef, undef, undef, undef], defers := [] })
    (fun x a' W o o' hl ho ⟨b, hb, h, hn, e⟩ => ⟨b, hb, (World.putObj_heap_other (by omega)).trans h, fun g hg V y z hV => hn g hg V y z ((World.putObj_heap_other (by omega)).symm.trans hV), e⟩) ?assign ?body ?done ?stop
  case assign =>
    intro pre x W K hi hsz hK
    dsimp only [encSeg]
    gi_wp2
    obtain ⟨Vj, Vc, hi, hz⟩ := hi
    refine hK _ _ ((KeepsOthers.alloc _ _).from _) ⟨by simp, fun k hs hk => Below.heap_alloc _ _ _ hs⟩ ⟨Vj, Vc, hi.kept (fun k hk _ => Below.heap_alloc _ _ _ hk) (hi.bel.alloc hi.bel.size _), .inr (by simp; omega)⟩ ⟨W.heap.size, by omega, heap_alloc_new _ _, hi.noRow _, rfl⟩
  case body =>
    rintro pre x a' W - ⟨Vj, Vc, hN, -⟩ ⟨b, hb, hs, hnr, rfl⟩ ⟨rest, hRd⟩
    have hxb := (HXB.out x (by rw [hRd]; simp)).2
    have HMem := Aside0.mk (show x ∈ (sv l0).play (2 * H) (2 * H) (fun _ => 0) 0 by rw [hRd]; simp)
    have hab := HAB.out pre x rest hRd
    rw [List.nil_append] at hab
    obtain ⟨t1, t2, l1, l2⟩ := hab
    have s0 := (blk_cell hs 0).trans rfl
    have s1 := (blk_cell hs 1).trans rfl
    have p0 := (blk_cell hN.hh 0).trans rfl
    have p1 := (blk_cell hN.fn 0).trans rfl
    have hWs : w2.heap.size + 8 ≤ W.heap.size := by have := blk_lt hs; omega
    have HN := Aside0.mk hN
    have HBJ := Aside0.mk (hN.noRow_j hnr)
    have HBC := Aside0.mk (hN.noRow_c hnr)
    have HBX := Aside0.mk hs
    have HPre := Aside0.mk (And.intro (jAll_snoc H fr tb pre x) (cAll_snoc H pre x))
    clear hRd hN hs hnr
    obtain ⟨x1, x2, x3⟩ := x
    dsimp only at hxb s0 s1 t1 t2 HBX
    by_cases hA : x1 < H
    · have hA1 : (x1 : Int) < (H : Int) := by omega
      obtain ⟨ML, hML⟩ : ∃ ML, min x2 (H - x1) = ML := ⟨_, rfl⟩
      have hm := mnI_nat x2 (H - x1)
      rw [hML, show ((H - x1 : Nat) : Int) = (H : Int) - (x1 : Int) by omega] at hm
      have hMLb : ML ≤ 2097152 := by omega
      have HLay := Aside0.mk (lay_is (w2.heap.size + 8) w2.heap.size w.heap.size (w.heap.size + 1) Vj (jAll H fr tb pre).1 65536 (jAll H fr tb pre).2 x1 ML x3 fr tb W HN.out.j hWs ((blk_cell HN.out.frm 0).trans rfl) ((blk_cell HN.out.blw 0).trans rfl)
        (by omega) (by omega) (by omega) (by omega) (fun p hp => by have := tot_mem hp; omega) (by omega) (by omega))
      gi_wp2
      refine ⟨trivial, ?_⟩
      gi_at_call 45
      refine (CallsIn.inRound _ (callsIn_wide.2 HLay.out)).mono ?_
      rintro e W1 ⟨⟨v, rfl⟩, Vj', hJ', hk'⟩
      have hN1 := HN.out.lay (sj' := layP 65536 fr tb ((jAll H fr tb pre).1, (jAll H fr tb pre).2) x1 ML x3) hJ' hk'
      have kf1 := hk'.keepsFrom HN.out.j.row (B := w4.heap.size) (by omega)
      have kp1 := hk'.pkp (n0 := w.heap.size) (m := w2.heap.size + 3) (l := w4.heap.size + 1) HN.out.j.row (by have := HN.out.la; have := HN.out.lb; omega) (by omega) (by omega) (by have := HN.out.la; have := HN.out.lb; omega)
      have hbx1 := (hk'.same b (blk_lt HBX.out) (by omega) HBJ.out).trans HBX.out
      have s0' := (blk_cell hbx1 0).trans rfl
      have s1' := (blk_cell hbx1 1).trans rfl
      have p0' := (blk_cell hN1.hh 0).trans rfl
      have hW1s : w2.heap.size + 8 ≤ W1.heap.size := by have := hk'.size; omega
      have HN1 := Aside0.mk hN1
      have HKF := Aside0.mk kf1
      have HKP := Aside0.mk kp1
      have HJ1 := Aside0.mk (show jStep H fr tb (jAll H fr tb pre) (x1, x2, x3) = layP 65536 fr tb ((jAll H fr tb pre).1, (jAll H fr tb pre).2) x1 ML x3 by unfold jStep; rw [if_pos hA, hML])
      clear hN1 kf1 kp1 hbx1 hJ' hk' s0 s1 p0 p1 hm hML HLay
      by_cases hB : H < x1 + x2
      · have hB1 : (H : Int) < (x1 : Int) + (x2 : Int) := by omega
        obtain ⟨MX, hMX⟩ : ∃ MX, max x1 H = MX := ⟨_, rfl⟩
        have hmx := mxI_nat x1 H
        rw [hMX] at hmx
        have hMXb : MX ≤ 2097152 ∧ MX ≤ x1 + x2 := by omega
        obtain ⟨hMXb1, hMXb2⟩ := hMXb
        have hadd := add_is (w2.heap.size + 8) (w2.heap.size + 2) Vc (cAll H pre).1 (2 * H) (cAll H pre).2 (x1 + x2 - MX) x3 W1 HN1.out.c (by omega) (by omega) (fun p hp => by have := tot_mem hp; omega) (by omega) (by omega)
        rw [show ((x1 + x2 - MX : Nat) : Int) = (x1 : Int) + (x2 : Int) - (MX : Int) by omega] at hadd
        have HAdd := Aside0.mk hadd
        have HC := Aside0.mk (show cStep H (cAll H pre) (x1, x2, x3) = addP (2 * H) ((cAll H pre).1, (cAll H pre).2) (x1 + x2 - MX) x3 by unfold cStep; rw [if_pos hB, hMX])
        clear hadd hMX
        gi_wp2
        refine ⟨trivial, ?_⟩
        gi_at_call 46
        refine (CallsIn.inRound _ (callsIn_wide.2 HAdd.out)).mono ?_
        rintro e W2 ⟨⟨v2, rfl⟩, Vc', hJ2, hk2⟩
        have hN2 := HN1.out.add (sc' := addP (2 * H) ((cAll H pre).1, (cAll H pre).2) (x1 + x2 - MX) x3) hJ2 hk2
        have kf2 := hk2.keepsFrom HN1.out.c.row (B := w4.heap.size) (by omega)
        have kp2 := hk2.pkp (n0 := w.heap.size) (m := w2.heap.size + 3) (l := w4.heap.size + 1) HN1.out.c.row (by have := HN1.out.la; have := HN1.out.lb; omega) (by omega) (by omega) (by have := HN1.out.la; have := HN1.out.lb; omega)
        have HE := Aside0.mk (And.intro (HKF.out.trans kf2) (And.intro (PKp_t HKP.out kp2) hN2))
        clear hN2 kf2 kp2 hJ2 hk2
        gi_wp2
        refine ⟨HE.out.1, HE.out.2.1, Vj', Vc', ?_⟩
        rw [HPre.out.1, HPre.out.2, HC.out, HJ1.out]
        exact ⟨HE.out.2.2, .inr (Nat.le_trans hWs HE.out.1.size)⟩
      · have hB1 : ¬ ((H : Int) < (x1 : Int) + (x2 : Int)) := by omega
        have HC := Aside0.mk (show cStep H (cAll H pre) (x1, x2, x3) = cAll H pre by unfold cStep; rw [if_neg hB])
        gi_wp2
        refine ⟨HKF.out, HKP.out, Vj', Vc, ?_⟩
        rw [HPre.out.1, HPre.out.2, HC.out, HJ1.out]
        exact ⟨HN1.out, .inr (Nat.le_trans hWs HKF.out.size)⟩
    · have hA1 : ¬ ((x1 : Int) < (H : Int)) := by omega
      have hB : H < x1 + x2 := by have := (HXB.out (x1, x2, x3) HMem.out).2.1; dsimp only at this; omega
      have hB1 : (H : Int) < (x1 : Int) + (x2 : Int) := by omega
      have HJ1 := Aside0.mk (show jStep H fr tb (jAll H fr tb pre) (x1, x2, x3) = jAll H fr tb pre by unfold jStep; rw [if_neg hA])
      obtain ⟨MX, hMX⟩ : ∃ MX, max x1 H = MX := ⟨_, rfl⟩
      have hmx := mxI_nat x1 H
      rw [hMX] at hmx
      have hMXb : MX ≤ 2097152 ∧ MX ≤ x1 + x2 := by omega
      obtain ⟨hMXb1, hMXb2⟩ := hMXb
      have hadd := add_is (w2.heap.size + 8) (w2.heap.size + 2) Vc (cAll H pre).1 (2 * H) (cAll H pre).2 (x1 + x2 - MX) x3 W HN.out.c (by omega) (by omega) (fun p hp => by have := tot_mem hp; omega) (by omega) (by omega)
      rw [show ((x1 + x2 - MX : Nat) : Int) = (x1 : Int) + (x2 : Int) - (MX : Int) by omega] at hadd
      have HAdd := Aside0.mk hadd
      have HC := Aside0.mk (show cStep H (cAll H pre) (x1, x2, x3) = addP (2 * H) ((cAll H pre).1, (cAll H pre).2) (x1 + x2 - MX) x3 by unfold cStep; rw [if_pos hB, hMX])
      clear hadd hMX
      gi_wp2
      refine ⟨trivial, ?_⟩
      gi_at_call 46
      refine (CallsIn.inRound _ (callsIn_wide.2 HAdd.out)).mono ?_
      rintro e W2 ⟨⟨v2, rfl⟩, Vc', hJ2, hk2⟩
      have hN2 := HN.out.add (sc' := addP (2 * H) ((cAll H pre).1, (cAll H pre).2) (x1 + x2 - MX) x3) hJ2 hk2
      have kf2 := hk2.keepsFrom HN.out.c.row (B := w4.heap.size) (by omega)
      have kp2 := hk2.pkp (n0 := w.heap.size) (m := w2.heap.size + 3) (l := w4.heap.size + 1) HN.out.c.row (by have := HN.out.la; have := HN.out.lb; omega) (by omega) (by omega) (by have := HN.out.la; have := HN.out.lb; omega)
      have HE := Aside0.mk (And.intro kf2 (And.intro kp2 hN2))
      clear hN2 kf2 kp2 hJ2 hk2
      gi_wp2
      refine ⟨HE.out.1, HE.out.2.1, Vj, Vc', ?_⟩
      rw [HPre.out.1, HPre.out.2, HC.out, HJ1.out]
      exact ⟨HE.out.2.2, .inr (Nat.le_trans hWs HE.out.1.size)⟩
  case stop =>
    rintro D c pre W _ _ h _
    exact h.elim
  case done =>
    rintro D xs W hD rfl ⟨Vj, Vc, hN, hz⟩ hK
    have hWs : w2.heap.size + 8 ≤ W.heap.size := by
      rcases hz with hz | hz
      · have hc := HCov.out
        rw [hz] at hc
        have : 2 * H ≤ 0 := hc
        omega
      · exact hz
    have hlt1 : (jAll H fr tb ((sv l0).play (2 * H) (2 * H) (fun _ => 0) 0)).1.length ≤ 65536 ∧ tot (jAll H fr tb ((sv l0).play (2 * H) (2 * H) (fun _ => 0) 0)).1 ≤ 2 * H ∧ (cAll H ((sv l0).play (2 * H) (2 * H) (fun _ => 0) 0)).1.length ≤ 2 * H ∧ tot (cAll H ((sv l0).play (2 * H) (2 * H) (fun _ => 0) 0)).1 ≤ 2 * H := by
      have := all_end (sv l0) H fr tb (2 * H) _ [] 0 HCov.out (Nat.le_refl _) (Nat.le_refl _) (Nat.zero_le _) (by simp [jAll]) (by simp [cAll])
      rw [List.nil_append] at this
      exact ⟨this.2.2.1, this.1, this.2.2.2, this.2.1⟩
    have HV := Aside0.mk (show ∀ s, (if (cAll H ((sv l0).play (2 * H) (2 * H) (fun _ => 0) 0)).1.length = 1 then addP 65536 (jAll H fr tb ((sv l0).play (2 * H) (2 * H) (fun _ => 0) 0)) (tb - max fr H) (((cAll H ((sv l0).play (2 * H) (2 * H) (fun _ => 0) 0)).1.getD 0 (0, 0)).2)
      else turns H fr tb (cAll H ((sv l0).play (2 * H) (2 * H) (fun _ => 0) 0)).1 (tb + 1) ((fr - H) / H) (jAll H fr tb ((sv l0).play (2 * H) (2 * H) (fun _ => 0) 0))) = s → runsV l0 H fr tb = s from fun s h => h)
    obtain ⟨hj1, hj2, hc1, hc2⟩ := hlt1
    generalize jAll H fr tb ((sv l0).play (2 * H) (2 * H) (fun _ => 0) 0) = sj at *
    generalize cAll H ((sv l0).play (2 * H) (2 * H) (fun _ => 0) 0) = sc at *
    obtain ⟨ao, cap, rfl, har⟩ := own2_shape hN.c.row
    clear hz
    have HN := Aside0.mk hN
    have HK := Aside0.mk hK
    have q0 := (blk_cell hN.c.jn 0).trans rfl
    clear hN hK HAB HXB HCov HR4
    by_cases hn1 : sc.1.length = 1
    · obtain ⟨c, hc⟩ := List.length_eq_one_iff.1 hn1
      obtain ⟨r, rfl⟩ := har (by omega)
      have hrow := HN.out.c.row
      rw [hc] at hrow
      have q1 := (own2_cell hrow 1 _ ((flat_at [c] 0 c rfl).2)).1
      have q2 := (blk_cell HN.out.frm 0).trans rfl
      have q3 := (blk_cell HN.out.blw 0).trans rfl
      have q4 := (blk_cell HN.out.hh 0).trans rfl
      obtain ⟨MF, hMF⟩ : ∃ MF, max fr H = MF := ⟨_, rfl⟩
      have hmf := mxI_nat fr H
      rw [hMF] at hmf
      have hMFb : MF ≤ 1099511627776 := by omega
      obtain ⟨LN, hLN⟩ : ∃ LN, tb - MF = LN := ⟨_, rfl⟩
      have hln : mxI 0 ((tb : Int) - (MF : Int)) = (LN : Int) := by unfold mxI; split <;> omega
      have hwr := Aside0.mk (show IntKind.i64.wrap ((tb : Int) - (MF : Int)) = (tb : Int) - (MF : Int) from IntWalk.i64_in _ (by omega))
      have HAdd := Aside0.mk (add_is (w2.heap.size + 8) w2.heap.size Vj sj.1 65536 sj.2 LN c.2 W.drew (HN.out.j.kept fun _ _ _ => rfl) (by show _ ≤ W.heap.size; omega) (by omega) (fun p hp => by have := tot_mem hp; omega) (by omega) (by omega))
      have HE := Aside0.mk (show runsV l0 H fr tb = addP 65536 (sj.1, sj.2) LN c.2 from HV.out _ (by rw [if_pos hn1, hMF, hLN, hc]; rfl))
      rw [hn1] at q0
      clear hc hrow hMF hLN HV
      gi_wp2
      refine wpIn_wide.2 ?_
      replace hwr := hwr.out
      go_still_tail 11, (by kernel_rfl)
      change wpList _ _ _ _ _ W.drew
      go_wp2_with (go_at_call 46; refine HAdd.out.mono ?_; rintro e W1 ⟨⟨v, rfl⟩, Vj', hJ', hk'⟩)
      have hN1 := HN.out.lay (sj' := addP 65536 (sj.1, sj.2) LN c.2) hJ' (hk'.back (Nat.le_refl _) (fun _ _ => rfl) ⟨rfl, rfl, rfl⟩)
      have hKD := (hk'.keepsFrom (W := W.drew) (B := w2.heap.size + 1) (by exact HN.out.j.row) (by omega)).same D _ (by omega) HK.out rfl
      clear hJ' hk' hwr q0 q1 q2 q3 q4
      have HN2 := Aside0.mk hN1
      have HK2 := Aside0.mk (show W1.heap[D]? = some (.deferred (some [])) from hKD)
      obtain ⟨ao2, cap2, rfl, -⟩ := own2_shape hN1.j.row
      have z0 := (blk_cell hN1.j.jn 0).trans rfl
      have z2 := (blk_cell hN1.j.jn 2).trans rfl
      obtain ⟨fl, hfl⟩ : ∃ fl, (addP 65536 (sj.1, sj.2) LN c.2).2 = fl := ⟨_, rfl⟩

      rw [hfl] at z2
      have HFL := Aside0.mk hfl
      clear hN1 hfl
      cases fl with
      | true =>
        gi_wp2
        refine ⟨by simp, .inl ⟨_, _, rfl, run_takeDeferred HK2.out, ?_⟩⟩
        rw [HE.out]
        refine ⟨_, results_tmp2 rfl _ _ _, ?_⟩
        have hfin := (runs_end HN2.out HK2.out (by omega)).1 HFL.out
        simpa using hfin
      | false =>
        gi_wp2
        refine ⟨by simp, .inl ⟨_, _, rfl, run_takeDeferred HK2.out, ?_⟩⟩
        rw [HE.out]
        refine ⟨_, results_tmp2 rfl _ _ _, ?_⟩
        have hfin := (runs_end HN2.out HK2.out (by omega)).2 HFL.out
        simpa using hfin
    · have hn2 : ¬ ((sc.1.length : Int) = 1) := by omega
      have hn3 : ((sc.1.length : Int) == 1) = false := by rw [beq_eq_false_iff_ne]; omega
      have q2 := (blk_cell HN.out.frm 0).trans rfl
      have q4 := (blk_cell HN.out.hh 0).trans rfl
      have hk0 := k0_plain H fr
      obtain ⟨Q, hQ⟩ : ∃ Q, Int.tdiv ((fr : Int) - (H : Int)) (H : Int) = Q := ⟨_, rfl⟩
      obtain ⟨K0, hK0⟩ : ∃ K0, (fr - H) / H = K0 := ⟨_, rfl⟩
      have hK0b : K0 * H ≤ fr := by rw [← hK0]; exact Nat.le_trans (Nat.div_mul_le_self _ _) (Nat.sub_le _ _)
      have hQb : -1099511627776 ≤ Q ∧ Q ≤ 1099511627776 := by
        have h1 := Int.natAbs_tdiv ((fr : Int) - (H : Int)) (H : Int)
        have h2 := Nat.div_le_self ((fr : Int) - (H : Int)).natAbs (H : Int).natAbs
        rw [hQ] at h1
        have h3 : Q.natAbs ≤ ((fr : Int) - (H : Int)).natAbs := by rw [h1]; exact h2
        clear h1 h2
        omega
      obtain ⟨hQ1, hQ2⟩ := hQb
      rw [hQ, hK0] at hk0
      have HT := Aside0.mk (show runsV l0 H fr tb = turns H fr tb sc.1 (tb + 1) K0 sj from HV.out _ (by rw [if_neg hn1, hK0]))
      have HK0 := Aside0.mk hK0b
      have hHz : ¬ ((H : Int) = 0) := by omega
      have hHz2 : ((H : Int) == 0) = false := by rw [beq_eq_false_iff_ne]; omega
      clear hK0 hK0b HV
      gi_wp2
      gi_loopw [15] (fun v wr => ∃ (k f : Nat) (s' : List (Nat × Nat) × Bool) (Vj' : Value), v = .int .i64 (k : Nat) ∧ Aside0 (K0 ≤ k ∧ tb < f + k ∧ runsV l0 H fr tb = turns H fr tb sc.1 f k s') ∧ Aside0 (RnAt w w1.heap.size w2.heap.size fr tb H Vj' s' (.slice ao sc.1.length cap) sc wr) ∧
        Aside0 (s'.1.length ≤ 65536 ∧ tot s'.1 ≤ 2 * H + (k - K0) * (2 * H) ∧ k * H ≤ tb + H) ∧ Aside0 (wr.heap[D]? = some (.deferred (some []))) ∧ w2.heap.size + 8 ≤ wr.heap.size) (fun v _ => tb - (intOf v).toNat)
      case atStart => exact ⟨K0, tb + 1, sj, Vj, rfl, ⟨⟨Nat.le_refl _, by omega, HT.out⟩⟩, HN, ⟨⟨hj1, by rw [Nat.sub_self, Nat.zero_mul]; omega, by have := HK0.out; omega⟩⟩, HK, hWs⟩
      case round =>
        obtain ⟨k, f, s', Vj', rfl, HF, HN, HB, HKW, hws⟩ := hrel
        obtain ⟨KH, hKH⟩ : ∃ KH, k * H = KH := ⟨_, rfl⟩
        have hKHi : (k : Int) * (H : Int) = (KH : Int) := by rw [← hKH, Int.natCast_mul]
        have hKb : KH ≤ tb + H := by rw [← hKH]; exact HB.out.2.2
        have hkk : k ≤ KH := by rw [← hKH]; exact Nat.le_mul_of_pos_right _ hH1
        have q4 := (blk_cell HN.out.hh 0).trans rfl
        have q5 := (blk_cell HN.out.blw 0).trans rfl
        have q6 := (blk_cell HN.out.j.jn 2).trans rfl
        have q7 := (blk_cell HN.out.c.jn 0).trans rfl
        have q8 := (blk_cell HN.out.fn 0).trans rfl
        have HKH := Aside0.mk hKH
        obtain ⟨fl, hfl⟩ : ∃ fl, s'.2 = fl := ⟨_, rfl⟩
        rw [hfl] at q6
        have HFL := Aside0.mk hfl
        clear hKH hfl
        by_cases hcont : H + KH < tb ∧ fl = false
        · obtain ⟨hct, rfl⟩ := hcont
          have hct1 : (H : Int) + (KH : Int) < (tb : Int) := by omega
          gi_wp2
          have htk : tot sc.1 ≤ 2 * H := hc2
          have hts : tot s'.1 ≤ 2 * H + 2 * KH := by
            have h2 := HB.out.2.1
            have h3 : (k - K0) * (2 * H) ≤ k * (2 * H) := Nat.mul_le_mul_right _ (Nat.sub_le _ _)
            have h4 : k * (2 * H) = 2 * KH := by rw [← HKH.out, Nat.mul_left_comm]
            omega
          gi_loopw [16, 120] (fun va vi w5 => ∃ (i : Nat) (s2 : List (Nat × Nat) × Bool) (V2 : Value), vi = .int .i64 (i : Nat) ∧ i ≤ sc.1.length ∧ va = .int .i64 ((H + KH + tot (sc.1.take i) : Nat) : Int) ∧ Aside0 (layC fr tb (sc.1.drop i) (H + KH + tot (sc.1.take i)) s2 = layC fr tb sc.1 (H + KH) s') ∧
            Aside0 (RnAt w w1.heap.size w2.heap.size fr tb H V2 s2 (.slice ao sc.1.length cap) sc w5) ∧ Aside0 (s2.1.length ≤ 65536 ∧ tot s2.1 ≤ tot s'.1 + tot (sc.1.take i)) ∧ Aside0 (w5.heap[D]? = some (.deferred (some []))) ∧ w2.heap.size + 8 ≤ w5.heap.size) (fun _ vi _ => sc.1.length - (intOf vi).toNat)
          case atStart => exact ⟨0, s', Vj', rfl, Nat.zero_le _, by simp [tot], ⟨by simp [tot]⟩, HN, ⟨⟨HB.out.1, by omega⟩⟩, HKW, hws⟩
          case round =>
            obtain ⟨i, s2, V2, rfl, hi, rfl, HL, HN5, HB5, HKD, hws5⟩ := hrel
            have hti := tot_take_le sc.1 i
            by_cases hil : i < sc.1.length
            · obtain ⟨r, rfl⟩ := har (by omega)
              obtain ⟨p, hp⟩ : ∃ p, sc.1[i]? = some p := ⟨_, List.getElem?_eq_getElem hil⟩
              have hpe : sc.1[i] = p := by rw [List.getElem?_eq_getElem hil] at hp; exact Option.some.inj hp
              have hts1 := tot_take_succ sc.1 i hil
              rw [hpe] at hts1
              have hdr : sc.1.drop i = p :: sc.1.drop (i + 1) := by rw [List.drop_eq_getElem_cons hil, hpe]
              have hfl := flat_at sc.1 i p hp
              have y0 := (own2_cell HN5.out.c.row _ _ hfl.1).1
              have y1 := (own2_cell HN5.out.c.row _ _ hfl.2).1
              have y2 := (blk_cell HN5.out.fn 0).trans rfl
              have hpt : p.1 ≤ 2 * H := by have := tot_mem (List.mem_of_getElem? hp); omega
              have hts2 := tot_take_le sc.1 (i + 1)
              obtain ⟨T, hTe⟩ : ∃ T, tot (sc.1.take i) = T := ⟨_, rfl⟩
              rw [hTe] at hts1 hti HL HB5
              obtain ⟨pl, pp⟩ := p
              dsimp only at hts1 hfl y0 y1 hpt
              obtain ⟨AT, hAT⟩ : ∃ AT, H + KH + T = AT := ⟨_, rfl⟩
              rw [hTe, hAT]
              rw [hAT, hdr] at HL
              have hATb : AT ≤ 2199023255552 := by omega
              have hNx := HN5.out.kept (W' := wr.alloc (.cells #[.int .i64 (pl : Nat), .int .i64 (pp : Nat)] 55)) (fun k hk _ => Below.heap_alloc _ _ _ hk) (HN5.out.bel.alloc HN5.out.bel.size _)
              have HLay := Aside0.mk (lay_is (w2.heap.size + 8) w2.heap.size w.heap.size (w.heap.size + 1) V2 s2.1 65536 s2.2 AT pl pp fr tb _ hNx.j (by simp; omega) ((blk_cell hNx.frm 0).trans rfl) ((blk_cell hNx.blw 0).trans rfl)
                (by omega) (by omega) (by omega) (by omega) (fun q hq => by have := tot_mem hq; have := HB5.out.2; omega) (by have := HB5.out.1; omega) (by omega))
              have HNx := Aside0.mk hNx
              have hbox := heap_alloc_new wr (.cells #[.int .i64 (pl : Nat), .int .i64 (pp : Nat)] 55)
              have HBox := Aside0.mk hbox
              have y3 := (blk_cell hNx.fn 0).trans rfl
              have y4 := (blk_cell hbox 0).trans rfl
              have y5 := (blk_cell hbox 1).trans rfl
              have HTk := Aside0.mk (show H + KH + tot (sc.1.take (i + 1)) = AT + pl by omega)
              have HTb := Aside0.mk hts1
              have HNO := Aside0.mk (HN5.out.noRow (.cells #[.int .i64 (pl : Nat), .int .i64 (pp : Nat)] 55))
              have HKDx := Aside0.mk (blk_alloc HKD.out (.cells #[.int .i64 (pl : Nat), .int .i64 (pp : Nat)] 55))
              clear hNx hbox hdr hts1 hTe hAT hfl hp hpe hts2
              gi_wp2
              refine ⟨trivial, ?_⟩
              gi_at_call 45
              refine (callsIn_wide.2 HLay.out).mono ?_
              rintro e W6 ⟨⟨v6, rfl⟩, V6, hJ6, hk6⟩
              have hN6 := HNx.out.lay (sj' := layP 65536 fr tb (s2.1, s2.2) AT pl pp) hJ6 hk6
              have hbx6 := (hk6.same wr.heap.size (by simp) (by omega) (HNx.out.noRow_j HNO.out)).trans HBox.out
              have hKD6 := (hk6.keepsFrom (B := w2.heap.size + 1) HNx.out.j.row (by omega)).same D _ (by omega) HKDx.out rfl
              have hws6 : w2.heap.size + 8 ≤ W6.heap.size := by have := hk6.size; simp at this; omega
              have z4 := (blk_cell hbx6 0).trans rfl
              have HN6 := Aside0.mk hN6
              have HKD6 := Aside0.mk hKD6
              clear hN6 hbx6 hKD6 hJ6 hk6 y0 y1 y2 y3 y4 y5
              gi_wp2
              go_roundw
              case rel =>
                refine ⟨i + 1, layP 65536 fr tb (s2.1, s2.2) AT pl pp, V6, by go_num, by omega, by rw [HTk.out]; rfl, ⟨?_⟩, HN6, ⟨⟨layP_len _ _ _ _ _ _ _ HB5.out.1, ?_⟩⟩, HKD6, hws6⟩
                · rw [HTk.out, ← HL.out]; rfl
                · have h1 := layP_tot 65536 fr tb (s2.1, s2.2) AT pl pp
                  have h2 := HB5.out.2
                  rw [HTb.out]
                  dsimp only at h1
                  omega
              case measure => simp [intOf]; omega
            · obtain rfl : i = sc.1.length := by omega
              rw [List.take_length, List.drop_length] at HL
              rw [List.take_length] at HB5
              have HS := Aside0.mk (show s2 = layC fr tb sc.1 (H + KH) s' from HL.out)
              have hkb : k + 1 ≤ 1099511627776 := by omega
              gi_wp2
              go_roundw
              case rel =>
                obtain ⟨f, rfl⟩ : ∃ f', f = f' + 1 := by
                  cases f with
                  | zero => have := HF.out.2.1; omega
                  | succ f => exact ⟨f, rfl⟩
                refine ⟨k + 1, f, s2, V2, by go_num, ⟨⟨by have := HF.out.1; omega, by have := HF.out.2.1; omega, ?_⟩⟩, HN5, ⟨⟨HB5.out.1, ?_, ?_⟩⟩, HKD, hws5⟩
                · rw [HF.out.2.2, HS.out]
                  show (if H + k * H < tb ∧ s'.2 = false then _ else _) = _
                  rw [if_pos ⟨by rw [HKH.out]; exact hct, HFL.out⟩, HKH.out]
                · have h1 := HB5.out.2
                  have h2 := HB.out.2.1
                  have h3 : k + 1 - K0 = k - K0 + 1 := by have := HF.out.1; omega
                  rw [h3, Nat.add_mul, Nat.one_mul]
                  omega
                · rw [Nat.add_mul, Nat.one_mul, HKH.out]; omega
              case measure => simp [intOf]; omega
        · have HE := Aside0.mk (show runsV l0 H fr tb = s' by
            rw [HF.out.2.2]
            cases f with
            | zero => rfl
            | succ f => unfold turns; rw [if_neg (fun h => hcont ⟨by rw [← HKH.out]; exact h.1, by rw [← HFL.out]; exact h.2⟩)])
          obtain ⟨ao2, cap2, rfl, -⟩ := own2_shape HN.out.j.row
          have z0 := (blk_cell HN.out.j.jn 0).trans rfl
          clear q7 q8
          cases fl with
          | true =>
            by_cases hct : H + KH < tb
            · have hct1 : (H : Int) + (KH : Int) < (tb : Int) := by omega
              gi_wp2
              refine ⟨by simp, .inl ⟨_, _, rfl, run_takeDeferred HKW.out, ?_⟩⟩
              rw [HE.out]
              refine ⟨_, results_tmp2 rfl _ _ _, ?_⟩
              have hfin := (runs_end HN.out HKW.out (by omega)).1 HFL.out
              simpa using hfin
            · have hct1 : ¬ ((H : Int) + (KH : Int) < (tb : Int)) := by omega
              gi_wp2
              refine ⟨by simp, .inl ⟨_, _, rfl, run_takeDeferred HKW.out, ?_⟩⟩
              rw [HE.out]
              refine ⟨_, results_tmp2 rfl _ _ _, ?_⟩
              have hfin := (runs_end HN.out HKW.out (by omega)).1 HFL.out
              simpa using hfin
          | false =>
            have hct : ¬ (H + KH < tb) := fun h => hcont ⟨h, rfl⟩
            have hct1 : ¬ ((H : Int) + (KH : Int) < (tb : Int)) := by omega
            gi_wp2
            refine ⟨by simp, .inl ⟨_, _, rfl, run_takeDeferred HKW.out, ?_⟩⟩
            rw [HE.out]
            refine ⟨_, results_tmp2 rfl _ _ _, ?_⟩
            have hfin := (runs_end HN.out HKW.out (by omega)).2 HFL.out
            simpa using hfin
end Go.Proofs.YtmphhgcmmcomjaaDoor.B
namespace Go.Proofs.YtmphhgcmmcomjaaDoor.B
open Go.RowKit Go.Shelf Go.Proofs.YtmphhgcmmcomjaaDoorW.PrintWords Go.Proofs.YtmphhgcmmcomjaaDoorW.PrintLast Go.Proofs.YtmphhgcmmcomjaaDoorW.PrintMore

def toS (p : Nat × Nat) : S55 := ⟨(p.1 : Nat), (p.2 : Nat)⟩
theorem flat_drop : ∀ (l : List (Nat × Nat)) (j : Nat) (p : Nat × Nat), l[j]? = some p → ((flat l).drop (j * 2)).take 2 = [.int .i64 (p.1 : Nat), .int .i64 (p.2 : Nat)]
  | [], j, p, h => by simp at h
  | q :: l, 0, p, h => by
    simp at h; subst h; rfl
  | q :: l, j + 1, p, h => by
    have := flat_drop l j p (by simpa using h)
    rw [show (j + 1) * 2 = j * 2 + 1 + 1 by omega]
    exact this
theorem slots_R {w : World} {base : Nat} {V : Value} {l : List (Nat × Nat)} (h : w.ownsRow base 55 2 V l.length (flat l)) : Kd.R k55 55 w base (fun _ => True) V (l.map toS) := by
  refine ⟨fun _ _ => trivial, flat l, by rw [List.length_map]; exact h, by rw [flat_length, List.length_map]; rfl, fun j p hp => ?_⟩
  rw [List.getElem?_map] at hp
  cases e : l[j]? with
  | none => rw [e] at hp; cases hp
  | some q =>
    rw [e] at hp
    cases hp
    have := flat_drop l j q e
    show k55.M _ _ _ _ (((flat l).drop (j * 2)).take 2)
    rw [this]
    exact k55_mkM _ _ _ (toS q)

theorem err2_world {w w1 : World} {x y : Int} (hb : Below ((w.alloc (.cells #[.int .i64 x] 3)).alloc (.cells #[.int .i64 y] 3)).heap.size ((w.alloc (.cells #[.int .i64 x] 3)).alloc (.cells #[.int .i64 y] 3)) w1) (h : Int) :
    (w1.alloc (.cells #[.int .i64 h] 3)).cell? ⟨w.heap.size, 0, none⟩ = some (.int .i64 x) ∧ (w1.alloc (.cells #[.int .i64 h] 3)).cell? ⟨w.heap.size + 1, 0, none⟩ = some (.int .i64 y) ∧ Below w.heap.size w (w1.alloc (.cells #[.int .i64 h] 3)) := by
  obtain ⟨k0, k1, hB⟩ := two_cells hb
  exact ⟨(blk_cell (blk_alloc k0 _) 0).trans rfl, (blk_cell (blk_alloc k1 _) 0).trans rfl, hB.alloc hB.size _⟩

/-- What Runs tells. -/
def occ_Runs.f (l : List S30) (a b : Int) : Option (List S55 × Int) :=
  some (if (hypS lcmF l).2 = 0 then (if spanB a b = false then ([], 2) else if (runsV l (hyp l) a.toNat b.toNat).2 = true then ([], 1) else ((runsV l (hyp l) a.toNat b.toNat).1.map toS, 0)) else ([], (hypS lcmF l).2))

set_option maxHeartbeats 4000000 in
set_option maxRecDepth 100000 in
theorem occ_Runs.calls (A0 : Option Addr) (c0 : Nat) (l0 : List S30) (a1 a2 : Int) (r1 : List S55) (r2 : Int) (w : World) (hr0 : Kd.C k30 w A0 l0.length l0) (hc0 : l0.length ≤ c0) (hG : GH w) (h : occ_Runs.f l0 a1 a2 = some (r1, r2)) :
    Calls Tryd.prog 24 #[.slice A0 l0.length c0, .int .i64 a1, .int .i64 a2] w fun e w' => ∃ v0_ : Value, e = .returned (.tuple #[v0_, .int .i64 r2]) ∧ Kd.R k55 55 w' w.heap.size (fun _ => True) v0_ r1 ∧ Below w.heap.size w w' := by
  have HH := Aside0.mk (fun (w1 : World) (hb : Below w.heap.size w w1) => check_Hyper.calls A0 c0 l0 (hypS lcmF l0).1 (hypS lcmF l0).2 w1 (Kd.C_below hr0 hb) hc0 (GH_below hG hb) rfl)
  have HSp := Aside0.mk (fun w => occ_span.calls a1 a2 (spanB a1 a2) w (span_plain a1 a2))
  unfold occ_Runs.f at h
  by_cases he : (hypS lcmF l0).2 = 0
  · rw [if_pos he] at h
    obtain ⟨sp, hsp⟩ : ∃ sp, spanB a1 a2 = sp := ⟨_, rfl⟩
    rw [hsp] at h HSp
    cases sp with
    | false =>
      rw [if_pos rfl] at h
      obtain ⟨rfl, rfl⟩ : [] = r1 ∧ 2 = r2 := by simpa using h
      rw [he] at HH
      clear h he hsp hr0 hG
      go_enter Tryd.func24, Tryd.ntmps24
      go_wp2_with (first | (go_at_call 10; refine (HH.out _ ?hbb).mono ?_; (case hbb => exact ((Below.refl _ w).alloc (Nat.le_refl _) _).alloc (by simp) _); rintro e w1 ⟨rfl, hb1⟩; obtain ⟨g0, g1, gB⟩ := err2_world hb1 (hypS lcmF l0).1; have GB := Aside0.mk gB; clear gB hb1) | (go_at_call 36; refine (HSp.out _).mono ?_; rintro e w2 ⟨rfl, hd⟩))
      go_ret2
      exact ⟨_, rfl, Kd.R_nil _ _ _ _ _, GB.out.trans (hd.below.mono GB.out.size)⟩
    | true =>
      rw [if_neg (by simp)] at h
      obtain ⟨hbd, hok, hH1, hH2, hHe, hOk⟩ := ok_of_hyp l0 he
      have hb3 : 0 ≤ a1 ∧ a1 ≤ a2 ∧ a2 ≤ 1099511627776 := by unfold spanB at hsp; simp only [Bool.and_eq_true, decide_eq_true_eq] at hsp; omega
      obtain ⟨F, rfl⟩ : ∃ F : Nat, a1 = (F : Int) := ⟨a1.toNat, by omega⟩
      obtain ⟨E, rfl⟩ : ∃ E : Nat, a2 = (E : Int) := ⟨a2.toNat, by omega⟩
      simp only [Int.toNat_natCast, Option.some.injEq] at h
      rw [he, hHe] at HH
      refine (runs_is A0 c0 l0 (hyp l0) F E w ⟨hr0⟩ ⟨hok⟩ ⟨hbd⟩ (by omega) (by omega) hH2 hH1 HH HSp).mono ?_
      rintro e w' ⟨⟨V, rfl, hV⟩, hB⟩
      by_cases hf : (runsV l0 (hyp l0) F E).2 = true
      · rw [if_pos hf] at h
        rw [if_pos hf, if_pos hf] at hV
        obtain ⟨rfl, rfl⟩ : [] = r1 ∧ 1 = r2 := by simpa using h
        exact ⟨V, by rw [if_pos hf], slots_R (l := []) hV, hB⟩
      · rw [if_neg hf] at h
        rw [if_neg hf, if_neg hf] at hV
        obtain ⟨rfl, rfl⟩ : (runsV l0 (hyp l0) F E).1.map toS = r1 ∧ 0 = r2 := by simpa using h
        exact ⟨V, by rw [if_neg hf], slots_R hV, hB⟩
  · rw [if_neg he] at h
    obtain ⟨rfl, rfl⟩ : [] = r1 ∧ (hypS lcmF l0).2 = r2 := by simpa using h
    clear HSp
    go_enter Tryd.func24, Tryd.ntmps24
    go_wp2_with (go_at_call 10; refine (HH.out _ ?hbb).mono ?_; (case hbb => exact ((Below.refl _ w).alloc (Nat.le_refl _) _).alloc (by simp) _); rintro e w1 ⟨rfl, hb1⟩; obtain ⟨g0, g1, gB⟩ := err2_world hb1 (hypS lcmF l0).1; have GB := Aside0.mk gB; clear gB hb1)
    go_ret2
    exact ⟨_, rfl, Kd.R_nil _ _ _ _ _, GB.out⟩
end Go.Proofs.YtmphhgcmmcomjaaDoor.B
