/- Proved: the contract of the law's fitted. Conditions: bounds of the lengths. -/
import Derived.Test.YtceeoifbimlkdaaHFitMath
import Derived.Test.YtceeoifbimlkdaaHGetList
namespace Go.Proofs.Ytceeoifbimlkdaa.B
open Go.RowKit Go.Proofs.YtceeoifbimlkdaaW.PrintWords Go.Proofs.YtceeoifbimlkdaaW.PrintLast Go.Proofs.YtceeoifbimlkdaaW.PrintMore

section
variable {P : Program}
theorem results_c1 {fn : Func} {p : Tmp} {ty : TypeId} (h : fn.results = #[.cell p ty]) (tmps : Array Value) (w : World) (g : Nat) (t : TypeId) (cs : Array Value) (fr : Nat × Nat) (d : TypeDesc)
    (hp : tmps.getD p undef = .pointer (some ⟨g, 0, none⟩)) (hg : w.heap[g]? = some (.cells cs t fr))
    (hu : P.underlying ty = some d) (hd : (match d with | .struct _ | .array _ _ => true | _ => false) = true) (hi : (P.info? ty).map (·.size) = some cs.size) :
    (results fn tmps).run P w = .ok (.agg cs) w := by
  have hp' : tmps[p]?.getD undef = .pointer (some ⟨g, 0, none⟩) := by simpa using hp
  simp [results, h, hp', asAddr, run_loadVar_row w g t ty cs fr d hg hu hd hi]
end
theorem heap_two (W : World) (A B : Obj) : ((W.alloc A).alloc B).heap[W.heap.size + 1]? = some B := by
  have h := heap_alloc_new (W.alloc A) B
  simpa using h
/-- What fitted leaves: the call's list is the one that came in, or lies in new memory. -/
def FtPost (W : World) (A1 : Option Addr) (c1 : Nat) (A2 : Option Addr) (c2 : Nat) (o f : OpL) (e : Ending) (w' : World) : Prop :=
  ∃ (A3 : Option Addr) (c3 : Nat), e = .returned (.agg #[.int .i64 f.kind, .int .i64 f.n, .int .i64 f.wide, .bool f.flag, .slice A1 o.bytes.length c1, .slice A3 o.list.length c3, .int .i64 f.most]) ∧ Below W.heap.size W w' ∧
    ((A3 = A2 ∧ c3 = c2 ∧ f.list = o.list) ∨ (Kd.F (Kd.int .i64) w' (fun k => W.heap.size ≤ k) A3 f.list.length f.list ∧ f.list.length ≤ c3))
set_option maxHeartbeats 8000000 in
set_option maxRecDepth 100000 in
theorem fitted_is (o : OpL) (A1 : Option Addr) (c1 : Nat) (A2 : Option Addr) (c2 : Nat) (W : World) (hr2 : Kd.C (Kd.int .i64) W A2 o.list.length o.list) (hl : o.list.length ≤ 1048576) :
    Calls Try.prog 60 #[.agg #[.int .i64 o.kind, .int .i64 o.n, .int .i64 o.wide, .bool o.flag, .slice A1 o.bytes.length c1, .slice A2 o.list.length c2, .int .i64 o.most]] W (FtPost W A1 c1 A2 c2 o (fit o)) := by
  have hu58 := Try.underlying58
  obtain ⟨kind, n, wide, flag, bytes, list, most⟩ := o
  dsimp only at hr2 hl ⊢
  obtain ⟨W1, hW1⟩ : ∃ W1, W.alloc (.cells #[.int .i64 kind, .int .i64 n, .int .i64 wide, .bool flag, .slice A1 bytes.length c1, .slice A2 list.length c2, .int .i64 most] 58) = W1 := ⟨_, rfl⟩
  have hB : Below W.heap.size W W1 := by rw [← hW1]; exact (Below.refl _ _).alloc (Nat.le_refl _) _
  have hbx : W1.heap[W.heap.size]? = some (.cells #[.int .i64 kind, .int .i64 n, .int .i64 wide, .bool flag, .slice A1 bytes.length c1, .slice A2 list.length c2, .int .i64 most] 58 (0, 0)) := by rw [← hW1]; exact heap_alloc_new _ _
  have HB := Aside0.mk hB
  have HBX := Aside0.mk hbx
  have HR2 := Aside0.mk hr2
  have hs1 : W1.heap.size = W.heap.size + 1 := by rw [← hW1]; simp
  have HS1 := Aside0.mk hs1
  obtain ⟨sf, hsf⟩ : ∃ sf, fit ⟨kind, n, wide, flag, bytes, list, most⟩ = sf := ⟨_, rfl⟩
  rw [hsf]
  clear hbx hr2 hs1
  by_cases k1 : kind = 1
  · subst k1
    have e : (⟨1, n % 256, wide, flag, bytes, list, most⟩ : OpL) = sf := by rw [← hsf]; unfold fit; simp
    subst e
    obtain ⟨N1, hN1⟩ : ∃ N, bytes.length = N := ⟨_, rfl⟩
    obtain ⟨N2, hN2⟩ : ∃ N, list.length = N := ⟨_, rfl⟩
    rw [hN1, hN2] at hW1 HBX
    unfold FtPost
    dsimp only
    rw [hN1, hN2]
    have q1 := (blk_cell HBX.out 1).trans (show _ = some (.int .i64 n) from rfl)
    have qf := blk_frozen HBX.out 1
    have hbs := blk_put HBX.out 1 (.int .i64 (Go.bits .and .i64 n 255)) rfl
    have z0 := (blk_cell hbs 0).trans (show _ = some (.int .i64 1) from rfl)
    have z1 := (blk_cell hbs 1).trans (show _ = some (.int .i64 (Go.bits .and .i64 n 255)) from rfl)
    have z2 := (blk_cell hbs 2).trans (show _ = some (.int .i64 wide) from rfl)
    have z3 := (blk_cell hbs 3).trans (show _ = some (.bool flag) from rfl)
    have z4 := (blk_cell hbs 4).trans (show _ = some (.slice A1 N1 c1) from rfl)
    have z5 := (blk_cell hbs 5).trans (show _ = some (.slice A2 N2 c2) from rfl)
    have z6 := (blk_cell hbs 6).trans (show _ = some (.int .i64 most) from rfl)
    have HE := Aside0.mk (and8 n)
    subst hW1
    clear hB hsf hl hN1 hN2 hbs
    go_enter Try.func60, Try.ntmps60
    go_wp2
    refine bodyPost_ret (results_c1 (p := 2) (ty := 58) rfl _ _ (W.heap.size + 1) 58 _ (0, 0) _ rfl (heap_two _ _ _) hu58 rfl (by kernel_rfl)) rfl ⟨A2, c2, by rw [← HE.out], ((Below.refl _ W).alloc (Nat.le_refl _) _).alloc (by simp) _, .inl ⟨rfl, rfl, trivial⟩⟩
  by_cases k2 : kind = 2
  · subst k2
    have e : (⟨2, n % 65536, wide, flag, bytes, list, most⟩ : OpL) = sf := by rw [← hsf]; unfold fit; simp
    subst e
    obtain ⟨N1, hN1⟩ : ∃ N, bytes.length = N := ⟨_, rfl⟩
    obtain ⟨N2, hN2⟩ : ∃ N, list.length = N := ⟨_, rfl⟩
    rw [hN1, hN2] at hW1 HBX
    unfold FtPost
    dsimp only
    rw [hN1, hN2]
    have q1 := (blk_cell HBX.out 1).trans (show _ = some (.int .i64 n) from rfl)
    have qf := blk_frozen HBX.out 1
    have hbs := blk_put HBX.out 1 (.int .i64 (Go.bits .and .i64 n 65535)) rfl
    have z0 := (blk_cell hbs 0).trans (show _ = some (.int .i64 2) from rfl)
    have z1 := (blk_cell hbs 1).trans (show _ = some (.int .i64 (Go.bits .and .i64 n 65535)) from rfl)
    have z2 := (blk_cell hbs 2).trans (show _ = some (.int .i64 wide) from rfl)
    have z3 := (blk_cell hbs 3).trans (show _ = some (.bool flag) from rfl)
    have z4 := (blk_cell hbs 4).trans (show _ = some (.slice A1 N1 c1) from rfl)
    have z5 := (blk_cell hbs 5).trans (show _ = some (.slice A2 N2 c2) from rfl)
    have z6 := (blk_cell hbs 6).trans (show _ = some (.int .i64 most) from rfl)
    have HE := Aside0.mk (and16 n)
    subst hW1
    clear hB hsf hl hN1 hN2 hbs
    go_enter Try.func60, Try.ntmps60
    go_wp2
    refine bodyPost_ret (results_c1 (p := 2) (ty := 58) rfl _ _ (W.heap.size + 1) 58 _ (0, 0) _ rfl (heap_two _ _ _) hu58 rfl (by kernel_rfl)) rfl ⟨A2, c2, by rw [← HE.out], ((Below.refl _ W).alloc (Nat.le_refl _) _).alloc (by simp) _, .inl ⟨rfl, rfl, trivial⟩⟩
  by_cases k3 : kind = 3
  · subst k3
    have e : (⟨3, n % 4294967296, wide, flag, bytes, list, most⟩ : OpL) = sf := by rw [← hsf]; unfold fit; simp
    subst e
    obtain ⟨N1, hN1⟩ : ∃ N, bytes.length = N := ⟨_, rfl⟩
    obtain ⟨N2, hN2⟩ : ∃ N, list.length = N := ⟨_, rfl⟩
    rw [hN1, hN2] at hW1 HBX
    unfold FtPost
    dsimp only
    rw [hN1, hN2]
    have q1 := (blk_cell HBX.out 1).trans (show _ = some (.int .i64 n) from rfl)
    have qf := blk_frozen HBX.out 1
    have hbs := blk_put HBX.out 1 (.int .i64 (Go.bits .and .i64 n 4294967295)) rfl
    have z0 := (blk_cell hbs 0).trans (show _ = some (.int .i64 3) from rfl)
    have z1 := (blk_cell hbs 1).trans (show _ = some (.int .i64 (Go.bits .and .i64 n 4294967295)) from rfl)
    have z2 := (blk_cell hbs 2).trans (show _ = some (.int .i64 wide) from rfl)
    have z3 := (blk_cell hbs 3).trans (show _ = some (.bool flag) from rfl)
    have z4 := (blk_cell hbs 4).trans (show _ = some (.slice A1 N1 c1) from rfl)
    have z5 := (blk_cell hbs 5).trans (show _ = some (.slice A2 N2 c2) from rfl)
    have z6 := (blk_cell hbs 6).trans (show _ = some (.int .i64 most) from rfl)
    have HE := Aside0.mk (and32 n)
    subst hW1
    clear hB hsf hl hN1 hN2 hbs
    go_enter Try.func60, Try.ntmps60
    go_wp2
    refine bodyPost_ret (results_c1 (p := 2) (ty := 58) rfl _ _ (W.heap.size + 1) 58 _ (0, 0) _ rfl (heap_two _ _ _) hu58 rfl (by kernel_rfl)) rfl ⟨A2, c2, by rw [← HE.out], ((Below.refl _ W).alloc (Nat.le_refl _) _).alloc (by simp) _, .inl ⟨rfl, rfl, trivial⟩⟩
  by_cases k7 : kind = 7
  · subst k7
    have e : (⟨7, n, wide, flag, bytes, list.map (· % 65536), (list.length : Int) + most % 8⟩ : OpL) = sf := by rw [← hsf]; unfold fit; simp
    subst e
    obtain ⟨N1, hN1⟩ : ∃ N, bytes.length = N := ⟨_, rfl⟩
    obtain ⟨N2, hN2⟩ : ∃ N, list.length = N := ⟨_, rfl⟩
    rw [hN1, hN2] at hW1 HBX
    unfold FtPost
    dsimp only
    rw [hN1, hN2]
    have q5 := (blk_cell HBX.out 5).trans (show _ = some (.slice A2 N2 c2) from rfl)
    rw [hN2] at hl HR2
    have HN2 := Aside0.mk hN2
    subst hW1
    clear hB hsf hN1 hN2
    go_enter Try.func60, Try.ntmps60
    go_wp2
    go_loopw [3, 4] (fun vl vi wr => ∃ i : Nat, vi = .int .i64 (i : Nat) ∧ i ≤ N2 ∧ Aside0 (Kd.R (Kd.int .i64) 3 wr (W.heap.size + 2) (fun _ => True) vl ((list.take i).map (· % 65536))) ∧
      Aside0 (wr.heap[W.heap.size]? = some (.cells #[.int .i64 7, .int .i64 n, .int .i64 wide, .bool flag, .slice A1 N1 c1, .slice A2 N2 c2, .int .i64 most] 58 (0, 0))) ∧
      Aside0 (wr.heap[W.heap.size + 1]? = some (.cells #[.int .i64 0, .int .i64 0, .int .i64 0, .bool false, .slice none 0 0, .slice none 0 0, .int .i64 0] 58 (0, 0))) ∧ Aside0 (Below W.heap.size W wr) ∧ Aside0 (W.heap.size + 2 ≤ wr.heap.size)) (fun _ vi _ => N2 - (intOf vi).toNat)
    case atStart => exact ⟨0, rfl, Nat.zero_le _, ⟨Kd.R_nil _ _ _ _ _⟩, ⟨blk_alloc (heap_alloc_new _ _) _⟩, ⟨heap_two _ _ _⟩, ⟨((Below.refl _ W).alloc (Nat.le_refl _) _).alloc (by simp) _⟩, ⟨by simp⟩⟩
    case round =>
      clear q5
      obtain ⟨i, rfl, hi, HR, HX, HY, HBW, HZ⟩ := hrel
      have q5 := (blk_cell HX.out 5).trans (show _ = some (.slice A2 N2 c2) from rfl)
      by_cases hlt : i < N2
      · obtain ⟨ad, e, hc⟩ := Kd.at_int (Kd.C_below HR2.out HBW.out) (i : Int) (by omega) (by omega)
        cases e
        rw [Int.toNat_natCast] at hc
        obtain ⟨y, hy⟩ : ∃ y : List Int, y = (list.take (i + 1)).map (· % 65536) := ⟨_, rfl⟩
        have Ny := Aside0.mk (show (list.take i).map (· % 65536) ++ [Go.bits .and .i64 (rd list (i : Int)) 65535] = y by
          have hil : i < list.length := by have := HN2.out; omega
          rw [hy, List.take_succ_eq_append_getElem hil, List.map_append, and16]
          unfold rd
          rw [Int.toNat_natCast, List.getD_eq_getElem?_getD, List.getElem?_eq_getElem hil]; rfl)
        have Hy := Aside0.mk hy
        have LA := Aside0.mk (show ((list.take i).map (· % 65536)).length ≤ N2 by have := HN2.out; rw [List.length_map, List.length_take]; omega)
        clear hy
        generalize (list.take i).map (· % 65536) = acc at *
        generalize rd list (i : Int) = X0 at *
        go_wp2_with ((with_reducible refine gate_builtin (b := .append) (xs := #[.tmp 34, .tmp 41]) rfl ?_); at_builtin; refine Kd.R_append (Kd.int .i64) (w0 := wr) (W.heap.size + 2) rfl (.tmp 34) (.tmp 41) 56 3 (.int .i64 0) 8 rfl Try.underlying56 infoInt rfl (by decide) (by omega) _ acc (Go.bits .and .i64 X0 65535) [.int .i64 (Go.bits .and .i64 X0 65535)] (fun _ => True) (fun _ => False) rfl ?aX ?aP (fun _ hk => hk.elim) ?aF ?aO ?aB ?aS ?aL ?_; (case aX => first | rfl | (rw [World.size_alloc]; rfl)); (case aP => exact rfl); (case aB => exact Below.refl _ _); (case aF => exact (fun _ _ => trivial)); (case aO => exact HR.out); (case aS => exact HZ.out); (case aL => have := LA.out; omega); intro v5 w5 ho hb hg5 hat; rw [Ny.out] at ho; have HO5 := Aside0.mk ho; have HX5 := Aside0.mk ((hb.block _ (by omega)).trans HX.out); have HY5 := Aside0.mk ((hb.block _ (by omega)).trans HY.out); have HB5 := Aside0.mk (HBW.out.trans (hb.mono (by omega))); have HZ5 := Aside0.mk (Nat.le_trans HZ.out hb.size); clear ho hb hg5 hat)
        go_roundw
        case rel => exact ⟨i + 1, by go_num, by omega, ⟨by rw [← Hy.out]; exact HO5.out⟩, HX5, HY5, HB5, HZ5⟩
        case measure => simp [intOf]; omega
      · obtain rfl : i = N2 := by omega
        have hlen : ((list.take i).map (· % 65536)).length = i := by have := HN2.out; rw [List.length_map, List.length_take]; omega
        have hfull : (list.take i).map (· % 65536) = list.map (· % 65536) := by rw [List.take_of_length_le (by have := HN2.out; omega)]
        rw [hfull] at HR hlen
        obtain ⟨A9, c9, rfl⟩ := Kd.R_slice HR.out
        rw [hlen] at HR ⊢
        have HM := Aside0.mk (and3 most)
        have HL := Aside0.mk hlen
        clear hfull hlen
        have qf5 := blk_frozen HX.out 5
        have hb1 := blk_put HX.out 5 (.slice A9 i c9) rfl
        have z6 := (blk_cell hb1 6).trans (show _ = some (.int .i64 most) from rfl)
        have qf6 := blk_frozen hb1 6
        have hb2 := blk_put hb1 6 (.int .i64 (wrap64 ((i : Int) + Go.bits .and .i64 most 7))) rfl
        have y0 := (blk_cell hb2 0).trans (show _ = some (.int .i64 7) from rfl)
        have y1 := (blk_cell hb2 1).trans (show _ = some (.int .i64 n) from rfl)
        have y2 := (blk_cell hb2 2).trans (show _ = some (.int .i64 wide) from rfl)
        have y3 := (blk_cell hb2 3).trans (show _ = some (.bool flag) from rfl)
        have y4 := (blk_cell hb2 4).trans (show _ = some (.slice A1 N1 c1) from rfl)
        have y5 := (blk_cell hb2 5).trans (show _ = some (.slice A9 i c9) from rfl)
        have y6 := (blk_cell hb2 6).trans (show _ = some (.int .i64 (wrap64 ((i : Int) + Go.bits .and .i64 most 7))) from rfl)
        have HY2 := blk_far (blk_far HY.out (p := ⟨W.heap.size, 5, none⟩) (by simp) (.slice A9 i c9)) (p := ⟨W.heap.size, 6, none⟩) (by simp) (.int .i64 (wrap64 ((i : Int) + Go.bits .and .i64 most 7)))
        have HY3 := Aside0.mk HY2
        have yf0 := blk_frozen HY2 0
        have yc0 := (blk_cell HY2 0).trans (show _ = some (.int .i64 0) from rfl)
        have yf1 := blk_frozen HY2 1
        have yc1 := (blk_cell HY2 1).trans (show _ = some (.int .i64 0) from rfl)
        have yf2 := blk_frozen HY2 2
        have yc2 := (blk_cell HY2 2).trans (show _ = some (.int .i64 0) from rfl)
        have yf3 := blk_frozen HY2 3
        have yc3 := (blk_cell HY2 3).trans (show _ = some (.bool false) from rfl)
        have yf4 := blk_frozen HY2 4
        have yc4 := (blk_cell HY2 4).trans (show _ = some (.slice none 0 0) from rfl)
        have yf5 := blk_frozen HY2 5
        have yc5 := (blk_cell HY2 5).trans (show _ = some (.slice none 0 0) from rfl)
        have yf6 := blk_frozen HY2 6
        have yc6 := (blk_cell HY2 6).trans (show _ = some (.int .i64 0) from rfl)
        have HB3 := Aside0.mk ((HBW.out.setCell (p := ⟨W.heap.size, 5, none⟩) (Nat.le_refl _) (.slice A9 i c9)).setCell (p := ⟨W.heap.size, 6, none⟩) (Nat.le_refl _) (.int .i64 (wrap64 ((i : Int) + Go.bits .and .i64 most 7))))
        obtain ⟨w2, hw2⟩ : ∃ w2, (wr.setCell ⟨W.heap.size, 5, none⟩ (.slice A9 i c9)).setCell ⟨W.heap.size, 6, none⟩ (.int .i64 (wrap64 ((i : Int) + Go.bits .and .i64 most 7))) = w2 := ⟨_, rfl⟩
        rw [hw2] at y0 y1 y2 y3 y4 y5 y6 yf0 yc0 yf1 yc1 yf2 yc2 yf3 yc3 yf4 yc4 yf5 yc5 yf6 yc6 HY3 HB3
        have HF2 := Aside0.mk (show Kd.F (Kd.int .i64) w2 (fun k => W.heap.size + 2 ≤ k) A9 (list.map (· % 65536)).length (list.map (· % 65536)) from by
          rw [← hw2, HL.out]
          exact Kd.F_far (p := ⟨W.heap.size, 6, none⟩) (Kd.F_far (p := ⟨W.heap.size, 5, none⟩) (by have h := rowI_F HR.out; exact h) (fun k hk => by dsimp only; omega) _) (fun k hk => by dsimp only; omega) _)
        have HLE := Aside0.mk (show (list.map (· % 65536)).length ≤ c9 by rw [HL.out]; exact (Kd.R_reads' HR.out).2.1)
        rw [List.length_map] at HF2 HLE
        have HW8 := Aside0.mk (show wrap64 ((i : Int) + Go.bits .and .i64 most 7) = (i : Int) + most % 8 by rw [HM.out]; unfold wrap64; omega)
        clear hb1 hb2 HY2
        go_wp2
        refine bodyPost_ret (results_c1 (p := 2) (ty := 58) rfl _ _ (W.heap.size + 1) 58 _ (0, 0) _ rfl (blk_put (blk_put (blk_put (blk_put (blk_put (blk_put (blk_put HY3.out 0 (.int .i64 7) rfl) 1 (.int .i64 n) rfl) 2 (.int .i64 wide) rfl) 3 (.bool flag) rfl) 4 (.slice A1 N1 c1) rfl) 5 (.slice A9 i c9) rfl) 6 (.int .i64 (wrap64 ((i : Int) + Go.bits .and .i64 most 7))) rfl) hu58 rfl (by kernel_rfl)) rfl ⟨A9, c9, by rw [← HW8.out]; rfl, (((((((HB3.out.setCell (p := ⟨W.heap.size + 1, 0, none⟩) (by dsimp only; omega) (.int .i64 7)).setCell (p := ⟨W.heap.size + 1, 1, none⟩) (by dsimp only; omega) (.int .i64 n)).setCell (p := ⟨W.heap.size + 1, 2, none⟩) (by dsimp only; omega) (.int .i64 wide)).setCell (p := ⟨W.heap.size + 1, 3, none⟩) (by dsimp only; omega) (.bool flag)).setCell (p := ⟨W.heap.size + 1, 4, none⟩) (by dsimp only; omega) (.slice A1 N1 c1)).setCell (p := ⟨W.heap.size + 1, 5, none⟩) (by dsimp only; omega) (.slice A9 i c9)).setCell (p := ⟨W.heap.size + 1, 6, none⟩) (by dsimp only; omega) (.int .i64 (wrap64 ((i : Int) + Go.bits .and .i64 most 7)))), .inr ⟨?_, by first | exact HLE.out | (rw [List.length_map]; exact HLE.out)⟩⟩
        first | rw [List.length_map] | skip
        exact Kd.F_mono (Kd.F_far (p := ⟨W.heap.size + 1, 6, none⟩) (Kd.F_far (p := ⟨W.heap.size + 1, 5, none⟩) (Kd.F_far (p := ⟨W.heap.size + 1, 4, none⟩) (Kd.F_far (p := ⟨W.heap.size + 1, 3, none⟩) (Kd.F_far (p := ⟨W.heap.size + 1, 2, none⟩) (Kd.F_far (p := ⟨W.heap.size + 1, 1, none⟩) (Kd.F_far (p := ⟨W.heap.size + 1, 0, none⟩) HF2.out (fun k hk => by dsimp only; omega) (.int .i64 7)) (fun k hk => by dsimp only; omega) (.int .i64 n)) (fun k hk => by dsimp only; omega) (.int .i64 wide)) (fun k hk => by dsimp only; omega) (.bool flag)) (fun k hk => by dsimp only; omega) (.slice A1 N1 c1)) (fun k hk => by dsimp only; omega) (.slice A9 i c9)) (fun k hk => by dsimp only; omega) (.int .i64 (wrap64 ((i : Int) + Go.bits .and .i64 most 7)))) (fun k hk => by omega)
  have e : (⟨kind, n, wide, flag, bytes, list, most⟩ : OpL) = sf := by rw [← hsf]; unfold fit; simp [k1, k2, k3, k7]
  subst e
  obtain ⟨N1, hN1⟩ : ∃ N, bytes.length = N := ⟨_, rfl⟩
  obtain ⟨N2, hN2⟩ : ∃ N, list.length = N := ⟨_, rfl⟩
  rw [hN1, hN2] at hW1 HBX
  unfold FtPost
  dsimp only
  rw [hN1, hN2]
  have z0 := (blk_cell HBX.out 0).trans (show _ = some (.int .i64 kind) from rfl)
  have z1 := (blk_cell HBX.out 1).trans (show _ = some (.int .i64 n) from rfl)
  have z2 := (blk_cell HBX.out 2).trans (show _ = some (.int .i64 wide) from rfl)
  have z3 := (blk_cell HBX.out 3).trans (show _ = some (.bool flag) from rfl)
  have z4 := (blk_cell HBX.out 4).trans (show _ = some (.slice A1 N1 c1) from rfl)
  have z5 := (blk_cell HBX.out 5).trans (show _ = some (.slice A2 N2 c2) from rfl)
  have z6 := (blk_cell HBX.out 6).trans (show _ = some (.int .i64 most) from rfl)
  have q1 : (kind == 1) = false := by rw [beq_eq_false_iff_ne]; exact k1
  have q2 : (kind == 2) = false := by rw [beq_eq_false_iff_ne]; exact k2
  have q3 : (kind == 3) = false := by rw [beq_eq_false_iff_ne]; exact k3
  have q7 : (kind == 7) = false := by rw [beq_eq_false_iff_ne]; exact k7
  subst hW1
  clear hB hsf hl hN1 hN2
  go_enter Try.func60, Try.ntmps60
  go_wp2
  refine bodyPost_ret (results_c1 (p := 2) (ty := 58) rfl _ _ (W.heap.size + 1) 58 _ (0, 0) _ rfl (heap_two _ _ _) hu58 rfl (by kernel_rfl)) rfl ⟨A2, c2, rfl, ((Below.refl _ W).alloc (Nat.le_refl _) _).alloc (by simp) _, .inl ⟨rfl, rfl, trivial⟩⟩
end Go.Proofs.Ytceeoifbimlkdaa.B
