/- Proved: the contract of slots.Walk of a table that goes: a walker at tick 0. -/
import Derived.Test.YtckdjcidbpnfeaaDoorHWalk1
namespace Go.Proofs.YtckdjcidbpnfeaaDoor.B
open Go.RowKit Go.Proofs.YtckdjcidbpnfeaaDoorW.PrintWords Go.Proofs.YtckdjcidbpnfeaaDoorW.PrintLast Go.Proofs.YtckdjcidbpnfeaaDoorW.PrintMore

theorem TV_kept {W W' : World} {base : Nat} {ok : Nat → Prop} {v : Value} {xs : List S72} (h : TV k72 72 W base ok v xs) (hb : Below W.heap.size W W') : TV k72 72 W' base ok v xs := TV_step h fun k _ hl => hb.block k hl
theorem TV_first {W : World} {base : Nat} {ok : Nat → Prop} {v : Value} {P : List (Nat × Nat)} (h : TV k72 72 W base ok v (P.map toS)) (hp : 0 < P.length) : ∃ ad n cc, v = .slice (some ad) n cc ∧ 0 < n ∧ W.cell? ad = some (.int .i64 ((P[0]'hp).1 : Nat)) := by
  obtain ⟨A, cc, rfl⟩ := TV_slice h
  have hR := TV_reads' h
  obtain ⟨ad, e, x0, x1⟩ := at_T72 hR.2.2 (0 : Int) (by omega) (by rw [List.length_map]; omega)
  cases e
  have e0 : rd_T72 (P.map toS) 0 = toS (P[0]'hp) := rdS P 0 hp
  rw [e0] at x0
  exact ⟨ad, _, cc, rfl, by rw [List.length_map]; exact hp, x0⟩
set_option maxHeartbeats 8000000 in
set_option maxRecDepth 100000 in
theorem walk_is (A1 : Option Addr) (c1 : Nat) (A2 : Option Addr) (c2 : Nat) (P C : List (Nat × Nat)) (h : Nat) (w : World) (ht : Table P C h) (hr1 : Kd.C k72 w A1 (P.map toS).length (P.map toS)) (hc1 : (P.map toS).length ≤ c1) (hr2 : Kd.C k72 w A2 (C.map toS).length (C.map toS)) (hc2 : (C.map toS).length ≤ c2) :
    Calls Tryd.prog 16 #[.agg #[.slice A1 (P.map toS).length c1, .slice A2 (C.map toS).length c2]] w fun e w' => ∃ g V0 V1 u, e = .returned (.tuple #[.pointer (some ⟨g, 0, none⟩), .int .i64 0]) ∧ WkAt w' w.heap.size g V0 V1 P C h 0 false 0 u ∧ Stands P C h false 0 u 0 ∧ Below w.heap.size w w' := by
  have hu81 := Tryd.underlying81
  have hu27 := Tryd.underlying27
  have hu72 := Tryd.underlying72
  obtain ⟨W1, hW1⟩ : ∃ W1, w.alloc (.cells #[.slice A1 (P.map toS).length c1, .slice A2 (C.map toS).length c2] 27) = W1 := ⟨_, rfl⟩
  have hB1 : Below w.heap.size w W1 := by rw [← hW1]; exact (Below.refl _ _).alloc (Nat.le_refl _) _
  have hbx : W1.heap[w.heap.size]? = some (.cells #[.slice A1 (P.map toS).length c1, .slice A2 (C.map toS).length c2] 27 (0, 0)) := by rw [← hW1]; exact heap_alloc_new _ _
  have hll : ∀ L : List (Nat × Nat), (L.map toS).length = L.length := fun L => List.length_map _
  have HV := Aside0.mk (slots_Valid.calls 4194304 A1 c1 (P.map toS) A2 c2 (C.map toS) 0 W1 (Kd.C_below hr1 hB1) hc1 (Kd.C_below hr2 hB1) hc2 (valid_goes ht))
  have HL := Aside0.mk (fun (W : World) (hb : Below w.heap.size w W) => slots_length.calls 4194304 A1 c1 (P.map toS) ((tot P : Nat) : Int) W (Kd.C_below hr1 hb) hc1 (length_goes P ht.gp (by rw [ht.tp]; exact ht.h2) ht.lp 4194304 (by have := ht.lp; omega)))
  have HO := Aside0.mk (fun (W : World) (hb : Below w.heap.size w W) => own_is A1 c1 (P.map toS) A2 c2 (C.map toS) W (Kd.C_below hr1 hb) (Kd.C_below hr2 hb) (by rw [hll]; have := ht.lp; omega) (by rw [hll]; have := ht.lc; omega))
  rw [ht.tp] at HL
  have hp : 0 < P.length := ht.lpos false
  obtain ⟨U, hU⟩ : ∃ U, (P[0]'hp).1 = U := ⟨_, rfl⟩
  have HS := Aside0.mk (show Stands P C h false 0 U 0 by rw [← hU]; exact Stands.first ht)
  have HF := Aside0.mk (fun (W : World) (v : Value) (hT : TV k72 72 W 0 (fun _ => True) v (P.map toS)) => TV_first hT hp)
  rw [hU] at HF
  have HB1 := Aside0.mk hB1
  obtain ⟨n1, hn1⟩ : ∃ n, (P.map toS).length = n := ⟨_, rfl⟩
  obtain ⟨n2, hn2⟩ : ∃ n, (C.map toS).length = n := ⟨_, rfl⟩
  rw [hn1, hn2] at HV HO hW1 hbx
  rw [hn1] at HL
  rw [hn1, hn2]
  have q0 := (blk_cell hbx 0).trans (show _ = some (.slice A1 n1 c1) from rfl)
  have q1 := (blk_cell hbx 1).trans (show _ = some (.slice A2 n2 c2) from rfl)
  have HBX := Aside0.mk hbx
  subst hW1
  clear hB1 hbx hll hr1 hr2 hc1 hc2 ht hn1 hn2 hU
  go_enter Tryd.func16, Tryd.ntmps16
  go_wp2_with (go_at_call 13; refine HV.out.mono ?_; rintro e w2 ⟨rfl, hb2⟩; have HB2 := Aside0.mk (HB1.out.trans (hb2.mono HB1.out.size)); have bx2 := (hb2.block w.heap.size (blk_lt HBX.out)).trans HBX.out; have z0 := (blk_cell bx2 0).trans (show _ = some (.slice A1 n1 c1) from rfl); have z1 := (blk_cell bx2 1).trans (show _ = some (.slice A2 n2 c2) from rfl); have HX2 := Aside0.mk bx2; clear hb2 bx2 q0 q1)
  go_region_with (first
    | (go_at_call 45; refine (HL.out _ ?hbb).mono ?_; (case hbb => (first | exact below_drew1 HB2.out | exact (below_drew1 HB2.out).trans (hbO.mono HB2.out.size))); rintro e wl ⟨rfl, hbL⟩; (try (have bxL := (hbL.block w.heap.size (blk_lt HX2.out)).trans HX2.out; have l0 := (blk_cell bxL 0).trans (show _ = some (.slice A1 n1 c1) from rfl); have l1 := (blk_cell bxL 1).trans (show _ = some (.slice A2 n2 c2) from rfl))))
    | (go_at_call 40; refine (HO.out _ ?hbb).mono ?_; (case hbb => (first | exact below_drew1 HB2.out | exact (below_drew1 HB2.out).trans (hbL.mono HB2.out.size))); rintro e wo ⟨v0, v1, rfl, hT0, hT1, hbO⟩; (try (have bxO := (hbO.block w.heap.size (blk_lt HX2.out)).trans HX2.out; have l0 := (blk_cell bxO 0).trans (show _ = some (.slice A1 n1 c1) from rfl); have l1 := (blk_cell bxO 1).trans (show _ = some (.slice A2 n2 c2) from rfl)))))
  all_goals first
    | (
      have hBx : Below w.heap.size w wo := by first | exact (below_drew1 HB2.out).trans (hbO.mono HB2.out.size) | exact ((below_drew1 HB2.out).trans (hbL.mono HB2.out.size)).trans (hbO.mono ((below_drew1 HB2.out).trans (hbL.mono HB2.out.size)).size)
      have t0 : TV k72 72 wo 0 (fun _ => True) v0 (P.map toS) := hT0
      have t1 : TV k72 72 wo 0 (fun _ => True) v1 (C.map toS) := hT1
      obtain ⟨ad, n, cc, rfl, hn0, x0⟩ := HF.out wo v0 t0
      have x0' := (((Below.refl wo.heap.size wo).alloc (Nat.le_refl _) (.cells #[.int .i64 0, .int .i64 (h : Nat), .slice (some ad) n cc, v1, .bool false, .int .i64 0, .int .i64 0] 81)).cell (World.block_lt_of_cell? wo _ x0)).trans x0
      have hn1 : (0 : Int) < (n : Int) := by omega
      have T0 := Aside0.mk t0
      have T1 := Aside0.mk t1
      have HBx := Aside0.mk hBx
      clear t0 t1 x0 hT0 hT1 hBx HL HO HF HV
      go_wp2
      go_ret2
      have hal := fun o => (Below.refl wo.heap.size wo).alloc (Nat.le_refl _) o
      exact ⟨_, _, _, U, rfl, ⟨HBx.out.size, heap_alloc_new _ _, TV_kept T0.out (hal _), TV_kept T1.out (hal _)⟩, HS.out, HBx.out.alloc HBx.out.size _⟩)
    | (
      have hBx : Below w.heap.size w wl := ((below_drew1 HB2.out).trans (hbO.mono HB2.out.size)).trans (hbL.mono ((below_drew1 HB2.out).trans (hbO.mono HB2.out.size)).size)
      have t0 : TV k72 72 wl 0 (fun _ => True) v0 (P.map toS) := TV_kept hT0 hbL
      have t1 : TV k72 72 wl 0 (fun _ => True) v1 (C.map toS) := TV_kept hT1 hbL
      obtain ⟨ad, n, cc, rfl, hn0, x0⟩ := HF.out wl v0 t0
      have x0' := (((Below.refl wl.heap.size wl).alloc (Nat.le_refl _) (.cells #[.int .i64 0, .int .i64 (h : Nat), .slice (some ad) n cc, v1, .bool false, .int .i64 0, .int .i64 0] 81)).cell (World.block_lt_of_cell? wl _ x0)).trans x0
      have hn1 : (0 : Int) < (n : Int) := by omega
      have T0 := Aside0.mk t0
      have T1 := Aside0.mk t1
      have HBx := Aside0.mk hBx
      clear t0 t1 x0 hT0 hT1 hBx HL HO HF HV
      go_wp2
      go_ret2
      have hal := fun o => (Below.refl wl.heap.size wl).alloc (Nat.le_refl _) o
      exact ⟨_, _, _, U, rfl, ⟨HBx.out.size, heap_alloc_new _ _, TV_kept T0.out (hal _), TV_kept T1.out (hal _)⟩, HS.out, HBx.out.alloc HBx.out.size _⟩)
end Go.Proofs.YtckdjcidbpnfeaaDoor.B
