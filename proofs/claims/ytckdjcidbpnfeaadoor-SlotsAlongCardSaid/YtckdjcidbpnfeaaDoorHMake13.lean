/- Proved: the contract of slots.Make, in the form that printed texts cite: the table's parts are the run lengths of the occupants. Condition: the variable errors.errorType holds what the program's text lays (GH). -/
import Derived.Test.YtckdjcidbpnfeaaDoorHOwn13
import Derived.Test.YtckdjcidbpnfeaaDoorHOcc
namespace Go.Proofs.YtckdjcidbpnfeaaDoor.B
open Go.RowKit Go.Shelf Go.Proofs.YtckdjcidbpnfeaaDoorW.PrintWords Go.Proofs.YtckdjcidbpnfeaaDoorW.PrintLast Go.Proofs.YtckdjcidbpnfeaaDoorW.PrintMore

def mxI (x y : Int) : Int := if x < y then y else x
theorem mxI_nat (x y : Nat) : mxI (x : Int) (y : Int) = (max x y : Nat) := by unfold mxI; split <;> omega
theorem max2_mx (k k' : IntKind) (x y : Int) : Builtin.max2 (.int k x) (.int k' y) = pure (.int k (mxI x y)) := max2_int k k' x y

/-- stretches lays two boxes and hands the iterator. -/
theorem stretches_is (A0 : Option Addr) (n c0 : Nat) (lim : Int) (w : World) :
    Calls Tryd.prog 38 #[.slice A0 n c0, .int .i64 lim] w fun e w' => e = .returned (.func (.func 74) #[] #[.pointer (some ⟨w.heap.size, 0, none⟩), .pointer (some ⟨w.heap.size + 1, 0, none⟩)]) ∧
      w' = (w.alloc (.cells #[.slice A0 n c0] 22)).alloc (.cells #[.int .i64 lim] 3) := by
  go_enter Tryd.func38, Tryd.ntmps38
  go_wp2
  go_ret
  exact ⟨by simp, rfl⟩

theorem PKs_t {n0 m l : Nat} {A B C : World} (h : PKs n0 m l A B) (k : PKs n0 m l B C) : PKs n0 m l A C := ⟨Nat.le_trans h.1 k.1, fun i hs hi => (k.2 i (by have := h.1; omega) hi).trans (h.2 i hs hi)⟩
theorem PKs_b {n0 m B : Nat} (hn : n0 ≤ B) (W : World) (l : Nat) (o o' : Obj) (hl : B ≤ l) (_h : W.heap[l]? = some o) : PKs n0 m l W (W.putObj l o') :=
  ⟨by simp, fun k _ hk => World.putObj_heap_other (by omega)⟩

/-- What Make's own variables hold. -/
structure MkAt (w : World) (a H : Nat) (Vp Vc : Value) (P C : List (Nat × Nat)) (now : Nat) (W : World) : Prop where
  hh : W.heap[a]? = some (.cells #[.int .i64 (H : Nat)] 3 (0, 0))
  tb : W.heap[a + 1]? = some (.cells #[Vp, Vc] 27 (0, 0))
  nw : W.heap[a + 2]? = some (.cells #[.int .i64 (now : Nat)] 3 (0, 0))
  rs : W.heap[w.heap.size]? = some (.cells #[.slice none 0 0, .slice none 0 0] 27 (0, 0))
  rp : W.ownsRow (a + 9) 72 2 Vp P.length (flat P)
  rc : W.ownsRow (a + 9) 72 2 Vc C.length (flat C)
  ap : ∀ k, some k = Vp.ownBlock → some k ≠ Vc.ownBlock
  bel : Below w.heap.size w W
  la : w.heap.size < a
section
variable {w W W' : World} {a H now : Nat} {Vp Vc : Value} {P C : List (Nat × Nat)}
theorem MkAt.kept (h : MkAt w a H Vp Vc P C now W) (hb : ∀ k, k < W.heap.size → (k < a + 3 ∨ a + 9 ≤ k) → W'.heap[k]? = W.heap[k]?) (hB : Below w.heap.size w W') : MkAt w a H Vp Vc P C now W' := by
  have h1 := h.la
  have g1 := blk_lt h.nw
  exact ⟨(hb _ (by omega) (by omega)).trans h.hh, (hb _ (by omega) (by omega)).trans h.tb, (hb _ g1 (by omega)).trans h.nw, (hb _ (by omega) (by omega)).trans h.rs,
    own2_kept h.rp fun k hk e => hb k hk (.inr (own2_base h.rp k e).1), own2_kept h.rc fun k hk e => hb k hk (.inr (own2_base h.rc k e).1), h.ap, hB, h1⟩
/-- The Prologue has been joined to, and is stored. -/
theorem MkAt.putP {Vp' : Value} {P' : List (Nat × Nat)} (h : MkAt w a H Vp Vc P C now W) (hz : a + 9 ≤ W.heap.size) (hr : W'.ownsRow (a + 9) 72 2 Vp' P'.length (flat P')) (hk : RowKeeps W W' Vp Vp') : MkAt w a H Vp' Vc P' C now (W'.setCell ⟨a + 1, 0, none⟩ Vp') := by
  have h1 := h.la
  have g1 := blk_lt h.nw
  have low : ∀ k, k < a + 9 → some k ≠ Vp.ownBlock := fun k hk e => by have := (own2_base h.rp k e).1; omega
  have sm : ∀ k, k < a + 9 → W'.heap[k]? = W.heap[k]? := fun k hk2 => hk.same k (by omega) (low k hk2)
  have far : ∀ k, k ≠ a + 1 → (W'.setCell ⟨a + 1, 0, none⟩ Vp').heap[k]? = W'.heap[k]? := fun k hk => Below.heap_setCell _ _ _ k hk
  refine ⟨(far _ (by omega)).trans ((sm _ (by omega)).trans h.hh), blk_put ((sm _ (by omega)).trans h.tb) 0 _ rfl, (far _ (by omega)).trans ((sm _ (by omega)).trans h.nw), (far _ (by omega)).trans ((sm _ (by omega)).trans h.rs),
    own2_kept hr fun k _ e => far k (by have := (own2_base hr k e).1; omega), own2_kept (own2_kept h.rc fun k hk1 e => hk.same k hk1 (fun e2 => h.ap k e2 e)) fun k _ e => far k (by have := (own2_base h.rc k e).1; omega), ?_, ?_, h1⟩
  · intro k e1 e2
    rcases hk.at_ with e | ⟨b, e, hb⟩
    · exact h.ap k (e1.trans e) e2
    · rw [e] at e1; cases e1; have := (own2_base h.rc _ e2).2.1; omega
  · have := h.bel.size
    refine Below.setCell (p := ⟨a + 1, 0, none⟩) ?_ (by show w.heap.size ≤ a + 1; omega) _
    exact ⟨hk.oth.1.trans h.bel.os, hk.oth.2.1.trans h.bel.tape, hk.oth.2.2.trans h.bel.output, Nat.le_trans this hk.size, fun k hk1 => (sm k (by omega)).trans (h.bel.block k hk1)⟩
/-- The Cycle has been joined to, and is stored. -/
theorem MkAt.putC {Vc' : Value} {C' : List (Nat × Nat)} (h : MkAt w a H Vp Vc P C now W) (hz : a + 9 ≤ W.heap.size) (hr : W'.ownsRow (a + 9) 72 2 Vc' C'.length (flat C')) (hk : RowKeeps W W' Vc Vc') : MkAt w a H Vp Vc' P C' now (W'.setCell ⟨a + 1, 1, none⟩ Vc') := by
  have h1 := h.la
  have g1 := blk_lt h.nw
  have low : ∀ k, k < a + 9 → some k ≠ Vc.ownBlock := fun k hk e => by have := (own2_base h.rc k e).1; omega
  have sm : ∀ k, k < a + 9 → W'.heap[k]? = W.heap[k]? := fun k hk2 => hk.same k (by omega) (low k hk2)
  have far : ∀ k, k ≠ a + 1 → (W'.setCell ⟨a + 1, 1, none⟩ Vc').heap[k]? = W'.heap[k]? := fun k hk => Below.heap_setCell _ _ _ k hk
  refine ⟨(far _ (by omega)).trans ((sm _ (by omega)).trans h.hh), blk_put ((sm _ (by omega)).trans h.tb) 1 _ rfl, (far _ (by omega)).trans ((sm _ (by omega)).trans h.nw), (far _ (by omega)).trans ((sm _ (by omega)).trans h.rs),
    own2_kept (own2_kept h.rp fun k hk1 e => hk.same k hk1 (fun e2 => h.ap k e e2)) fun k _ e => far k (by have := (own2_base h.rp k e).1; omega), own2_kept hr fun k _ e => far k (by have := (own2_base hr k e).1; omega), ?_, ?_, h1⟩
  · intro k e1 e2
    rcases hk.at_ with e | ⟨b, e, hb⟩
    · exact h.ap k e1 (e2.trans e)
    · rw [e] at e2; cases e2; have := (own2_base h.rp _ e1).2.1; omega
  · have := h.bel.size
    refine Below.setCell (p := ⟨a + 1, 1, none⟩) ?_ (by show w.heap.size ≤ a + 1; omega) _
    exact ⟨hk.oth.1.trans h.bel.os, hk.oth.2.1.trans h.bel.tape, hk.oth.2.2.trans h.bel.output, Nat.le_trans this hk.size, fun k hk1 => (sm k (by omega)).trans (h.bel.block k hk1)⟩
/-- The tick has gone on. -/
theorem MkAt.putN (h : MkAt w a H Vp Vc P C now W) (m : Nat) : MkAt w a H Vp Vc P C m (W.setCell ⟨a + 2, 0, none⟩ (.int .i64 (m : Nat))) := by
  have h1 := h.la
  have far : ∀ k, k ≠ a + 2 → (W.setCell ⟨a + 2, 0, none⟩ (.int .i64 (m : Nat))).heap[k]? = W.heap[k]? := fun k hk => Below.heap_setCell _ _ _ k hk
  exact ⟨(far _ (by omega)).trans h.hh, (far _ (by omega)).trans h.tb, blk_put h.nw 0 _ rfl, (far _ (by omega)).trans h.rs,
    own2_kept h.rp fun k _ e => far k (by have := (own2_base h.rp k e).1; omega), own2_kept h.rc fun k _ e => far k (by have := (own2_base h.rc k e).1; omega), h.ap, h.bel.setCell (p := ⟨a + 2, 0, none⟩) (by show w.heap.size ≤ a + 2; omega) _, h1⟩
theorem own2_shape' {w : World} {base e sz n : Nat} {V : Value} {xs : List Value} (h : w.ownsRow base e sz V n xs) : ∃ ao cap, V = .slice ao n cap := by
  obtain ⟨_, ⟨rfl, e⟩ | ⟨g', cap', cur, e1, _⟩⟩ := h
  · exact ⟨none, 0, by rw [e]⟩
  · exact ⟨_, _, e1⟩
/-- A block is no row of the table's. -/
def NoRow2 (g b : Nat) (W : World) : Prop := ∀ V1 V2, W.heap[g]? = some (.cells #[V1, V2] 27 (0, 0)) → some b ≠ V1.ownBlock ∧ some b ≠ V2.ownBlock
theorem MkAt.noRow (h : MkAt w a H Vp Vc P C now W) (o : Obj) : NoRow2 (a + 1) W.heap.size (W.alloc o) := by
  intro V1 V2 hV
  have e := (blk_alloc h.tb o).symm.trans hV
  cases e
  exact ⟨fun e => by have := (own2_base h.rp _ e).2.1; omega, fun e => by have := (own2_base h.rc _ e).2.1; omega⟩
end
/-- The world where Make's loop begins. -/
theorem make_world {w w1 w4 : World} {A0 : Option Addr} {n c0 H : Nat} {L : Int} (hb1 : Below (w.alloc (.cells #[.slice none 0 0, .slice none 0 0] 27)).heap.size (w.alloc (.cells #[.slice none 0 0, .slice none 0 0] 27)) w1)
    (hw4 : w4 = ((((w1.alloc (.cells #[.int .i64 (H : Nat)] 3)).alloc (.cells #[.slice none 0 0, .slice none 0 0] 27)).alloc (.cells #[.int .i64 0] 3)).alloc (.cells #[.slice A0 n c0] 22)).alloc (.cells #[.int .i64 L] 3)) :
    MkAt w w1.heap.size H (.slice none 0 0) (.slice none 0 0) [] [] 0 w4 ∧ w4.heap.size = w1.heap.size + 5 ∧ w4.cell? ⟨w1.heap.size + 3, 0, none⟩ = some (.slice A0 n c0) ∧ w4.cell? ⟨w1.heap.size + 4, 0, none⟩ = some (.int .i64 L) := by
  have s1 := hb1.size
  simp only [World.size_alloc] at s1
  have r0 := (hb1.block w.heap.size (by simp)).trans (heap_alloc_new w (.cells #[.slice none 0 0, .slice none 0 0] 27))
  have bel : Below w.heap.size w w1 := ((Below.refl _ w).alloc (Nat.le_refl _) _).trans (hb1.mono (by simp))
  obtain ⟨x1, hx1⟩ : ∃ x, w1.alloc (.cells #[.int .i64 (H : Nat)] 3) = x := ⟨_, rfl⟩
  obtain ⟨x2, hx2⟩ : ∃ x, x1.alloc (.cells #[.slice none 0 0, .slice none 0 0] 27) = x := ⟨_, rfl⟩
  obtain ⟨x3, hx3⟩ : ∃ x, x2.alloc (.cells #[.int .i64 0] 3) = x := ⟨_, rfl⟩
  obtain ⟨x4, hx4⟩ : ∃ x, x3.alloc (.cells #[.slice A0 n c0] 22) = x := ⟨_, rfl⟩
  rw [hx1, hx2, hx3, hx4] at hw4
  have z1 : x1.heap.size = w1.heap.size + 1 := by rw [← hx1]; simp
  have z2 : x2.heap.size = w1.heap.size + 2 := by rw [← hx2, World.size_alloc, z1]
  have z3 : x3.heap.size = w1.heap.size + 3 := by rw [← hx3, World.size_alloc, z2]
  have z4 : x4.heap.size = w1.heap.size + 4 := by rw [← hx4, World.size_alloc, z3]
  have a1 := heap_alloc_new w1 (.cells #[.int .i64 (H : Nat)] 3)
  have a2 := heap_alloc_new x1 (.cells #[.slice none 0 0, .slice none 0 0] 27)
  have a3 := heap_alloc_new x2 (.cells #[.int .i64 0] 3)
  have a4 := heap_alloc_new x3 (.cells #[.slice A0 n c0] 22)
  have a5 := heap_alloc_new x4 (.cells #[.int .i64 L] 3)
  rw [hx1] at a1
  rw [hx2, z1] at a2
  rw [hx3, z2] at a3
  rw [hx4, z3] at a4
  rw [z4] at a5
  have up1 : ∀ k o, x1.heap[k]? = some o → w4.heap[k]? = some o := fun k o h => by rw [hw4]; exact blk_alloc (by rw [← hx4]; exact blk_alloc (by rw [← hx3]; exact blk_alloc (by rw [← hx2]; exact blk_alloc h _) _) _) _
  have up2 : ∀ k o, x2.heap[k]? = some o → w4.heap[k]? = some o := fun k o h => by rw [hw4]; exact blk_alloc (by rw [← hx4]; exact blk_alloc (by rw [← hx3]; exact blk_alloc h _) _) _
  have up3 : ∀ k o, x3.heap[k]? = some o → w4.heap[k]? = some o := fun k o h => by rw [hw4]; exact blk_alloc (by rw [← hx4]; exact blk_alloc h _) _
  have up4 : ∀ k o, x4.heap[k]? = some o → w4.heap[k]? = some o := fun k o h => by rw [hw4]; exact blk_alloc h _
  have bel4 : Below w.heap.size w w4 := by
    rw [hw4, ← hx4, ← hx3, ← hx2, ← hx1]
    exact ((((bel.alloc (by omega) _).alloc (by simp; omega) _).alloc (by simp; omega) _).alloc (by simp; omega) _).alloc (by simp; omega) _
  refine ⟨⟨up1 _ _ a1, up2 _ _ a2, up3 _ _ a3, up1 _ _ (by rw [← hx1]; exact blk_alloc r0 _), ⟨by simp [flat], .inl ⟨rfl, rfl⟩⟩, ⟨by simp [flat], .inl ⟨rfl, rfl⟩⟩, (fun k hk => by cases hk), bel4, by omega⟩, by rw [hw4, World.size_alloc, z4], (blk_cell (up4 _ _ a4) 0).trans rfl, ?_⟩
  rw [hw4]; exact (blk_cell a5 0).trans rfl

theorem TV_sep {α : Type} {d : Kd α} {e base D : Nat} {ok : Nat → Prop} {W : World} {v : Value} {xs : List α} (hD : ∃ o, W.heap[D]? = some (.deferred o)) (h : TV d e W base ok v xs) : TV d e W base (fun k => ok k ∧ k ≠ D) v xs := by
  obtain ⟨A, c, h1, h2, ok1, h3, h4⟩ := h
  refine ⟨A, c, h1, h2, ok1, h3, fun k hk => ?_⟩
  obtain ⟨a, b, cs, hc⟩ := h4 k hk
  refine ⟨⟨a, ?_⟩, b, cs, hc⟩
  rintro rfl
  obtain ⟨o, ho⟩ := hD
  rw [hc] at ho
  cases ho
attribute [local go_sem] Oper.semAt_some max2_mx max_two min2_mn min_two
set_option maxHeartbeats 16000000 in
set_option maxRecDepth 100000 in
theorem make_is (A0 : Option Addr) (c0 : Nat) (l0 : List S24) (H : Nat) (w : World) (HR : Aside0 (Kd.C k24 w A0 l0.length l0)) (HO : Aside0 (∀ i, i < l0.length → okAt l0 i = true)) (HBd : Aside0 (Bd (sv l0))) (hH : H ≤ 1048576) (hH1 : 1 ≤ H)
    (HH : Aside0 (∀ w1, Below w.heap.size w w1 → Calls Tryd.prog 23 #[.slice A0 l0.length c0] w1 fun e w' => e = .returned (.tuple #[.int .i64 (H : Nat), .int .i64 0]) ∧ Below w1.heap.size w1 w')) :
    Calls Tryd.prog 9 #[.slice A0 l0.length c0] w fun e w' => ∃ v0 v1, e = .returned (.tuple #[.agg #[v0, v1], .int .i64 0]) ∧ TV k72 72 w' w.heap.size (fun _ => True) v0 ((rle (sv l0).occ 0 H).map toS) ∧ TV k72 72 w' w.heap.size (fun _ => True) v1 ((rle (sv l0).occ H H).map toS) ∧ Below w.heap.size w w' := by
  have hu55 := Tryd.underlying72
  have hu27 := Tryd.underlying27
  refine (callsIn_wide (n := 7)).1 ?_
  refine callsIn_of_wp_marks Tryd.func9 rfl trivial ?_ rfl
  simp only [Tryd.ntmps9, List.size_toArray, List.length_cons, List.length_nil, Nat.reduceAdd, Nat.reduceSub, Array.replicate_succ, Array.replicate_zero, List.push_toArray, List.append_toArray, List.nil_append, List.cons_append]
  gi_wp2
  refine ⟨trivial, ?_⟩
  gi_at_call 23
  refine (callsIn_wide.2 (HH.out _ ?hbb)).mono ?_
  case hbb => exact (Below.refl _ w).alloc (Nat.le_refl _) _
  rintro e w1 ⟨rfl, hb1⟩
  have HB1 := Aside0.mk hb1
  clear hb1
  gi_wp2
  refine ⟨trivial, ?_⟩
  gi_at_call 38
  refine (callsIn_wide.2 (stretches_is _ _ _ _ _)).mono ?_
  rintro e w4 ⟨rfl, hw4⟩
  obtain ⟨hM, hs4, hx1, hx2⟩ := make_world HB1.out hw4
  have hx2' : w4.cell? ⟨w1.heap.size + 4, 0, none⟩ = some (.int .i64 ((2 * H : Nat) : Int)) := hx2
  have HM := Aside0.mk hM
  clear hw4 hM
  have HSv := Aside0.mk (srv_of HO.out HR.out (Nat.le_refl _))
  have hn4 := HM.out.bel.size
  have HCov := Aside0.mk ((sv l0).play_zero (fun i hi => (HBd.out.2 i hi).1) (2 * H) (2 * H) (Nat.le_refl _))
  gi_wp2
  refine wpIn_rangeFunc_cellsD (d := 2) rfl (by omega) (gf := 74) (lb := #[.pointer (some ⟨w1.heap.size + 3, 0, none⟩), .pointer (some ⟨w1.heap.size + 4, 0, none⟩)]) rfl trivial (enters_of Tryd.func74 (by kernel_rfl) rfl)
    (stretches1_is w.heap.size (w1.heap.size + 3) (w1.heap.size + 3) (w1.heap.size + 4) A0 c0 l0 (2 * H) _ (by omega) HBd.out (by omega) w4 (HSv.out.kept fun k hk => HM.out.bel.block k hk) hn4 hx1 hx2' (by omega) (by omega) (by omega) (by omega))
    PKs_t (fun W l o o' hl h _ _ => PKs_b (by omega) W l o o' hl h) (Below.refl _ _) (fun _ => rfl)
    (fun pre W => ∃ Vp Vc, MkAt w w1.heap.size H Vp Vc (mkP H pre) (mkC H pre) (mkN pre) W ∧ (pre = [] ∨ w1.heap.size + 9 ≤ W.heap.size))
    (fun _ _ _ => False)
    (fun s A B ⟨Vp, Vc, h, hz⟩ hb => ⟨Vp, Vc, h.kept (fun k hk h2 => by rcases h2 with h2 | h2; exact hb.block k (by omega); exact hb.far k hk (by omega)) (h.bel.trans (hb.toBelow.mono (by omega))), hz.imp id fun h => Nat.le_trans h hb.size⟩)
    (fun _ _ _ _ h _ => h) ⟨_, _, HM.out, .inl rfl⟩
    (fun x a' Wn => ∃ b, w4.heap.size + 4 ≤ b ∧ Wn.heap[b]? = some (.cells #[.int .i64 (x.2.1 : Nat), .int .i64 (x.2.2 : Nat)] 72 (0, 0)) ∧ NoRow2 (w1.heap.size + 1) b Wn ∧ a' = { tmps := #[.slice A0 l0.length c0, undef, .pointer (some ⟨w.heap.size, 0, none⟩), .int .i64 0, .pointer (some ⟨w1.heap.size, 0, none⟩), .int .i64 0, .pointer (some ⟨w1.heap.size + 1, 0, none⟩), .pointer (some ⟨w1.heap.size + 1 + 1, 0, none⟩), .pointer (some ⟨b, 0, none⟩), undef, .tuple #[.int .i64 ((H : Nat) : Int), .int .i64 0], .slice A0 l0.length c0, .tuple #[.int .i64 ((H : Nat) : Int), .int .i64 0], .int .i64 ((H : Nat) : Int), .int .i64 0, .int .i64 0, .bool false, undef, undef, .slice A0 l0.length c0, .int .i64 ((H : Nat) : Int), .int .i64 (2 * ((H : Nat) : Int)), .func (.func 74) #[] #[.pointer (some ⟨w1.heap.size + 1 + 1 + 1, 0, none⟩), .pointer (some ⟨w1.heap.size + 1 + 1 + 1 + 1, 0, none⟩)], .agg #[.int .i64 (x.2.1 : Nat), .int .i64 (x.2.2 : Nat)], undef, undef, undef, undef, undef, undef, undef, undef, undef, undef, undef, undef, undef, undef, undef, undef, undef, undef, undef, undef, undef, undef, undef, undef, undef, undef, undef, undef, undef, undef, undef, undef], defers := [] })
    (fun x a' W o o' hl ho ⟨b, hb, h, hn, e⟩ => ⟨b, hb, (World.putObj_heap_other (by omega)).trans h, fun V1 V2 hV => hn V1 V2 ((World.putObj_heap_other (by omega)).symm.trans hV), e⟩) ?assign ?body ?done ?stop
  case assign =>
    intro pre x W K hi hsz hK
    dsimp only [encSlot]
    gi_wp2
    obtain ⟨Vp, Vc, hi, hz⟩ := hi
    refine hK _ _ ((KeepsOthers.alloc _ _).from _) ⟨by simp, fun k hs hk => Below.heap_alloc _ _ _ hs⟩ ⟨Vp, Vc, hi.kept (fun k hk _ => Below.heap_alloc _ _ _ hk) (hi.bel.alloc hi.bel.size _), .inr (by simp; omega)⟩ ⟨W.heap.size, by omega, heap_alloc_new _ _, hi.noRow _, rfl⟩
  case body =>
    rintro pre x a' W - ⟨Vp, Vc, hN, -⟩ ⟨b, hb, hs, hnr, rfl⟩ ⟨rest, hRd⟩
    obtain ⟨hmd, hxb, hmd2⟩ := made_at (sv l0) H (2 * H) pre [] 0 x rest (by rw [← hRd]; exact HCov.out) (made_nil _ _)
    rw [List.nil_append] at hmd hmd2
    have s0 := (blk_cell hs 0).trans rfl
    have s1 := (blk_cell hs 1).trans rfl
    have p0 := (blk_cell hN.hh 0).trans rfl
    have p1 := (blk_cell hN.tb 0).trans rfl
    have p2 := (blk_cell hN.nw 0).trans rfl
    have pf := blk_frozen hN.tb 0
    have hWs : w1.heap.size + 9 ≤ W.heap.size := by have := blk_lt hs; omega
    obtain ⟨n1, n2⟩ := hnr _ _ hN.tb
    have HBX := Aside0.mk hs
    rw [hmd.1] at hN p2
    have hPl : (mkP H pre).length ≤ 1048576 := by rw [hmd.2.1]; exact Nat.le_trans (rle_length _ _ _) (by omega)
    have hCl : (mkC H pre).length ≤ 4194304 := by rw [hmd.2.2]; exact Nat.le_trans (rle_length _ _ _) (by omega)
    have hPt : ∀ p, p ∈ mkP H pre → p.1 ≤ 4194304 := fun p hp => by rw [hmd.2.1] at hp; have := tot_mem hp; rw [(rle_lies (sv l0).occ 0 _).2] at this; omega
    have hCt : ∀ p, p ∈ mkC H pre → p.1 ≤ 4194304 := fun p hp => by rw [hmd.2.2] at hp; have := tot_mem hp; rw [(rle_lies (sv l0).occ H _).2] at this; omega
    have HPre := Aside0.mk (And.intro (mkP_snoc H pre x) (And.intro (mkC_snoc H pre x) (show mkN (pre ++ [x]) = x.1 + x.2.1 by rw [mkN_snoc, hmd.1])))
    have HN := Aside0.mk hN
    clear hRd hN hs hnr hmd hmd2
    obtain ⟨x1, x2, x3⟩ := x
    dsimp only at hxb s0 s1 HBX HPre HN p2
    obtain ⟨K, hK⟩ : ∃ K, H - x1 = K := ⟨_, rfl⟩
    have hm1 : mxI ((H : Int) - (x1 : Int)) 0 = (K : Int) := by unfold mxI; split <;> omega
    obtain ⟨AH, hAH⟩ : ∃ AH, min K x2 = AH := ⟨_, rfl⟩
    have hm2 := mnI_nat K x2
    rw [hAH] at hm2
    have hAb : AH ≤ x2 := by omega
    rw [hK, hAH] at HPre
    have HJ := Aside0.mk (joinedS_is (w1.heap.size + 9) Vp (mkP H pre) AH x3 W HN.out.rp hWs (by omega) (fun p hp => by have := hPt p hp; omega) (by omega))
    have HCB := Aside0.mk (And.intro hCl hCt)
    clear hK hAH hPl hPt hCl hCt
    have hwr1 : IntKind.i64.wrap ((H : Int) - (x1 : Int)) = (H : Int) - (x1 : Int) := IntWalk.i64_in _ (by omega)
    gi_wp2
    refine ⟨trivial, ?_⟩
    gi_at_call 39
    refine (CallsIn.inRound _ (callsIn_wide.2 HJ.out)).mono ?_
    rintro e W1 ⟨Vp', rfl, hr1, hk1⟩
    obtain ⟨pa, pc, rfl⟩ := own2_shape' hr1
    obtain ⟨PL, hPL⟩ : ∃ PL, (jn (mkP H pre) AH x3).length = PL := ⟨_, rfl⟩
    have hN1 := HN.out.putP hWs hr1 hk1
    rw [hPL] at hr1 hk1 hN1 ⊢
    have hbx1 := (hk1.same b (blk_lt HBX.out) n1).trans HBX.out
    have hbx2 := (Below.heap_setCell W1 ⟨w1.heap.size + 1, 0, none⟩ (.slice pa PL pc) b (by show b ≠ w1.heap.size + 1; omega)).trans hbx1
    have tb1 := (hk1.same (w1.heap.size + 1) (by omega) (fun e => by have := (own2_base HN.out.rp _ e).1; omega)).trans HN.out.tb
    have tf1 := blk_frozen tb1 0
    have tc1 := (blk_cell tb1 0).trans rfl
    obtain ⟨W2, hW2⟩ : ∃ W2, W1.setCell ⟨w1.heap.size + 1, 0, none⟩ (.slice pa PL pc) = W2 := ⟨_, rfl⟩
    have kf1 : KeepsFrom w4.heap.size W W2 := by
      rw [← hW2]
      refine ⟨by simp; exact hk1.size, fun k o hB h0 ho => (Below.heap_setCell _ _ _ k (by show k ≠ w1.heap.size + 1; omega)).trans ((hk1.same k (blk_lt h0) (fun e2 => ?_)).trans h0)⟩
      obtain ⟨_, _, cs, hc⟩ := own2_base HN.out.rp k e2
      rw [h0] at hc
      cases hc
      cases ho
    have kp1 : PKs w.heap.size (w1.heap.size + 3) (w4.heap.size + 1) W W2 := by
      rw [← hW2]
      refine ⟨by simp; exact hk1.size, fun k hlt h => (Below.heap_setCell _ _ _ k (by have := HN.out.la; show k ≠ w1.heap.size + 1; omega)).trans (hk1.same k hlt (fun e2 => by have := (own2_base HN.out.rp k e2).1; have := HN.out.la; omega))⟩
    have hWs2 : w1.heap.size + 9 ≤ W2.heap.size := Nat.le_trans hWs kf1.size
    rw [hW2] at hN1 hbx2
    have HN1 := Aside0.mk hN1
    have HKF := Aside0.mk kf1
    have HKP := Aside0.mk kp1
    have HBX2 := Aside0.mk hbx2
    have u0 := (blk_cell hbx2 0).trans rfl
    have u1 := (blk_cell hbx2 1).trans rfl
    have v1 := (blk_cell hN1.tb 1).trans rfl
    have HJ2 := Aside0.mk (joinedS_is (w1.heap.size + 9) Vc (mkC H pre) (x2 - AH) x3 W2 hN1.rc hWs2 (by omega) (fun p hp => by have := HCB.out.2 p hp; omega) HCB.out.1)
    rw [show ((x2 - AH : Nat) : Int) = (x2 : Int) - (AH : Int) by omega] at HJ2
    have HPL := Aside0.mk hPL
    clear hN1 kf1 kp1 hbx1 hbx2 hr1 hk1 s0 s1 p0 p1 p2 pf tb1 HJ hPL
    gi_wp2
    refine ⟨trivial, ?_⟩
    gi_at_call 39
    refine (CallsIn.inRound _ (callsIn_wide.2 HJ2.out)).mono ?_
    rintro e W3 ⟨Vc', rfl, hr2, hk2⟩
    obtain ⟨qa, qc, rfl⟩ := own2_shape' hr2
    obtain ⟨QL, hQL⟩ : ∃ QL, (jn (mkC H pre) (x2 - AH) x3).length = QL := ⟨_, rfl⟩
    have hN2 := HN1.out.putC hWs2 hr2 hk2
    rw [hQL] at hr2 hk2 hN2 ⊢
    have hbx3 := (hk2.same b (blk_lt HBX2.out) n2).trans HBX2.out
    have hbx4 := (Below.heap_setCell W3 ⟨w1.heap.size + 1, 1, none⟩ (.slice qa QL qc) b (by show b ≠ w1.heap.size + 1; omega)).trans hbx3
    have tb2 := (hk2.same (w1.heap.size + 1) (by omega) (fun e => by have := (own2_base HN1.out.rc _ e).1; omega)).trans HN1.out.tb
    have tf2 := blk_frozen tb2 1
    have tc2 := (blk_cell tb2 1).trans rfl
    obtain ⟨W4, hW4⟩ : ∃ W4, W3.setCell ⟨w1.heap.size + 1, 1, none⟩ (.slice qa QL qc) = W4 := ⟨_, rfl⟩
    have kf2 : KeepsFrom w4.heap.size W2 W4 := by
      rw [← hW4]
      refine ⟨by simp; exact hk2.size, fun k o hB h0 ho => (Below.heap_setCell _ _ _ k (by show k ≠ w1.heap.size + 1; omega)).trans ((hk2.same k (blk_lt h0) (fun e2 => ?_)).trans h0)⟩
      obtain ⟨_, _, cs, hc⟩ := own2_base HN1.out.rc k e2
      rw [h0] at hc
      cases hc
      cases ho
    have kp2 : PKs w.heap.size (w1.heap.size + 3) (w4.heap.size + 1) W2 W4 := by
      rw [← hW4]
      refine ⟨by simp; exact hk2.size, fun k hlt h => (Below.heap_setCell _ _ _ k (by have := HN1.out.la; show k ≠ w1.heap.size + 1; omega)).trans (hk2.same k hlt (fun e2 => by have := (own2_base HN1.out.rc k e2).1; have := HN1.out.la; omega))⟩
    rw [hW4] at hN2 hbx4
    have y0 := (blk_cell hbx4 0).trans rfl
    have z0 := (blk_cell hN2.nw 0).trans rfl
    have zf := blk_frozen hN2.nw 0
    have kf3 : KeepsFrom w4.heap.size W4 (W4.setCell ⟨w1.heap.size + 2, 0, none⟩ (.int .i64 ((x1 : Int) + (x2 : Int)))) := ⟨by simp, fun k o hB h0 ho => (Below.heap_setCell _ _ _ k (by show k ≠ w1.heap.size + 2; omega)).trans h0⟩
    have kp3 : PKs w.heap.size (w1.heap.size + 3) (w4.heap.size + 1) W4 (W4.setCell ⟨w1.heap.size + 2, 0, none⟩ (.int .i64 ((x1 : Int) + (x2 : Int)))) := ⟨by simp, fun k hlt h => Below.heap_setCell _ _ _ k (by have := HN1.out.la; show k ≠ w1.heap.size + 2; omega)⟩
    have hN3 := hN2.putN (x1 + x2)
    rw [show ((x1 + x2 : Nat) : Int) = (x1 : Int) + (x2 : Int) from Int.natCast_add _ _] at hN3
    have HE := Aside0.mk (And.intro (HKF.out.trans (kf2.trans kf3)) (And.intro (PKs_t HKP.out (PKs_t kp2 kp3)) hN3))
    clear hN2 kf2 kp2 kf3 kp3 hN3 hbx3 hbx4 hr2 hk2 tb2 u0 u1 v1 hQL HJ2
    gi_wp2
    refine ⟨HE.out.1, HE.out.2.1, .slice pa PL pc, .slice qa QL qc, ?_⟩
    rw [HPre.out.1, HPre.out.2.1, HPre.out.2.2]
    exact ⟨HE.out.2.2, .inr (Nat.le_trans hWs HE.out.1.size)⟩
  case stop =>
    rintro D c pre W _ _ h _
    exact h.elim
  case done =>
    rintro D xs W hD rfl ⟨Vp, Vc, hN, hz⟩ hK
    have hmd := made_all (sv l0) H (2 * H) _ [] 0 HCov.out (Nat.zero_le _) (made_nil _ _)
    rw [List.nil_append] at hmd
    rw [hmd.2.1, hmd.2.2, show min (2 * H) H = H by omega, show 2 * H - H = H by omega] at hN
    have HN := Aside0.mk hN
    have HK := Aside0.mk hK
    obtain ⟨P, hP⟩ : ∃ P, rle (sv l0).occ 0 H = P := ⟨_, rfl⟩
    obtain ⟨C, hC⟩ : ∃ C, rle (sv l0).occ H H = C := ⟨_, rfl⟩
    have hPl : P.length ≤ 4194304 := by rw [← hP]; exact Nat.le_trans (rle_length _ _ _) (by omega)
    have hCl : C.length ≤ 4194304 := by rw [← hC]; exact Nat.le_trans (rle_length _ _ _) (by omega)
    rw [hP, hC] at HN
    have HPE := Aside0.mk hP
    have HCE := Aside0.mk hC
    obtain ⟨pa, pc, rfl⟩ := own2_shape' HN.out.rp
    obtain ⟨qa, qc, rfl⟩ := own2_shape' HN.out.rc
    have HO := Aside0.mk (own_is pa pc (P.map toS) qa qc (C.map toS) W (Kd.R_reads' (slots_R HN.out.rp)).2.2 (Kd.R_reads' (slots_R HN.out.rc)).2.2 (by simp; omega) (by simp; omega))
    rw [List.length_map, List.length_map] at HO
    have t0 := (blk_cell HN.out.tb 0).trans rfl
    have t1 := (blk_cell HN.out.tb 1).trans rfl
    clear hN hK hP hC hmd hz
    gi_wp2
    refine ⟨trivial, ?_⟩
    gi_at_call 40
    refine (callsIn_wide.2 HO.out).mono ?_
    rintro e W2 ⟨v0, v1, rfl, hv0, hv1, hB2⟩
    obtain ⟨f0, k0, e0⟩ := TV_slice hv0
    obtain ⟨f1, k1, e1⟩ := TV_slice hv1
    rw [List.length_map] at e0 e1
    subst e0 e1
    have rs2 := (hB2.block _ (blk_lt HN.out.rs)).trans HN.out.rs
    have rf0 := blk_frozen rs2 0
    have rf1 := blk_frozen rs2 1
    have rc0 := (blk_cell rs2 0).trans rfl
    have rc1 := (blk_cell rs2 1).trans rfl
    have RS := Aside0.mk rs2
    have HV0 := Aside0.mk hv0
    have HV1 := Aside0.mk hv1
    have HB2 := Aside0.mk hB2
    have hl := HN.out.la
    have HKW := Aside0.mk (show ((W2.setCell ⟨w.heap.size, 0, none⟩ (.slice f0 P.length k0)).setCell ⟨w.heap.size, 1, none⟩ (.slice f1 C.length k1)).heap[D]? = some (.deferred (some [])) from
      (Below.heap_setCell _ _ _ D (by show D ≠ w.heap.size; omega)).trans ((Below.heap_setCell _ _ _ D (by show D ≠ w.heap.size; omega)).trans ((hB2.block D (blk_lt HK.out)).trans HK.out)))
    clear rs2 hv0 hv1 hB2
    gi_wp2
    refine ⟨by simp, .inl ⟨_, _, rfl, run_takeDeferred HKW.out, ?_⟩⟩
    obtain ⟨W3, hW3⟩ : ∃ W3, (W2.setCell ⟨w.heap.size, 0, none⟩ (.slice f0 P.length k0)).setCell ⟨w.heap.size, 1, none⟩ (.slice f1 C.length k1) = W3 := ⟨_, rfl⟩
    have e3 : W3.heap[w.heap.size]? = some (.cells #[.slice f0 P.length k0, .slice f1 C.length k1] 27 (0, 0)) := by rw [← hW3]; exact blk_put (blk_put RS.out 0 _ rfl) 1 _ rfl
    have k3 : ∀ k, k ≠ w.heap.size → W3.heap[k]? = W2.heap[k]? := fun k hk => by rw [← hW3]; exact (Below.heap_setCell _ _ _ k hk).trans (Below.heap_setCell _ _ _ k hk)
    have o3 : W3.os = W2.os ∧ W3.tape = W2.tape ∧ W3.output = W2.output ∧ W3.heap.size = W2.heap.size := by rw [← hW3]; exact ⟨rfl, rfl, rfl, by simp [World.setCell]⟩
    have HKD := HKW.out
    rw [hW3] at HKD ⊢
    obtain ⟨W5, hW5⟩ : ∃ W5, W3.putObj D (.deferred none) = W5 := ⟨_, rfl⟩
    have e5 : W5.heap[w.heap.size]? = some (.cells #[.slice f0 P.length k0, .slice f1 C.length k1] 27 (0, 0)) := by rw [← hW5]; exact (World.putObj_heap_other (by omega)).trans e3
    have b5 : Below w.heap.size W3 W5 := by rw [← hW5]; exact below_put _ HKD (by omega)
    have k5 : ∀ k, k ≠ w.heap.size → k ≠ D → W5.heap[k]? = W2.heap[k]? := fun k h1 h2 => by rw [← hW5]; exact (World.putObj_heap_other (by omega)).trans (k3 k h1)
    have hD2 : ∃ o, W2.heap[D]? = some (.deferred o) := ⟨_, (HB2.out.block D (blk_lt HK.out)).trans HK.out⟩
    rw [hW5]
    have z0 := (blk_cell e5 0).trans rfl
    have z1 := (blk_cell e5 1).trans rfl
    refine ⟨.tuple #[.agg #[.slice f0 P.length k0, .slice f1 C.length k1], .int .i64 0], by simp [results, Tryd.results9, go_sem, z0, z1], _, _, rfl, ?_, ?_, ?_⟩
    · rw [HPE.out]
      refine TV_lower (TV_mono (TV_step (TV_sep hD2 (TV_types HV0.out RS.out (by decide))) fun k hk _ => k5 k hk.1.2 hk.2) (fun _ _ => trivial)) ?_
      exact HN.out.bel.size
    · rw [HCE.out]
      refine TV_lower (TV_mono (TV_step (TV_sep hD2 (TV_types HV1.out RS.out (by decide))) fun k hk _ => k5 k hk.1.2 hk.2) (fun _ _ => trivial)) ?_
      exact HN.out.bel.size
    · refine Below.trans ?_ b5
      have hb := HN.out.bel.trans (HB2.out.mono HN.out.bel.size)
      exact ⟨o3.1.trans hb.os, o3.2.1.trans hb.tape, o3.2.2.1.trans hb.output, by rw [o3.2.2.2]; exact hb.size, fun k hk => (k3 k (by omega)).trans (hb.block k hk)⟩

/-- What Make tells. -/
def slots_Make.f (l : List S24) : Option (List S72 × List S72 × Int) :=
  some (if (hypS lcmF l).2 = 0 then ((rle (sv l).occ 0 (hyp l)).map toS, (rle (sv l).occ (hyp l) (hyp l)).map toS, 0) else ([], [], (hypS lcmF l).2))

set_option maxHeartbeats 4000000 in
set_option maxRecDepth 100000 in
theorem slots_Make.calls (A0 : Option Addr) (c0 : Nat) (l0 : List S24) (r0 r1 : List S72) (r2 : Int) (w : World) (hr0 : Kd.C k24 w A0 l0.length l0) (hc0 : l0.length ≤ c0) (hG : GH w) (h : slots_Make.f l0 = some (r0, r1, r2)) :
    Calls Tryd.prog 9 #[.slice A0 l0.length c0] w fun e w' => ∃ v0_ v1_ : Value, e = .returned (.tuple #[.agg #[v0_, v1_], .int .i64 r2]) ∧ TV k72 72 w' w.heap.size (fun _ => True) v0_ r0 ∧ TV k72 72 w' w.heap.size (fun _ => True) v1_ r1 ∧ Below w.heap.size w w' := by
  have HH := Aside0.mk (fun (w1 : World) (hb : Below w.heap.size w w1) => check_Hyper.calls A0 c0 l0 (hypS lcmF l0).1 (hypS lcmF l0).2 w1 (Kd.C_below hr0 hb) hc0 (GH_below hG hb) rfl)
  unfold slots_Make.f at h
  by_cases he : (hypS lcmF l0).2 = 0
  · rw [if_pos he] at h
    simp only [Option.some.injEq, Prod.mk.injEq] at h
    obtain ⟨rfl, rfl, rfl⟩ := h
    obtain ⟨hbd, hok, hH1, hH2, hHe, hOk⟩ := ok_of_hyp l0 he
    rw [he, hHe] at HH
    exact make_is A0 c0 l0 (hyp l0) w ⟨hr0⟩ ⟨hok⟩ ⟨hbd⟩ hH2 hH1 HH
  · rw [if_neg he] at h
    simp only [Option.some.injEq, Prod.mk.injEq] at h
    obtain ⟨rfl, rfl, rfl⟩ := h
    obtain ⟨E, hE⟩ : ∃ E, (hypS lcmF l0).2 = E := ⟨_, rfl⟩
    obtain ⟨X, hX⟩ : ∃ X, (hypS lcmF l0).1 = X := ⟨_, rfl⟩
    rw [hE] at he
    rw [hE, hX] at HH
    rw [hE]
    have h1 : (E == 0) = false := by rw [beq_eq_false_iff_ne]; exact he
    have h2 : (E != 0) = true := by rw [bne_iff_ne]; exact he
    have hu27 := Tryd.underlying27
    clear hE hX hr0 hG
    go_enter Tryd.func9, Tryd.ntmps9
    go_wp2_with (go_at_call 23; refine (HH.out _ ?hbb).mono ?_; (case hbb => exact (Below.refl _ w).alloc (Nat.le_refl _) _); rintro e w1 ⟨rfl, hb1⟩; have r0 := (hb1.block w.heap.size (by simp)).trans (heap_alloc_new w (.cells #[.slice none 0 0, .slice none 0 0] 27)); have HB := Aside0.mk (((Below.refl _ w).alloc (Nat.le_refl _) (.cells #[.slice none 0 0, .slice none 0 0] 27)).trans (hb1.mono (by simp))); have R0 := Aside0.mk (blk_alloc r0 (.cells #[.int .i64 X] 3)); have q0 := (blk_cell R0.out 0).trans rfl; have q1 := (blk_cell R0.out 1).trans rfl; have qf0 := blk_frozen R0.out 0; have qf1 := blk_frozen R0.out 1; clear hb1 r0)
    have e5 := blk_put (blk_put R0.out 0 (.slice none 0 0) rfl) 1 (.slice none 0 0) rfl
    have z0 := (blk_cell e5 0).trans rfl
    have z1 := (blk_cell e5 1).trans rfl
    refine bodyPost_ret (v := .tuple #[.agg #[.slice none 0 0, .slice none 0 0], .int .i64 E]) (by simp [results, Tryd.results9, go_sem, z0, z1]) rfl ⟨_, _, rfl, TV_nil, TV_nil, ?_⟩
    exact (((HB.out.alloc HB.out.size _).setCell (p := ⟨w.heap.size, 0, none⟩) (Nat.le_refl _) _).setCell (p := ⟨w.heap.size, 1, none⟩) (Nat.le_refl _) _)
end Go.Proofs.YtckdjcidbpnfeaaDoor.B
