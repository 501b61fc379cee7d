/- Proved: the contract of the codec law's put: one call on the program's Writer and on the document's, by its kind. Conditions: bounds of the lengths. -/
import Derived.Test.YtceeoifbimlkdaaHWO
import Derived.Test.YtceeoifbimlkdaaHOp
namespace Go.Proofs.Ytceeoifbimlkdaa.B
open Go.RowKit Go.Proofs.YtceeoifbimlkdaaW.PrintWords Go.Proofs.YtceeoifbimlkdaaW.PrintLast Go.Proofs.YtceeoifbimlkdaaW.PrintMore

theorem PK.behind {W W1 w' : World} {g q : Nat} {v v' u u' : Value} (hb : Below W.heap.size W W1) (h : PK W1 w' g v v' q u u') : PK W w' g v v' q u u' := by
  refine ⟨⟨h.os.1.trans hb.os, h.os.2.1.trans hb.tape, h.os.2.2.trans hb.output⟩, Nat.le_trans hb.size h.size, fun k hk h1 h2 h3 h4 => (h.block k (Nat.lt_of_lt_of_le hk hb.size) h1 h2 h3 h4).trans (hb.block k hk), ?_, ?_⟩
  · rcases h.own with e | ⟨b, e, hb2⟩
    · exact .inl e
    · exact .inr ⟨b, e, Nat.le_trans hb.size hb2⟩
  · rcases h.own2 with e | ⟨b, e, hb2⟩
    · exact .inl e
    · exact .inr ⟨b, e, Nat.le_trans hb.size hb2⟩
theorem PK.grown {W w w' : World} {g q : Nat} {v v' u u' : Value} {row : Option Nat} (h : PK W w g v v' q u u') (hg : w.grownBy w' row) (hr : ∀ b, row = some b → W.heap.size ≤ b) : PK W w' g v v' q u u' :=
  ⟨⟨hg.os.trans h.os.1, hg.tape.trans h.os.2.1, hg.output.trans h.os.2.2⟩, Nat.le_trans h.size hg.size, fun k hk h1 h2 h3 h4 => (hg.block k (Nat.lt_of_lt_of_le hk h.size) (fun e => by have := hr k e.symm; omega)).trans (h.block k hk h1 h2 h3 h4), h.own, h.own2⟩
theorem WO.grown {w w' : World} {base g q : Nat} {v u : Value} {s t : List Int × Int} {row : Option Nat} (h : WO w base g v s q u t) (hg : w.grownBy w' row) (h1 : some g ≠ row) (h2 : some q ≠ row) (h3 : ∀ b, v.ownBlock = some b → some b ≠ row) (h4 : ∀ b, u.ownBlock = some b → some b ≠ row) : WO w' base g v s q u t :=
  ⟨⟨h.wr.low, (hg.block g (blk_lt h.wr.blk) h1).trans h.wr.blk, row_kept h.wr.row fun k e => hg.block k (row_lt h.wr.row e).2 (h3 k e)⟩, ⟨h.ou.low, (hg.block q (blk_lt h.ou.blk) h2).trans h.ou.blk, row_kept h.ou.row fun k e => hg.block k (row_lt h.ou.row e).2 (h4 k e)⟩, h.ne⟩
theorem moved_ne {a b : Option Nat} {n g9 : Nat} (h : b = a ∨ ∃ k, b = some k ∧ n ≤ k) (h1 : a ≠ some g9) (h2 : g9 < n) : ∀ k, b = some k → some k ≠ some g9 := by
  intro k e e2
  cases e2
  rcases h with h | ⟨k, h, h3⟩
  · exact h1 (by rw [← h, e])
  · rw [e] at h
    cases h
    omega
theorem F_lent {e base : Nat} {W : World} {g g9 n c : Nat} {v : Value} {xs ys : List Int} (h : Own .i64 e W base ⟨some ⟨g9, 0, none⟩, n, c⟩ (xs ++ ys)) (h1 : g9 ≠ g) (h2 : v.ownBlock ≠ some g9) : Kd.F (Kd.int .i64) W (fun k => k ≠ g ∧ some k ≠ v.ownBlock) (some ⟨g9, 0, none⟩) xs.length xs := fun W' hk =>
  take_reads (h.move fun b hb => by
    have hb2 : some g9 = some b := hb
    cases hb2
    exact hk g9 ⟨h1, fun e => h2 e.symm⟩ (h.lt g9 rfl).2)
theorem wHead_stick (s : List Int × Int) (n : Nat) (most : Int) (h : s.2 ≠ 0) : wHead s n most = s := by
  unfold wHead wFail wPut
  split <;> (first | rfl | rw [if_neg h])
theorem wAt_full (s : List Int × Int) (l : List Int) (most : Int) : wAt s l most l.length = wOp s ⟨7, 0, 0, false, [], l, most⟩ := by
  rw [wAt_end]
  unfold wOp
  simp
/-- What put leaves. -/
def PutPost (W : World) (base g : Nat) (v : Value) (q : Nat) (u : Value) (s' : List Int × Int) (e : Ending) (w' : World) : Prop := e = .returned (.bool true) ∧ ∃ v' u', WO w' base g v' s' q u' s' ∧ PK W w' g v v' q u u'
set_option maxHeartbeats 16000000 in
set_option maxRecDepth 100000 in
theorem put_is (o : OpL) (A1 : Option Addr) (c1 : Nat) (A2 : Option Addr) (c2 : Nat) (W0 W : World) (hW : Below W0.heap.size W0 W) (hr1 : Kd.C (Kd.int .u8) W0 A1 o.bytes.length o.bytes) (hc1 : o.bytes.length ≤ c1) (hr2 : Kd.C (Kd.int .i64) W0 A2 o.list.length o.list) (hc2 : o.list.length ≤ c2)
    (g : Nat) (v : Value) (q : Nat) (u : Value) (s : List Int × Int) (h : WO W W0.heap.size g v s q u s) (hl : s.1.length + 8 + o.bytes.length + 2 * o.list.length ≤ 4398046511104) (hn2 : o.list.length < 4294967296) :
    Calls Try.prog 36 #[.pointer (some ⟨g, 0, none⟩), .pointer (some ⟨q, 0, none⟩), .agg #[.int .i64 o.kind, .int .i64 o.n, .int .i64 o.wide, .bool o.flag, .slice A1 o.bytes.length c1, .slice A2 o.list.length c2, .int .i64 o.most]] W (PutPost W W0.heap.size g v q u (wOp s o)) := by
  have hu58 := Try.underlying58
  have hu53 := Try.underlying53
  obtain ⟨kind, n, wide, flag, bytes, list, most⟩ := o
  dsimp only at hr1 hc1 hr2 hc2 hl hn2 ⊢
  obtain ⟨N1, hN1⟩ : ∃ N, bytes.length = N := ⟨_, rfl⟩
  obtain ⟨N2, hN2⟩ : ∃ N, list.length = N := ⟨_, rfl⟩
  rw [hN1] at hr1 hc1 hl ⊢
  rw [hN2] at hr2 hc2 hl hn2 ⊢
  have HN1 := Aside0.mk hN1
  have HN2 := Aside0.mk hN2
  obtain ⟨W1, hW1⟩ : ∃ W1, W.alloc (.cells #[.int .i64 kind, .int .i64 n, .int .i64 wide, .bool flag, .slice A1 N1 c1, .slice A2 N2 c2, .int .i64 most] 58) = W1 := ⟨_, rfl⟩
  have hB : Below W.heap.size W W1 := by rw [← hW1]; exact (Below.refl _ _).alloc (Nat.le_refl _) _
  have hx : W1.heap[W.heap.size]? = some (.cells #[.int .i64 kind, .int .i64 n, .int .i64 wide, .bool flag, .slice A1 N1 c1, .slice A2 N2 c2, .int .i64 most] 58 (0, 0)) := by rw [← hW1]; exact heap_alloc_new _ _
  have h1 := h.below hB
  have hb1 := Nat.le_trans hW.size hB.size
  have HB := Aside0.mk hB
  have HB1 := Aside0.mk hb1
  have H1 := Aside0.mk h1
  have HGL := Aside0.mk (show g < W1.heap.size ∧ q < W1.heap.size from ⟨blk_lt h1.wr.blk, blk_lt h1.ou.blk⟩)
  have HBX := Aside0.mk (fun (w' : World) (v1 u1 : Value) (hp : PK W1 w' g v v1 q u u1) => (hp.block W.heap.size (blk_lt hx) (fun e => by have := blk_lt h.wr.blk; omega) (fun e => by have := (row_lt h.wr.row e.symm).2; omega) (fun e => by have := blk_lt h.ou.blk; omega) (fun e => by have := (row_lt h.ou.row e.symm).2; omega)).trans hx)
  have HR1 := Aside0.mk (fun (w' : World) (v1 u1 : Value) (hp : PK W1 w' g v v1 q u u1) => Kd.C_below hr1 ((hW.trans (hB.mono hW.size)).trans (hp.bel h1 hb1)))
  have HR2 := Aside0.mk (fun (w' : World) (v1 u1 : Value) (hp : PK W1 w' g v v1 q u u1) => Kd.C_below hr2 ((hW.trans (hB.mono hW.size)).trans (hp.bel h1 hb1)))
  have HP0 := Aside0.mk (PK.of_below (g := g) (v := v) (q := q) (u := u) (Below.refl W1.heap.size W1))
  have HC1 := Aside0.mk hc1
  have HC2 := Aside0.mk hc2
  have HL := Aside0.mk hl
  have HN := Aside0.mk hn2
  have HVN := Aside0.mk (fun (g9 : Nat) (h9 : W1.heap.size ≤ g9) => (show v.ownBlock ≠ some g9 ∧ u.ownBlock ≠ some g9 from ⟨fun e => by have := (row_lt h1.wr.row e).2; omega, fun e => by have := (row_lt h1.ou.row e).2; omega⟩))
  obtain ⟨sf, hsf⟩ : ∃ sf, wOp s ⟨kind, n, wide, flag, bytes, list, most⟩ = sf := ⟨_, rfl⟩
  rw [hsf]
  clear hW hr1 hc1 hr2 hc2 hN1 hN2 hB hx h1 hb1 h hn2
  by_cases k1 : kind = 1
  · subst k1
    have e : wNum s n 1 = sf := by rw [← hsf]; unfold wOp; simp
    have hc := wU8_any n W1 W0.heap.size g v s H1.out.wr HB1.out (by omega)
    have hco := fun (w' : World) (v1 : Value) (hwo : WO w' W0.heap.size g v1 sf q u s) (hs : W0.heap.size ≤ w'.heap.size) => oU8_is n w' W0.heap.size q u s hwo.ou hs (by omega)
    rw [e] at hc
    simp only [e] at hco
    have HC := Aside0.mk hc
    have HCO := Aside0.mk hco
    subst hW1
    clear hsf hl hc hco e
    go_enter Try.func36, Try.ntmps36
    go_wp2_with (first
      | (go_at_call 71; have HCC := HC.out; (with_reducible refine HCC.mono ?_); rintro e w1 ⟨⟨vr, rfl⟩, v1, hw1, hk1⟩; have HWO := Aside0.mk (H1.out.w (s' := sf) hw1 hk1); have HPK := Aside0.mk (HP0.out.w hk1); have y1 : w1.cell? ⟨W.heap.size, 1, none⟩ = some (.int .i64 n) := (blk_cell (HBX.out w1 v1 u HPK.out) 1).trans rfl; have HSZ := Aside0.mk (Nat.le_trans HB1.out HPK.out.size); clear hw1 hk1 HCC HC)
      | (go_at_call 72; have HCC := HCO.out w1 v1 HWO.out HSZ.out; (with_reducible refine HCC.mono ?_); rintro e w2 ⟨rfl, u2, ho2, hk2⟩; have HWO2 := Aside0.mk (HWO.out.o ho2 hk2); have HPK2 := Aside0.mk (HPK.out.o hk2); clear ho2 hk2 HCC))
    go_ret
    exact ⟨rfl, v1, u2, HWO2.out, PK.behind HB.out HPK2.out⟩
  by_cases k2 : kind = 2
  · subst k2
    have e : wNum s n 2 = sf := by rw [← hsf]; unfold wOp; simp
    have hc := wU16_any n W1 W0.heap.size g v s H1.out.wr HB1.out (by omega)
    have hco := fun (w' : World) (v1 : Value) (hwo : WO w' W0.heap.size g v1 sf q u s) (hs : W0.heap.size ≤ w'.heap.size) => oU16_is n w' W0.heap.size q u s hwo.ou hs (by omega)
    rw [e] at hc
    simp only [e] at hco
    have HC := Aside0.mk hc
    have HCO := Aside0.mk hco
    subst hW1
    clear hsf hl hc hco e
    go_enter Try.func36, Try.ntmps36
    go_wp2_with (first
      | (go_at_call 73; have HCC := HC.out; (with_reducible refine HCC.mono ?_); rintro e w1 ⟨⟨vr, rfl⟩, v1, hw1, hk1⟩; have HWO := Aside0.mk (H1.out.w (s' := sf) hw1 hk1); have HPK := Aside0.mk (HP0.out.w hk1); have y1 : w1.cell? ⟨W.heap.size, 1, none⟩ = some (.int .i64 n) := (blk_cell (HBX.out w1 v1 u HPK.out) 1).trans rfl; have HSZ := Aside0.mk (Nat.le_trans HB1.out HPK.out.size); clear hw1 hk1 HCC HC)
      | (go_at_call 74; have HCC := HCO.out w1 v1 HWO.out HSZ.out; (with_reducible refine HCC.mono ?_); rintro e w2 ⟨rfl, u2, ho2, hk2⟩; have HWO2 := Aside0.mk (HWO.out.o ho2 hk2); have HPK2 := Aside0.mk (HPK.out.o hk2); clear ho2 hk2 HCC))
    go_ret
    exact ⟨rfl, v1, u2, HWO2.out, PK.behind HB.out HPK2.out⟩
  by_cases k3 : kind = 3
  · subst k3
    have e : wNum s n 4 = sf := by rw [← hsf]; unfold wOp; simp
    have hc := wU32_any n W1 W0.heap.size g v s H1.out.wr HB1.out (by omega)
    have hco := fun (w' : World) (v1 : Value) (hwo : WO w' W0.heap.size g v1 sf q u s) (hs : W0.heap.size ≤ w'.heap.size) => oU32_is n w' W0.heap.size q u s hwo.ou hs (by omega)
    rw [e] at hc
    simp only [e] at hco
    have HC := Aside0.mk hc
    have HCO := Aside0.mk hco
    subst hW1
    clear hsf hl hc hco e
    go_enter Try.func36, Try.ntmps36
    go_wp2_with (first
      | (go_at_call 75; have HCC := HC.out; (with_reducible refine HCC.mono ?_); rintro e w1 ⟨⟨vr, rfl⟩, v1, hw1, hk1⟩; have HWO := Aside0.mk (H1.out.w (s' := sf) hw1 hk1); have HPK := Aside0.mk (HP0.out.w hk1); have y1 : w1.cell? ⟨W.heap.size, 1, none⟩ = some (.int .i64 n) := (blk_cell (HBX.out w1 v1 u HPK.out) 1).trans rfl; have HSZ := Aside0.mk (Nat.le_trans HB1.out HPK.out.size); clear hw1 hk1 HCC HC)
      | (go_at_call 76; have HCC := HCO.out w1 v1 HWO.out HSZ.out; (with_reducible refine HCC.mono ?_); rintro e w2 ⟨rfl, u2, ho2, hk2⟩; have HWO2 := Aside0.mk (HWO.out.o ho2 hk2); have HPK2 := Aside0.mk (HPK.out.o hk2); clear ho2 hk2 HCC))
    go_ret
    exact ⟨rfl, v1, u2, HWO2.out, PK.behind HB.out HPK2.out⟩
  by_cases k4 : kind = 4
  · subst k4
    have e : wI64 s wide = sf := by rw [← hsf]; unfold wOp; simp
    have hc := wI64_any wide W1 W0.heap.size g v s H1.out.wr HB1.out (by omega)
    have hco := fun (w' : World) (v1 : Value) (hwo : WO w' W0.heap.size g v1 sf q u s) (hs : W0.heap.size ≤ w'.heap.size) => oI64_is wide w' W0.heap.size q u s hwo.ou hs (by omega)
    rw [e] at hc
    simp only [e] at hco
    have HC := Aside0.mk hc
    have HCO := Aside0.mk hco
    subst hW1
    clear hsf hl hc hco e
    go_enter Try.func36, Try.ntmps36
    go_wp2_with (first
      | (go_at_call 77; have HCC := HC.out; (with_reducible refine HCC.mono ?_); rintro e w1 ⟨⟨vr, rfl⟩, v1, hw1, hk1⟩; have HWO := Aside0.mk (H1.out.w (s' := sf) hw1 hk1); have HPK := Aside0.mk (HP0.out.w hk1); have y2 : w1.cell? ⟨W.heap.size, 2, none⟩ = some (.int .i64 wide) := (blk_cell (HBX.out w1 v1 u HPK.out) 2).trans rfl; have HSZ := Aside0.mk (Nat.le_trans HB1.out HPK.out.size); clear hw1 hk1 HCC HC)
      | (go_at_call 78; have HCC := HCO.out w1 v1 HWO.out HSZ.out; (with_reducible refine HCC.mono ?_); rintro e w2 ⟨rfl, u2, ho2, hk2⟩; have HWO2 := Aside0.mk (HWO.out.o ho2 hk2); have HPK2 := Aside0.mk (HPK.out.o hk2); clear ho2 hk2 HCC))
    go_ret
    exact ⟨rfl, v1, u2, HWO2.out, PK.behind HB.out HPK2.out⟩
  by_cases k5 : kind = 5
  · subst k5
    have e : wNum s (if flag = true then 1 else 0) 1 = sf := by rw [← hsf]; unfold wOp; simp
    have hc := wBool_any flag W1 W0.heap.size g v s H1.out.wr HB1.out (by omega)
    have hco := fun (w' : World) (v1 : Value) (hwo : WO w' W0.heap.size g v1 sf q u s) (hs : W0.heap.size ≤ w'.heap.size) => oBool_is flag w' W0.heap.size q u s hwo.ou hs (by omega)
    rw [e] at hc
    simp only [e] at hco
    have HC := Aside0.mk hc
    have HCO := Aside0.mk hco
    subst hW1
    clear hsf hl hc hco e
    go_enter Try.func36, Try.ntmps36
    go_wp2_with (first
      | (go_at_call 79; have HCC := HC.out; (with_reducible refine HCC.mono ?_); rintro e w1 ⟨⟨vr, rfl⟩, v1, hw1, hk1⟩; have HWO := Aside0.mk (H1.out.w (s' := sf) hw1 hk1); have HPK := Aside0.mk (HP0.out.w hk1); have y3 : w1.cell? ⟨W.heap.size, 3, none⟩ = some (.bool flag) := (blk_cell (HBX.out w1 v1 u HPK.out) 3).trans rfl; have HSZ := Aside0.mk (Nat.le_trans HB1.out HPK.out.size); clear hw1 hk1 HCC HC)
      | (go_at_call 80; have HCC := HCO.out w1 v1 HWO.out HSZ.out; (with_reducible refine HCC.mono ?_); rintro e w2 ⟨rfl, u2, ho2, hk2⟩; have HWO2 := Aside0.mk (HWO.out.o ho2 hk2); have HPK2 := Aside0.mk (HPK.out.o hk2); clear ho2 hk2 HCC))
    go_ret
    exact ⟨rfl, v1, u2, HWO2.out, PK.behind HB.out HPK2.out⟩
  by_cases k6 : kind = 6
  · subst k6
    have e : wPut s bytes = sf := by rw [← hsf]; unfold wOp; simp
    have HM := Aside0.mk (marked_is A1 N1 c1 bytes W1 (HR1.out W1 v u HP0.out) (by have := HN1.out; omega))
    have HCW := Aside0.mk (fun (g9 c9 : Nat) (w' : World) (hr : Kd.C (Kd.int .u8) w' (some ⟨g9, 0, none⟩) bytes.length bytes) (hwo : WO w' W0.heap.size g v s q u s) (hs : W0.heap.size ≤ w'.heap.size) => wBytes_any (some ⟨g9, 0, none⟩) c9 bytes w' W0.heap.size g v s hr hwo.wr hs (by have := HN1.out; omega))
    have HCO := Aside0.mk (fun (w' : World) (v1 : Value) (hwo : WO w' W0.heap.size g v1 sf q u s) (hs : W0.heap.size ≤ w'.heap.size) (hp : PK W1 w' g v v1 q u u) => oPut_is A1 N1 c1 bytes w' W0.heap.size q u s hwo.ou hs (HR1.out w' v1 u hp) (by have := HN1.out; omega))
    simp only [e, HN1.out] at HCW HCO
    have HLB := Aside0.mk (show bytes.length ≤ 4398046511104 by have := HN1.out; omega)
    have HLF := Aside0.mk (fun (g9 c9 : Nat) (w' : World) (ho : Own .u8 5 w' W1.heap.size ⟨some ⟨g9, 0, none⟩, bytes.length + 70, c9⟩ (bytes ++ List.replicate 70 165)) (v1 u1 : Value) (hp : PK W1 w' g v v1 q u u1) => left_is (.slice (some ⟨g9, 0, none⟩) bytes.length c9) bytes W1.heap.size A1 N1 c1 w' ⟨⟨g9, c9, rfl, ho⟩⟩ (HR1.out w' v1 u1 hp) HC1.out HLB.out)
    subst hW1
    clear hsf hl e
    go_enter Try.func36, Try.ntmps36
    go_wp2_with (first
      | (go_at_call 23; have HCC := HM.out; (with_reducible refine HCC.mono ?_); rintro e w2 ⟨v9, rfl, hm, hb⟩; obtain ⟨g9, c9, rfl, ho⟩ := hm.row; have HNS := HN1.out; rw [HNS] at ho ⊢; have HO2 := Aside0.mk ho; have HR2' := Aside0.mk (take_reads ho); have H92 := Aside0.mk (ho.lt g9 rfl); have HWO2 := Aside0.mk (H1.out.below hb); have HPK2 := Aside0.mk (PK.then_below HP0.out hb); have HLF' := HLF.out g9 c9; have HCW' := HCW.out g9 c9; rw [HNS] at HR2'; simp only [HNS] at HLF'; have HLF2 := Aside0.mk HLF'; have HCW2 := Aside0.mk (HCW' w2 HR2'.out HWO2.out (Nat.le_trans HB1.out HPK2.out.size)); clear hm hb ho HCC HM HLF HLF' HCW HCW' HNS)
      | (go_at_call 81; have HCC := HCW2.out; (with_reducible refine HCC.mono ?_); rintro e w3 ⟨⟨vr, rfl⟩, v3, hw3, hk3⟩; have HWO3 := Aside0.mk (HWO2.out.w hw3 hk3); have HPK3 := Aside0.mk (HPK2.out.w hk3); have HO3 := Aside0.mk (HO2.out.move (W' := w3) (fun b hb => (by have hb2 : some g9 = some b := hb; cases hb2; exact hk3.block g9 H92.out.2 (by have := HGL.out.1; have := H92.out.1; omega) (fun e => (HVN.out g9 H92.out.1).1 e.symm)))); have HV3 := Aside0.mk (moved_ne hk3.own (HVN.out g9 H92.out.1).1 H92.out.2); have y4 : w3.cell? ⟨W.heap.size, 4, none⟩ = some (.slice A1 N1 c1) := (blk_cell (HBX.out w3 v3 u HPK3.out) 4).trans rfl; have HCO2 := Aside0.mk (HCO.out w3 v3 HWO3.out (Nat.le_trans HB1.out HPK3.out.size) HPK3.out); have H93 := Aside0.mk (Nat.lt_of_lt_of_le H92.out.2 hk3.size); clear hw3 hk3 HCC HCO)
      | (go_at_call 82; have HCC := HCO2.out; (with_reducible refine HCC.mono ?_); rintro e w4 ⟨rfl, u4, ho4, hk4⟩; have HWO4 := Aside0.mk (HWO3.out.o ho4 hk4); have HPK4 := Aside0.mk (HPK3.out.o hk4); have HO4 := Aside0.mk (HO3.out.move (W' := w4) (fun b hb => (by have hb2 : some g9 = some b := hb; cases hb2; exact hk4.block g9 H93.out (by have := HGL.out.2; have := H92.out.1; omega) (fun e => (HVN.out g9 H92.out.1).2 e.symm)))); have HU4 := Aside0.mk (moved_ne hk4.own (HVN.out g9 H92.out.1).2 H93.out); clear y4; have y4 : w4.cell? ⟨W.heap.size, 4, none⟩ = some (.slice A1 N1 c1) := (blk_cell (HBX.out w4 v3 u4 HPK4.out) 4).trans rfl; have HLF4 := Aside0.mk (HLF2.out w4 HO4.out v3 u4 HPK4.out); clear ho4 hk4 HCC HCO2)
      | (go_at_call 29; have HCC := HLF4.out; (with_reducible refine HCC.mono ?_); rintro e w5 ⟨rfl, hg5⟩; have HWO5 := Aside0.mk (HWO4.out.grown hg5 (fun e => (by have := HGL.out.1; have := H92.out.1; have e2 : some g = some g9 := e; cases e2; omega)) (fun e => (by have := HGL.out.2; have := H92.out.1; have e2 : some q = some g9 := e; cases e2; omega)) HV3.out HU4.out); have HPK5 := Aside0.mk (HPK4.out.grown hg5 (fun b hb => (by have hb2 : some g9 = some b := hb; cases hb2; exact H92.out.1))); clear hg5 HCC))
    go_ret
    exact ⟨rfl, v3, u4, HWO5.out, PK.behind HB.out HPK5.out⟩
  by_cases k7 : kind = 7
  · subst k7
    have e : wList s list most = sf := by rw [← hsf]; unfold wOp; simp
    have HE := Aside0.mk e
    have HM := Aside0.mk (lent_is A2 N2 c2 list W1 (HR2.out W1 v u HP0.out) (by have := HN2.out; omega))
    have HCW := Aside0.mk (fun (g9 c9 : Nat) (w' : World) (hr : Kd.F (Kd.int .i64) w' (fun k => k ≠ g ∧ some k ≠ v.ownBlock) (some ⟨g9, 0, none⟩) list.length list) (hwo : WO w' W0.heap.size g v s q u s) (hs : W0.heap.size ≤ w'.heap.size) => putListP_is (some ⟨g9, 0, none⟩) c9 list most w' W0.heap.size g v s hr hwo.wr hs (by have := HN2.out; omega))
    simp only [e, HN2.out] at HCW
    have HLB := Aside0.mk (show list.length ≤ 4398046511104 by have := HN2.out; omega)
    have HLF := Aside0.mk (fun (g9 c9 : Nat) (w' : World) (ho : Own .i64 3 w' W1.heap.size ⟨some ⟨g9, 0, none⟩, list.length + 1, c9⟩ (list ++ [-77])) (v1 u1 : Value) (hp : PK W1 w' g v v1 q u u1) => stood_is (.slice (some ⟨g9, 0, none⟩) list.length c9) list W1.heap.size A2 N2 c2 w' ⟨⟨g9, c9, rfl, ho⟩⟩ (HR2.out w' v1 u1 hp) HC2.out HLB.out)
    have HCN := Aside0.mk (fun (w' : World) (v1 : Value) (hwo : WO w' W0.heap.size g v1 sf q u s) (hs : W0.heap.size ≤ w'.heap.size) => oCount_is N2 most HN.out w' W0.heap.size q u s hwo.ou hs (by omega))
    obtain ⟨f, hf⟩ : ∃ f, s.2 = f := ⟨_, rfl⟩
    have HF := Aside0.mk hf
    subst hW1
    clear hsf hl e hf
    by_cases h0 : f = 0
    · subst h0
      go_enter Try.func36, Try.ntmps36
      go_wp2_with (first
      | (go_at_call 83; have HCC := HM.out; (with_reducible refine HCC.mono ?_); rintro e w2 ⟨v9, rfl, hm, hb⟩; obtain ⟨g9, c9, rfl, ho⟩ := hm.row; have HNS := HN2.out; rw [HNS] at ho ⊢; have HO2 := Aside0.mk ho; have H92 := Aside0.mk (ho.lt g9 rfl); have HR2' := Aside0.mk (F_lent (g := g) (v := v) ho (by have := HGL.out.1; have := H92.out.1; omega) (HVN.out g9 H92.out.1).1); have HWO2 := Aside0.mk (H1.out.below hb); have HPK2 := Aside0.mk (PK.then_below HP0.out hb); have HLF' := HLF.out g9 c9; have HCW' := HCW.out g9 c9; rw [HNS] at HR2'; simp only [HNS] at HLF'; have HLF2 := Aside0.mk HLF'; have HCW2 := Aside0.mk (HCW' w2 HR2'.out HWO2.out (Nat.le_trans HB1.out HPK2.out.size)); have y6 : w2.cell? ⟨W.heap.size, 6, none⟩ = some (.int .i64 most) := (blk_cell (HBX.out w2 v u HPK2.out) 6).trans rfl; clear hm hb ho HCC HM HLF HLF' HCW HCW' HNS)
      | (go_at_call 84; have HCC := HCW2.out; (with_reducible refine HCC.mono ?_); rintro e w3 ⟨⟨vr, rfl⟩, v3, hw3, hk3⟩; have HWO3 := Aside0.mk (HWO2.out.w hw3 hk3); have HPK3 := Aside0.mk (HPK2.out.w hk3); have HO3 := Aside0.mk (HO2.out.move (W' := w3) (fun b hb => (by have hb2 : some g9 = some b := hb; cases hb2; exact hk3.block g9 H92.out.2 (by have := HGL.out.1; have := H92.out.1; omega) (fun e => (HVN.out g9 H92.out.1).1 e.symm)))); have HV3 := Aside0.mk (moved_ne hk3.own (HVN.out g9 H92.out.1).1 H92.out.2); clear y6; have y5 : w3.cell? ⟨W.heap.size, 5, none⟩ = some (.slice A2 N2 c2) := (blk_cell (HBX.out w3 v3 u HPK3.out) 5).trans rfl; have HLF3 := Aside0.mk (HLF2.out w3 HO3.out v3 u HPK3.out); clear hw3 hk3 HCC HCW2)
      | (go_at_call 86; have HCC := HLF3.out; (with_reducible refine HCC.mono ?_); rintro e w4 ⟨rfl, hg4⟩; have HWO4 := Aside0.mk (HWO3.out.grown hg4 (fun e => (by have := HGL.out.1; have := H92.out.1; have e2 : some g = some g9 := e; cases e2; omega)) (fun e => (by have := HGL.out.2; have := H92.out.1; have e2 : some q = some g9 := e; cases e2; omega)) HV3.out (fun b hb e => (by have e2 : some b = some g9 := e; cases e2; exact (HVN.out g9 H92.out.1).2 hb))); have HPK4 := Aside0.mk (HPK3.out.grown hg4 (fun b hb => (by have hb2 : some g9 = some b := hb; cases hb2; exact H92.out.1))); clear y5; have y5 : w4.cell? ⟨W.heap.size, 5, none⟩ = some (.slice A2 N2 c2) := (blk_cell (HBX.out w4 v3 u HPK4.out) 5).trans rfl; have y6 : w4.cell? ⟨W.heap.size, 6, none⟩ = some (.int .i64 most) := (blk_cell (HBX.out w4 v3 u HPK4.out) 6).trans rfl; have jf : w4.cell? ⟨q, 1, none⟩ = some (.int .i64 0) := (by rw [← HF.out]; exact (blk_cell HWO4.out.ou.blk 1).trans rfl); have HCN4 := Aside0.mk (HCN.out w4 v3 HWO4.out (Nat.le_trans HB1.out HPK4.out.size)); clear hg4 HCC HLF3 HCN)
      | (go_at_call 87; have HCC := HCN4.out; (with_reducible refine HCC.mono ?_); rintro e w5 ⟨rfl, u5, ho5, hk5⟩; have HWO5 := Aside0.mk (HWO4.out.o ho5 hk5); have HPK5 := Aside0.mk (HPK4.out.o hk5); clear y5; have y5 : w5.cell? ⟨W.heap.size, 5, none⟩ = some (.slice A2 N2 c2) := (blk_cell (HBX.out w5 v3 u5 HPK5.out) 5).trans rfl; clear ho5 hk5 HCC))
      go_loopw [9] (fun vi wr => ∃ (k : Nat) (u6 : Value), vi = .int .i64 (k : Nat) ∧ k ≤ N2 ∧ Aside0 (WO wr W0.heap.size g v3 sf q u6 (wAt s list most k)) ∧ Aside0 (PK (W.alloc (.cells #[.int .i64 7, .int .i64 n, .int .i64 wide, .bool flag, .slice A1 N1 c1, .slice A2 N2 c2, .int .i64 most] 58)) wr g v v3 q u u6)) (fun vi _ => N2 - (intOf vi).toNat)
      case atStart => exact ⟨0, u5, rfl, Nat.zero_le _, ⟨by rw [wAt_zero, HN2.out]; exact HWO5.out⟩, HPK5⟩
      case round =>
        clear HWO5 HPK5 HWO4 HPK4 y5 y6 jf
        obtain ⟨k, u6, rfl, hk, HWK, HPK⟩ := hrel
        have y5 : wr.cell? ⟨W.heap.size, 5, none⟩ = some (.slice A2 N2 c2) := (blk_cell (HBX.out wr v3 u6 HPK.out) 5).trans rfl
        obtain ⟨f6, hf6⟩ : ∃ f, (wAt s list most k).2 = f := ⟨_, rfl⟩
        have j1 : wr.cell? ⟨q, 1, none⟩ = some (.int .i64 f6) := by rw [← hf6]; exact (blk_cell HWK.out.ou.blk 1).trans rfl
        have HF6 := Aside0.mk hf6
        clear hf6
        by_cases hlt : k < N2
        · obtain ⟨ad, e, hx⟩ := Kd.at_int (HR2.out wr v3 u6 HPK.out) (k : Int) (by omega) (by omega)
          subst e
          have hxe : rd list (k : Int) = list[k]'(by have := HN2.out; omega) := by simp [rd, List.getD_eq_getElem?_getD, show k < list.length by have := HN2.out; omega]
          have HS := Aside0.mk (wAt_succ s list most k (by have := HN2.out; omega))
          have HCL := Aside0.mk (oU16_is (list[k]'(by have := HN2.out; omega)) wr W0.heap.size q u6 (wAt s list most k) HWK.out.ou (Nat.le_trans HB1.out HPK.out.size) (by have := wAt_len s list most k (by have := HN2.out; omega); have := HL.out; omega))
          have HST := Aside0.mk (fun h => wAt_stop s list most k h)
          rw [hxe, Int.toNat_natCast] at hx
          generalize (list[k]'(by have := HN2.out; omega)) = x at *
          have hii : (k : Int) < (N2 : Int) := by omega
          have hnn := HN.out
          clear hxe
          by_cases h0 : f6 = 0
          · subst h0
            go_wp2_with (go_at_call 74; have HCC := HCL.out; (with_reducible refine HCC.mono ?_); rintro e w7 ⟨rfl, u7, ho7, hk7⟩; have HWO7 := Aside0.mk (HWK.out.o ho7 hk7); have HPK7 := Aside0.mk (HPK.out.o hk7); clear ho7 hk7 HCC)
            go_roundw
            case rel => exact ⟨k + 1, u7, by go_num, by omega, ⟨by rw [HS.out]; exact HWO7.out⟩, HPK7⟩
            case measure => simp [intOf]; omega
          · have hq1 : (f6 == 0) = false := by rw [beq_eq_false_iff_ne]; exact h0
            have hq2 : (f6 != 0) = true := by rw [bne_iff_ne]; exact h0
            have HEN := Aside0.mk (show wAt s list most k = sf by rw [HST.out (by rw [HF6.out]; exact h0)]; exact HE.out)
            go_wp2
            go_ret
            refine ⟨rfl, v3, u6, ?_, PK.behind HB.out HPK.out⟩
            have h9 := HWK.out
            rw [HEN.out] at h9
            exact h9
        · have hne : ¬ ((k : Int) < (N2 : Int)) := by omega
          have HEN := Aside0.mk (show wAt s list most k = sf by rw [show k = list.length by have := HN2.out; omega, wAt_end]; exact HE.out)
          clear hlt
          go_wp2
          go_ret
          refine ⟨rfl, v3, u6, ?_, PK.behind HB.out HPK.out⟩
          have h9 := HWK.out
          rw [HEN.out] at h9
          exact h9
    · have hq1 : (f == 0) = false := by rw [beq_eq_false_iff_ne]; exact h0
      have hq2 : (f != 0) = true := by rw [bne_iff_ne]; exact h0
      go_enter Try.func36, Try.ntmps36
      go_wp2_with (first
      | (go_at_call 83; have HCC := HM.out; (with_reducible refine HCC.mono ?_); rintro e w2 ⟨v9, rfl, hm, hb⟩; obtain ⟨g9, c9, rfl, ho⟩ := hm.row; have HNS := HN2.out; rw [HNS] at ho ⊢; have HO2 := Aside0.mk ho; have H92 := Aside0.mk (ho.lt g9 rfl); have HR2' := Aside0.mk (F_lent (g := g) (v := v) ho (by have := HGL.out.1; have := H92.out.1; omega) (HVN.out g9 H92.out.1).1); have HWO2 := Aside0.mk (H1.out.below hb); have HPK2 := Aside0.mk (PK.then_below HP0.out hb); have HLF' := HLF.out g9 c9; have HCW' := HCW.out g9 c9; rw [HNS] at HR2'; simp only [HNS] at HLF'; have HLF2 := Aside0.mk HLF'; have HCW2 := Aside0.mk (HCW' w2 HR2'.out HWO2.out (Nat.le_trans HB1.out HPK2.out.size)); have y6 : w2.cell? ⟨W.heap.size, 6, none⟩ = some (.int .i64 most) := (blk_cell (HBX.out w2 v u HPK2.out) 6).trans rfl; clear hm hb ho HCC HM HLF HLF' HCW HCW' HNS)
      | (go_at_call 84; have HCC := HCW2.out; (with_reducible refine HCC.mono ?_); rintro e w3 ⟨⟨vr, rfl⟩, v3, hw3, hk3⟩; have HWO3 := Aside0.mk (HWO2.out.w hw3 hk3); have HPK3 := Aside0.mk (HPK2.out.w hk3); have HO3 := Aside0.mk (HO2.out.move (W' := w3) (fun b hb => (by have hb2 : some g9 = some b := hb; cases hb2; exact hk3.block g9 H92.out.2 (by have := HGL.out.1; have := H92.out.1; omega) (fun e => (HVN.out g9 H92.out.1).1 e.symm)))); have HV3 := Aside0.mk (moved_ne hk3.own (HVN.out g9 H92.out.1).1 H92.out.2); clear y6; have y5 : w3.cell? ⟨W.heap.size, 5, none⟩ = some (.slice A2 N2 c2) := (blk_cell (HBX.out w3 v3 u HPK3.out) 5).trans rfl; have HLF3 := Aside0.mk (HLF2.out w3 HO3.out v3 u HPK3.out); clear hw3 hk3 HCC HCW2)
      | (go_at_call 86; have HCC := HLF3.out; (with_reducible refine HCC.mono ?_); rintro e w4 ⟨rfl, hg4⟩; have HWO4 := Aside0.mk (HWO3.out.grown hg4 (fun e => (by have := HGL.out.1; have := H92.out.1; have e2 : some g = some g9 := e; cases e2; omega)) (fun e => (by have := HGL.out.2; have := H92.out.1; have e2 : some q = some g9 := e; cases e2; omega)) HV3.out (fun b hb e => (by have e2 : some b = some g9 := e; cases e2; exact (HVN.out g9 H92.out.1).2 hb))); have HPK4 := Aside0.mk (HPK3.out.grown hg4 (fun b hb => (by have hb2 : some g9 = some b := hb; cases hb2; exact H92.out.1))); clear y5; have y5 : w4.cell? ⟨W.heap.size, 5, none⟩ = some (.slice A2 N2 c2) := (blk_cell (HBX.out w4 v3 u HPK4.out) 5).trans rfl; have y6 : w4.cell? ⟨W.heap.size, 6, none⟩ = some (.int .i64 most) := (blk_cell (HBX.out w4 v3 u HPK4.out) 6).trans rfl; have jf : w4.cell? ⟨q, 1, none⟩ = some (.int .i64 f) := (by rw [← HF.out]; exact (blk_cell HWO4.out.ou.blk 1).trans rfl); have HCN4 := Aside0.mk (HCN.out w4 v3 HWO4.out (Nat.le_trans HB1.out HPK4.out.size)); clear hg4 HCC HLF3 HCN))
      have HWO5 := Aside0.mk (show WO w4 W0.heap.size g v3 sf q u (wHead s N2 most) by rw [wHead_stick s N2 most (by rw [HF.out]; exact h0)]; exact HWO4.out)
      go_loopw [9] (fun vi wr => ∃ (k : Nat) (u6 : Value), vi = .int .i64 (k : Nat) ∧ k ≤ N2 ∧ Aside0 (WO wr W0.heap.size g v3 sf q u6 (wAt s list most k)) ∧ Aside0 (PK (W.alloc (.cells #[.int .i64 7, .int .i64 n, .int .i64 wide, .bool flag, .slice A1 N1 c1, .slice A2 N2 c2, .int .i64 most] 58)) wr g v v3 q u u6)) (fun vi _ => N2 - (intOf vi).toNat)
      case atStart => exact ⟨0, u, rfl, Nat.zero_le _, ⟨by rw [wAt_zero, HN2.out]; exact HWO5.out⟩, HPK4⟩
      case round =>
        clear HWO5 HWO4 HPK4 y5 y6 jf
        obtain ⟨k, u6, rfl, hk, HWK, HPK⟩ := hrel
        have y5 : wr.cell? ⟨W.heap.size, 5, none⟩ = some (.slice A2 N2 c2) := (blk_cell (HBX.out wr v3 u6 HPK.out) 5).trans rfl
        obtain ⟨f6, hf6⟩ : ∃ f, (wAt s list most k).2 = f := ⟨_, rfl⟩
        have j1 : wr.cell? ⟨q, 1, none⟩ = some (.int .i64 f6) := by rw [← hf6]; exact (blk_cell HWK.out.ou.blk 1).trans rfl
        have HF6 := Aside0.mk hf6
        clear hf6
        by_cases hlt : k < N2
        · obtain ⟨ad, e, hx⟩ := Kd.at_int (HR2.out wr v3 u6 HPK.out) (k : Int) (by omega) (by omega)
          subst e
          have hxe : rd list (k : Int) = list[k]'(by have := HN2.out; omega) := by simp [rd, List.getD_eq_getElem?_getD, show k < list.length by have := HN2.out; omega]
          have HS := Aside0.mk (wAt_succ s list most k (by have := HN2.out; omega))
          have HCL := Aside0.mk (oU16_is (list[k]'(by have := HN2.out; omega)) wr W0.heap.size q u6 (wAt s list most k) HWK.out.ou (Nat.le_trans HB1.out HPK.out.size) (by have := wAt_len s list most k (by have := HN2.out; omega); have := HL.out; omega))
          have HST := Aside0.mk (fun h => wAt_stop s list most k h)
          rw [hxe, Int.toNat_natCast] at hx
          generalize (list[k]'(by have := HN2.out; omega)) = x at *
          have hii : (k : Int) < (N2 : Int) := by omega
          have hnn := HN.out
          clear hxe
          by_cases h0 : f6 = 0
          · subst h0
            go_wp2_with (go_at_call 74; have HCC := HCL.out; (with_reducible refine HCC.mono ?_); rintro e w7 ⟨rfl, u7, ho7, hk7⟩; have HWO7 := Aside0.mk (HWK.out.o ho7 hk7); have HPK7 := Aside0.mk (HPK.out.o hk7); clear ho7 hk7 HCC)
            go_roundw
            case rel => exact ⟨k + 1, u7, by go_num, by omega, ⟨by rw [HS.out]; exact HWO7.out⟩, HPK7⟩
            case measure => simp [intOf]; omega
          · have hq1 : (f6 == 0) = false := by rw [beq_eq_false_iff_ne]; exact h0
            have hq2 : (f6 != 0) = true := by rw [bne_iff_ne]; exact h0
            have HEN := Aside0.mk (show wAt s list most k = sf by rw [HST.out (by rw [HF6.out]; exact h0)]; exact HE.out)
            go_wp2
            go_ret
            refine ⟨rfl, v3, u6, ?_, PK.behind HB.out HPK.out⟩
            have h9 := HWK.out
            rw [HEN.out] at h9
            exact h9
        · have hne : ¬ ((k : Int) < (N2 : Int)) := by omega
          have HEN := Aside0.mk (show wAt s list most k = sf by rw [show k = list.length by have := HN2.out; omega, wAt_end]; exact HE.out)
          clear hlt
          go_wp2
          go_ret
          refine ⟨rfl, v3, u6, ?_, PK.behind HB.out HPK.out⟩
          have h9 := HWK.out
          rw [HEN.out] at h9
          exact h9
  by_cases k8 : kind = 8
  · subst k8
    have e : s = sf := by rw [← hsf]; unfold wOp; simp
    subst e
    have HT := Aside0.mk (told_is W1 W0.heap.size g v q u s H1.out HB1.out (by omega))
    subst hW1
    clear hsf hl
    go_enter Try.func36, Try.ntmps36
    go_wp2_with (go_at_call 37; have HCC := HT.out; (with_reducible refine HCC.mono ?_); rintro e w1 ⟨rfl, hb⟩; have HB2 := Aside0.mk hb; clear hb HCC)
    go_ret
    exact ⟨rfl, v, u, H1.out.below HB2.out, PK.behind HB.out (PK.then_below HP0.out HB2.out)⟩
  have e : s = sf := by rw [← hsf]; unfold wOp; simp [k1, k2, k3, k4, k5, k6, k7]
  subst e
  have q1 : (kind == 1) = false := by rw [beq_eq_false_iff_ne]; exact k1
  have q2 : (kind == 2) = false := by rw [beq_eq_false_iff_ne]; exact k2
  have q3 : (kind == 3) = false := by rw [beq_eq_false_iff_ne]; exact k3
  have q4 : (kind == 4) = false := by rw [beq_eq_false_iff_ne]; exact k4
  have q5 : (kind == 5) = false := by rw [beq_eq_false_iff_ne]; exact k5
  have q6 : (kind == 6) = false := by rw [beq_eq_false_iff_ne]; exact k6
  have q7 : (kind == 7) = false := by rw [beq_eq_false_iff_ne]; exact k7
  have q8 : (kind == 8) = false := by rw [beq_eq_false_iff_ne]; exact k8
  subst hW1
  clear hsf hl
  go_enter Try.func36, Try.ntmps36
  go_wp2
  go_ret
  exact ⟨rfl, v, u, H1.out, PK.behind HB.out HP0.out⟩
end Go.Proofs.Ytceeoifbimlkdaa.B
