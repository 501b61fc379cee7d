/- Proved: the law CodecAgain answers true at any bytes and any calls. Conditions: bounds of the lengths. -/
import Derived.Test.YtceeoifbimlkdaaHAgainMath
import Derived.Test.YtceeoifbimlkdaaHCodecWorks
namespace Go.Proofs.Ytceeoifbimlkdaa.B
open Go.RowKit Go.Proofs.YtceeoifbimlkdaaW.PrintWords Go.Proofs.YtceeoifbimlkdaaW.PrintLast Go.Proofs.YtceeoifbimlkdaaW.PrintMore

/-- Calls in memory. -/
def OpsAt (w : World) (A : Option Addr) (ops : List OpL) : Prop := ∀ i (hi : i < ops.length), ∃ (ad : Addr) (A1 : Option Addr) (c1 : Nat) (A2 : Option Addr) (c2 : Nat), A = some ad ∧ (ad.add (i * 7)).block < w.heap.size ∧
  w.cell? (ad.add (i * 7)) = some (.int .i64 (ops[i]).kind) ∧ w.cell? ⟨(ad.add (i * 7)).block, (ad.add (i * 7)).off + 1, none⟩ = some (.int .i64 (ops[i]).n) ∧ w.cell? ⟨(ad.add (i * 7)).block, (ad.add (i * 7)).off + 2, none⟩ = some (.int .i64 (ops[i]).wide) ∧
  w.cell? ⟨(ad.add (i * 7)).block, (ad.add (i * 7)).off + 3, none⟩ = some (.bool (ops[i]).flag) ∧ w.cell? ⟨(ad.add (i * 7)).block, (ad.add (i * 7)).off + 4, none⟩ = some (.slice A1 (ops[i]).bytes.length c1) ∧
  w.cell? ⟨(ad.add (i * 7)).block, (ad.add (i * 7)).off + 5, none⟩ = some (.slice A2 (ops[i]).list.length c2) ∧ w.cell? ⟨(ad.add (i * 7)).block, (ad.add (i * 7)).off + 6, none⟩ = some (.int .i64 (ops[i]).most) ∧
  Kd.C (Kd.int .u8) w A1 (ops[i]).bytes.length (ops[i]).bytes ∧ Kd.C (Kd.int .i64) w A2 (ops[i]).list.length (ops[i]).list
/-- What was there is apart from a Writer that came later. -/
theorem F_old_of_C {w W : World} {A : Option Addr} {l : List Int} {g : Nat} {v : Value} (h : Kd.C (Kd.int .i64) w A l.length l) (hb : Below w.heap.size w W) (hg : w.heap.size ≤ g) (hv : ∀ k, v.ownBlock = some k → w.heap.size ≤ k) : Kd.F (Kd.int .i64) W (fun k => k ≠ g ∧ some k ≠ v.ownBlock) A l.length l := by
  intro W' hW'
  have h1 := Kd.reads_of_C (d := (0 : Int)) h
  refine Kd.C_of_reads (d := (0 : Int)) ⟨h1.1, h1.2.1, fun hn => ?_⟩
  obtain ⟨ad, e, hc⟩ := h1.2.2 hn
  refine ⟨ad, e, fun j hj => ?_⟩
  have hlt := World.block_lt_of_cell? w _ (hc j hj)
  rw [add_block] at hlt
  have e1 : W'.heap[ad.block]? = w.heap[ad.block]? := (hW' ad.block ⟨by omega, fun e => by have := hv _ e.symm; omega⟩ (Nat.lt_of_lt_of_le hlt hb.size)).trans (hb.block _ hlt)
  exact (World.cell?_of_block (w := w) (by rw [add_block]; exact e1)).trans (hc j hj)
theorem WrAt.keptF {W W' : World} {base g : Nat} {v : Value} {xs : List Int} {f : Int} (h : WrAt W base g v xs f) (hk : ∀ k, base ≤ k → k < W.heap.size → W'.heap[k]? = W.heap[k]?) : WrAt W' base g v xs f :=
  ⟨h.low, (hk g h.low (blk_lt h.blk)).trans h.blk, row_kept h.row fun k e => hk k (row_lt h.row e).1 (row_lt h.row e).2⟩
set_option maxHeartbeats 4000000 in
theorem newReaderF_is (W : World) (A : Option Addr) (c : Nat) (xs : List Int) (hr : Kd.C (Kd.int .u8) W A xs.length xs) (hc : xs.length ≤ c) (hl : xs.length < 140737488355328) :
    Calls Try.prog 39 #[.slice A xs.length c] W fun e w' => ∃ g A2 c2, e = .returned (.pointer (some ⟨g, 0, none⟩)) ∧ W.heap.size ≤ g ∧ RdAt w' g A2 c2 xs 0 ∧ Below W.heap.size W w' ∧ (∀ ad, A2 = some ad → ad.block < g) ∧ g < w'.heap.size := by
  have HN := Aside0.mk (bytes_Clone.calls A c xs xs W hr hc (by unfold bytes_Clone.f; rw [if_pos (by simpa using hl)]))
  have hu106 := Try.underlying106
  clear hr
  go_enter Try.func39, Try.ntmps39
  go_wp2_with (go_at_call 66; refine HN.out.mono ?_; rintro e w1 ⟨v1, rfl, hR, hB⟩; obtain ⟨A2, c2, rfl⟩ := Kd.R_slice hR; have HR := Aside0.mk hR; have HB := Aside0.mk hB; clear hR hB)
  go_ret
  have h := Kd.R_reads' HR.out
  have hlt : ∀ ad, A2 = some ad → ad.block < w1.heap.size := by
    intro ad ha
    subst ha
    obtain ⟨h0, ⟨h1, h2⟩ | ⟨b, cap, cur, e1, e2, e3, e4⟩⟩ := Kd.own_of_R HR.out
    · cases h1
    · cases e1
      exact blk_lt e3
  exact ⟨w1.heap.size, A2, c2, rfl, HB.out.size, ⟨heap_alloc_new _ _, h.2.1, Kd.C_alloc h.2.2 _, fun ad ha => Nat.ne_of_lt (hlt ad ha)⟩, HB.out.alloc HB.out.size _, hlt, by simp⟩

/-- A new row is the same behind a store into an elder cell. -/
theorem C_new_far {W : World} {base n c : Nat} {A : Option Addr} {l : List Int} (h : Kd.R (Kd.int .u8) 5 W base (fun _ => True) (.slice A n c) l) (p : Addr) (hp : p.block < base) (u : Value) : Kd.C (Kd.int .u8) (W.setCell p u) A l.length l := by
  have h1 : Kd.R (Kd.int .u8) 5 W base (fun k => base ≤ k) (.slice A n c) l := Kd.R_of_own (Kd.own_of_R h) (Kd.R_base h)
  have h2 := Kd.F_now (Kd.F_far (Kd.R_F h1) (p := p) (fun k hk => by omega) u)
  rw [(Kd.R_reads' h).1] at h2
  exact h2
theorem same_own (l : List Int) (hl : l.length ≤ 281474976710656) (k : Nat) (hk : l.length < k) : bulkheadlaw02_same.f k l l = some true := by
  have key : ∀ (d i k : Nat), i + d = l.length → d < k → bulkheadlaw02_same.l0 k l l (i : Int) = some true := by
    intro d
    induction d with
    | zero =>
      intro i k hi hk
      obtain ⟨k, rfl⟩ : ∃ m, k = m + 1 := ⟨k - 1, by omega⟩
      simp only [bulkheadlaw02_same.l0]
      rw [if_neg (by omega)]
    | succ d ih =>
      intro i k hi hk
      obtain ⟨k, rfl⟩ : ∃ m, k = m + 1 := ⟨k - 1, by omega⟩
      simp only [bulkheadlaw02_same.l0]
      rw [if_pos (by omega), if_pos (by omega), if_pos (by omega), if_pos trivial, show wrap64 ((i : Int) + 1) = ((i + 1 : Nat) : Int) by unfold wrap64; omega]
      exact ih (i + 1) k (by omega) (by omega)
  have h0 := key l.length 0 k (by omega) hk
  unfold bulkheadlaw02_same.f
  rw [if_pos rfl]
  exact h0
/-- The state of a round. -/
structure AgAt (w : World) (b : List Int) (gr Bw : Nat) (Ar : Option Addr) (cr : Nat) (vw : Value) (st : (List Int × Int) × (List Int × Int)) (i : Nat) (W : World) : Prop where
  rd : RdAt W gr Ar cr st.1.1 st.1.2
  ra : ∀ ad, Ar = some ad → ad.block < Bw
  wr : WrAt W Bw Bw vw st.2.1 st.2.2
  iv : AgInv b st
  ln : st.2.1.length + st.1.1.length ≤ b.length + 8 * i
  bl : Below w.heap.size w W
  sz : Bw < W.heap.size
  g1 : w.heap.size ≤ gr
  g2 : gr < Bw
/-- Behind a call on the Reader, a store into the round's own box, and a call on the Writer. -/
theorem AgAt.round {w W W1 w2 W3 w4 : World} {b : List Int} {gr Bw i : Nat} {Ar A2 : Option Addr} {cr c2 : Nat} {vw v' : Value} {st : (List Int × Int) × (List Int × Int)} (h : AgAt w b gr Bw Ar cr vw st i W) (o : OpL) (h1 : Below W.heap.size W W1) (hr2 : RdAt w2 gr A2 c2 (rOp st.1 o).2.1 (rOp st.1 o).2.2) (hb2 : BlkOf A2 Ar)
    (hk2 : KeepBut W1 w2 gr none) (hl2 : ∀ B, B ≤ gr → Below B W1 w2) (h3 : Below W.heap.size w2 W3) (hw4 : WrAt w4 Bw Bw v' (wOp st.2 (rOp st.1 o).1).1 (wOp st.2 (rOp st.1 o).1).2) (hk4 : WrKeeps W3 w4 Bw vw v') (hw3 : WrAt W3 Bw Bw vw st.2.1 st.2.2) : AgAt w b gr Bw A2 c2 v' (agStep st o) (i + 1) w4 := by
  have z1 := h.sz
  have z2 := h.g2
  have z3 := h.g1
  have s1 := h1.size
  have s2 := hk2.1
  have s3 := h3.size
  have s4 := hk4.size
  have ra : ∀ ad, A2 = some ad → ad.block < Bw := fun ad e => by
    obtain ⟨a, e1, e2⟩ := hb2 ad e
    rw [e2]; exact h.ra a e1
  have low : ∀ k, k < Bw → w4.heap[k]? = w2.heap[k]? := fun k hk => (hk4.block k (by omega) (by omega) (fun e => by have := (row_lt hw3.row e.symm).1; omega)).trans (h3.block k (by omega))
  refine ⟨hr2.lowF ?_, ra, hw4, ag_inv b st o h.iv, ?_, ?_, by omega, z3, z2⟩
  · rintro k (rfl | ⟨ad, e1, rfl⟩)
    · exact low _ z2
    · exact low _ (ra ad e1)
  · have := ag_len st o
    have := h.ln
    omega
  · refine ((h.bl.trans (h1.mono h.bl.size)).trans (hl2 _ z3)).trans ((h3.mono (by omega)).trans ?_)
    exact (hk4.below hw3 (by omega)).mono (by omega)

set_option maxHeartbeats 16000000 in
set_option maxRecDepth 100000 in
theorem codecAgain_is (A0 : Option Addr) (c0 : Nat) (b : List Int) (A1 : Option Addr) (c1 : Nat) (ops : List OpL) (w : World) (hr0 : Kd.C (Kd.int .u8) w A0 b.length b) (hc0 : b.length ≤ c0) (hbk : BytesOk b) (hop : OpsAt w A1 ops) (hl0 : b.length ≤ 1048576) (hl1 : ops.length ≤ 1048576)
    (hls : ∀ o ∈ ops, o.bytes.length + o.list.length ≤ 1048576) :
    Calls Try.prog 12 #[.slice A0 b.length c0, .slice A1 ops.length c1] w fun e w' => e = .returned (.bool true) ∧ Below w.heap.size w w' := by
  have hu58 := Try.underlying58
  have HR0 := Aside0.mk hr0
  have HC0 := Aside0.mk hc0
  have HOP := Aside0.mk hop
  have HLS := Aside0.mk hls
  have HBK := Aside0.mk hbk
  have HNR := Aside0.mk (newReaderF_is w A0 c0 b hr0 hc0 (by omega))
  obtain ⟨nb, hnb⟩ : ∃ nb, b.length = nb := ⟨_, rfl⟩
  obtain ⟨n, hn⟩ : ∃ n, ops.length = n := ⟨_, rfl⟩
  rw [hnb] at HNR HR0 HC0 hl0
  rw [hn] at hl1
  rw [hnb, hn]
  have HNB := Aside0.mk hnb
  have HN := Aside0.mk hn
  clear hr0 hc0 hop hls hbk hnb hn
  go_enter Try.func12, Try.ntmps12
  go_wp2_with (first
    | (go_at_call 39; refine HNR.out.mono ?_; rintro e w1 ⟨gr, Ar, cr, rfl, hg1, hrd, hb1, har, hg2⟩; have HRD := Aside0.mk hrd; have HB1 := Aside0.mk hb1; have HAR := Aside0.mk har; have HG := Aside0.mk (And.intro hg1 hg2); clear hrd hb1 har hg1 hg2)
    | (go_at_call 35; refine (newWriter_is w1).mono ?_; rintro e w2 ⟨rfl, hw2, hb2⟩; have HAG := Aside0.mk (show AgAt w b gr w1.heap.size Ar cr (.slice none 0 0) ((b, 0), ([], 0)) 0 w2 from ⟨HRD.out.belowF hb2, fun ad e => Nat.lt_trans (HAR.out ad e) HG.out.2, hw2, ⟨HBK.out, fun _ => ⟨rfl, rfl⟩⟩, by simp, HB1.out.trans (hb2.mono HB1.out.size), blk_lt hw2.blk, HG.out.1, HG.out.2⟩); clear hw2 hb2))
  obtain ⟨Bw, hBw⟩ : ∃ Bw, w1.heap.size = Bw := ⟨_, rfl⟩
  rw [hBw] at HAG ⊢
  clear hBw HRD HB1 HAR HG HNR
  go_loopw [7] (fun vi wr => ∃ (i : Nat) (Ar : Option Addr) (cr : Nat) (vw : Value) (st : (List Int × Int) × (List Int × Int)), vi = .int .i64 (i : Nat) ∧ i ≤ n ∧ Aside0 (AgAt w b gr Bw Ar cr vw st i wr)) (fun vi _ => n - (intOf vi).toNat)
  case atStart => exact ⟨0, Ar, cr, _, _, rfl, Nat.zero_le _, HAG⟩
  case round =>
    clear HAG
    obtain ⟨i, Ar, cr, vw, st, rfl, hi, HA⟩ := hrel
    by_cases hlt : i < n
    · have hopl : i < ops.length := by have := HN.out; omega
      obtain ⟨ad, B1, d1, B2, d2, e, hla, y0, y1, y2, y3, y4, y5, y6, j1, j2⟩ := HOP.out i hopl
      cases e
      have x0 := (HA.out.bl.cell (p := ad.add (i * 7)) hla).trans y0
      have x1 := (HA.out.bl.cell (p := ⟨(ad.add (i * 7)).block, (ad.add (i * 7)).off + 1, none⟩) hla).trans y1
      have x2 := (HA.out.bl.cell (p := ⟨(ad.add (i * 7)).block, (ad.add (i * 7)).off + 2, none⟩) hla).trans y2
      have x3 := (HA.out.bl.cell (p := ⟨(ad.add (i * 7)).block, (ad.add (i * 7)).off + 3, none⟩) hla).trans y3
      have x4 := (HA.out.bl.cell (p := ⟨(ad.add (i * 7)).block, (ad.add (i * 7)).off + 4, none⟩) hla).trans y4
      have x5 := (HA.out.bl.cell (p := ⟨(ad.add (i * 7)).block, (ad.add (i * 7)).off + 5, none⟩) hla).trans y5
      have x6 := (HA.out.bl.cell (p := ⟨(ad.add (i * 7)).block, (ad.add (i * 7)).off + 6, none⟩) hla).trans y6
      have hol := HLS.out _ (List.getElem_mem hopl)
      have HJ2 := Aside0.mk j2
      have HJ1 := Aside0.mk j1
      obtain ⟨o, ho⟩ : ∃ o, ops[i] = o := ⟨_, rfl⟩
      rw [ho] at x0 x1 x2 x3 x4 x5 x6 HJ1 HJ2 hol
      obtain ⟨kind, on, wide, flag, bytes, list, most⟩ := o
      dsimp only at x0 x1 x2 x3 x4 x5 x6 HJ1 HJ2 hol
      obtain ⟨N1, hN1⟩ : ∃ N, bytes.length = N := ⟨_, rfl⟩
      obtain ⟨N2, hN2⟩ : ∃ N, list.length = N := ⟨_, rfl⟩
      rw [hN1] at x4
      rw [hN2] at x5
      obtain ⟨W1, hW1⟩ : ∃ W1, wr.alloc (.cells #[.int .i64 kind, .int .i64 on, .int .i64 wide, .bool flag, .slice B1 N1 d1, .slice B2 N2 d2, .int .i64 most] 58) = W1 := ⟨_, rfl⟩
      have hB1 : Below wr.heap.size wr W1 := by rw [← hW1]; exact (Below.refl _ _).alloc (Nat.le_refl _) _
      have hbx : W1.heap[wr.heap.size]? = some (.cells #[.int .i64 kind, .int .i64 on, .int .i64 wide, .bool flag, .slice B1 N1 d1, .slice B2 N2 d2, .int .i64 most] 58 (0, 0)) := by rw [← hW1]; exact heap_alloc_new _ _
      have HBX := Aside0.mk hbx
      have HB1 := Aside0.mk hB1
      have HR1 := Aside0.mk (HA.out.rd.belowF hB1)
      have HS1 := Aside0.mk (show W1.heap.size = wr.heap.size + 1 by rw [← hW1]; simp)
      have hlen := HA.out.ln
      have hnbb := HNB.out
      have hwl : st.2.1.length + 8 + bytes.length + 2 * list.length < 140737488355328 := by omega
      have hwl0 : st.2.1.length + st.1.1.length ≤ 10000000 := by omega
      have HWL := Aside0.mk (And.intro hwl (And.intro hwl0 hol))
      have HNN := Aside0.mk (And.intro hN1 hN2)
      have hgr := HA.out.g2
      have hsz := HA.out.sz
      have hg1 := HA.out.g1
      clear y0 y1 y2 y3 y4 y5 y6 j1 j2 hla hbx hB1 hlen hnbb hwl hwl0 hN1 hN2 hol ho hopl
      subst hW1
      -- what a Reader's call leaves of the rest, for the Writer
      have W3F := Aside0.mk (fun (w2 W3 : World) (hk : KeepBut (wr.alloc (.cells #[.int .i64 kind, .int .i64 on, .int .i64 wide, .bool flag, .slice B1 N1 d1, .slice B2 N2 d2, .int .i64 most] 58)) w2 gr none) (h3 : Below wr.heap.size w2 W3) =>
        HA.out.wr.keptF (W' := W3) fun k h1 h2 => (h3.block k h2).trans ((hk.2 k (by simp; omega) (by omega) (by simp)).trans (HB1.out.block k h2)))
      have B3F := Aside0.mk (fun (w2 W3 : World) (hl : ∀ B, B ≤ gr → Below B (wr.alloc (.cells #[.int .i64 kind, .int .i64 on, .int .i64 wide, .bool flag, .slice B1 N1 d1, .slice B2 N2 d2, .int .i64 most] 58)) w2) (h3 : Below wr.heap.size w2 W3) =>
        (show Below w.heap.size w W3 from ((HA.out.bl.trans (HB1.out.mono HA.out.bl.size)).trans (hl _ hg1)).trans (h3.mono (by omega))))
      by_cases k1 : kind = 1
      · subst k1
        have HRC := Aside0.mk (rU8_any _ gr Ar cr st.1 HR1.out HA.out.iv.1)
        obtain ⟨st', hst⟩ : ∃ st', rOp st.1 ⟨1, on, wide, flag, bytes, list, most⟩ = st' := ⟨_, rfl⟩
        have hst2 := hst
        unfold rOp at hst2
        dsimp only at hst2
        rw [if_pos rfl] at hst2
        rw [← hst2] at hst
        have HST := Aside0.mk hst
        clear hst hst2
        skip
        go_wp2_with (first
          | (go_at_call 50; refine HRC.out.mono ?_; rintro e w2 ⟨rfl, ⟨A2, c2, hr2, hbk2⟩, hk2, hl2⟩; have HR2 := Aside0.mk hr2; have HBK2 := Aside0.mk hbk2; have HK2 := Aside0.mk hk2; have HL2 := Aside0.mk hl2; have bx2 := (hk2.2 wr.heap.size (by simp) (by omega) (by simp)).trans HBX.out; have q1 := (blk_cell bx2 1).trans rfl; have qf := blk_frozen bx2 1; have bx3 := blk_put bx2 1 (.int .i64 (rNum st.1 1).1) rfl; have z0 := (blk_cell bx3 0).trans rfl; have z1 := (blk_cell bx3 1).trans rfl; have z2 := (blk_cell bx3 2).trans rfl; have z3 := (blk_cell bx3 3).trans rfl; have z4 := (blk_cell bx3 4).trans rfl; have z5 := (blk_cell bx3 5).trans rfl; have z6 := (blk_cell bx3 6).trans rfl; have h3 := Aside0.mk (show Below wr.heap.size w2 (w2.setCell ⟨wr.heap.size, 1, none⟩ (.int .i64 (rNum st.1 1).1)) from (Below.refl _ w2).setCell (p := ⟨wr.heap.size, 1, none⟩) (Nat.le_refl _) _); have hw3 := Aside0.mk (W3F.out w2 _ hk2 h3.out); have hb3 := Aside0.mk (B3F.out w2 _ hl2 h3.out); have HW := Aside0.mk (show Calls Try.prog 58 #[.pointer (some ⟨Bw, 0, none⟩), .agg #[.int .i64 1, .int .i64 (rNum st.1 1).1, .int .i64 wide, .bool flag, .slice B1 N1 d1, .slice B2 N2 d2, .int .i64 most]] _ _ from by (have h := write_is ⟨1, (rNum st.1 1).1, wide, flag, bytes, list, most⟩ B1 d1 B2 d2 _ Bw Bw vw st.2 (Kd.C_below HJ1.out hb3.out) (F_old_of_C HJ2.out hb3.out (by omega) (fun k e => by have := (row_lt HA.out.wr.row e).1; omega)) hw3.out (by have := HK2.out.1; simp at this ⊢; omega) (by have := HWL.out.1; simpa using this)); dsimp only at h; rw [HNN.out.1, HNN.out.2] at h; exact h); clear hr2 hbk2 hk2 hl2 bx2 bx3)
          | (go_at_call 58; refine HW.out.mono ?_; rintro e w4 ⟨⟨vr, rfl⟩, v', hw4, hk4⟩; have HN4 := Aside0.mk (HA.out.round ⟨1, on, wide, flag, bytes, list, most⟩ HB1.out (by rw [HST.out]; exact HR2.out) HBK2.out HK2.out HL2.out h3.out (by rw [HST.out]; exact hw4) hk4 hw3.out); clear hw4 hk4))
        go_roundw
        case rel => exact ⟨i + 1, _, _, _, _, by go_num, by omega, HN4⟩
        case measure => simp [intOf]; omega
      by_cases k2 : kind = 2
      · subst k2
        have HRC := Aside0.mk (rU16_any _ gr Ar cr st.1 HR1.out HA.out.iv.1)
        obtain ⟨st', hst⟩ : ∃ st', rOp st.1 ⟨2, on, wide, flag, bytes, list, most⟩ = st' := ⟨_, rfl⟩
        have hst2 := hst
        unfold rOp at hst2
        dsimp only at hst2
        rw [if_neg (by decide), if_pos rfl] at hst2
        rw [← hst2] at hst
        have HST := Aside0.mk hst
        clear hst hst2
        skip
        go_wp2_with (first
          | (go_at_call 51; refine HRC.out.mono ?_; rintro e w2 ⟨rfl, ⟨A2, c2, hr2, hbk2⟩, hk2, hl2⟩; have HR2 := Aside0.mk hr2; have HBK2 := Aside0.mk hbk2; have HK2 := Aside0.mk hk2; have HL2 := Aside0.mk hl2; have bx2 := (hk2.2 wr.heap.size (by simp) (by omega) (by simp)).trans HBX.out; have q1 := (blk_cell bx2 1).trans rfl; have qf := blk_frozen bx2 1; have bx3 := blk_put bx2 1 (.int .i64 (rNum st.1 2).1) rfl; have z0 := (blk_cell bx3 0).trans rfl; have z1 := (blk_cell bx3 1).trans rfl; have z2 := (blk_cell bx3 2).trans rfl; have z3 := (blk_cell bx3 3).trans rfl; have z4 := (blk_cell bx3 4).trans rfl; have z5 := (blk_cell bx3 5).trans rfl; have z6 := (blk_cell bx3 6).trans rfl; have h3 := Aside0.mk (show Below wr.heap.size w2 (w2.setCell ⟨wr.heap.size, 1, none⟩ (.int .i64 (rNum st.1 2).1)) from (Below.refl _ w2).setCell (p := ⟨wr.heap.size, 1, none⟩) (Nat.le_refl _) _); have hw3 := Aside0.mk (W3F.out w2 _ hk2 h3.out); have hb3 := Aside0.mk (B3F.out w2 _ hl2 h3.out); have HW := Aside0.mk (show Calls Try.prog 58 #[.pointer (some ⟨Bw, 0, none⟩), .agg #[.int .i64 2, .int .i64 (rNum st.1 2).1, .int .i64 wide, .bool flag, .slice B1 N1 d1, .slice B2 N2 d2, .int .i64 most]] _ _ from by (have h := write_is ⟨2, (rNum st.1 2).1, wide, flag, bytes, list, most⟩ B1 d1 B2 d2 _ Bw Bw vw st.2 (Kd.C_below HJ1.out hb3.out) (F_old_of_C HJ2.out hb3.out (by omega) (fun k e => by have := (row_lt HA.out.wr.row e).1; omega)) hw3.out (by have := HK2.out.1; simp at this ⊢; omega) (by have := HWL.out.1; simpa using this)); dsimp only at h; rw [HNN.out.1, HNN.out.2] at h; exact h); clear hr2 hbk2 hk2 hl2 bx2 bx3)
          | (go_at_call 58; refine HW.out.mono ?_; rintro e w4 ⟨⟨vr, rfl⟩, v', hw4, hk4⟩; have HN4 := Aside0.mk (HA.out.round ⟨2, on, wide, flag, bytes, list, most⟩ HB1.out (by rw [HST.out]; exact HR2.out) HBK2.out HK2.out HL2.out h3.out (by rw [HST.out]; exact hw4) hk4 hw3.out); clear hw4 hk4))
        go_roundw
        case rel => exact ⟨i + 1, _, _, _, _, by go_num, by omega, HN4⟩
        case measure => simp [intOf]; omega
      by_cases k3 : kind = 3
      · subst k3
        have HRC := Aside0.mk (rU32_any _ gr Ar cr st.1 HR1.out HA.out.iv.1)
        obtain ⟨st', hst⟩ : ∃ st', rOp st.1 ⟨3, on, wide, flag, bytes, list, most⟩ = st' := ⟨_, rfl⟩
        have hst2 := hst
        unfold rOp at hst2
        dsimp only at hst2
        rw [if_neg (by decide), if_neg (by decide), if_pos rfl] at hst2
        rw [← hst2] at hst
        have HST := Aside0.mk hst
        clear hst hst2
        skip
        go_wp2_with (first
          | (go_at_call 52; refine HRC.out.mono ?_; rintro e w2 ⟨rfl, ⟨A2, c2, hr2, hbk2⟩, hk2, hl2⟩; have HR2 := Aside0.mk hr2; have HBK2 := Aside0.mk hbk2; have HK2 := Aside0.mk hk2; have HL2 := Aside0.mk hl2; have bx2 := (hk2.2 wr.heap.size (by simp) (by omega) (by simp)).trans HBX.out; have q1 := (blk_cell bx2 1).trans rfl; have qf := blk_frozen bx2 1; have bx3 := blk_put bx2 1 (.int .i64 (rNum st.1 4).1) rfl; have z0 := (blk_cell bx3 0).trans rfl; have z1 := (blk_cell bx3 1).trans rfl; have z2 := (blk_cell bx3 2).trans rfl; have z3 := (blk_cell bx3 3).trans rfl; have z4 := (blk_cell bx3 4).trans rfl; have z5 := (blk_cell bx3 5).trans rfl; have z6 := (blk_cell bx3 6).trans rfl; have h3 := Aside0.mk (show Below wr.heap.size w2 (w2.setCell ⟨wr.heap.size, 1, none⟩ (.int .i64 (rNum st.1 4).1)) from (Below.refl _ w2).setCell (p := ⟨wr.heap.size, 1, none⟩) (Nat.le_refl _) _); have hw3 := Aside0.mk (W3F.out w2 _ hk2 h3.out); have hb3 := Aside0.mk (B3F.out w2 _ hl2 h3.out); have HW := Aside0.mk (show Calls Try.prog 58 #[.pointer (some ⟨Bw, 0, none⟩), .agg #[.int .i64 3, .int .i64 (rNum st.1 4).1, .int .i64 wide, .bool flag, .slice B1 N1 d1, .slice B2 N2 d2, .int .i64 most]] _ _ from by (have h := write_is ⟨3, (rNum st.1 4).1, wide, flag, bytes, list, most⟩ B1 d1 B2 d2 _ Bw Bw vw st.2 (Kd.C_below HJ1.out hb3.out) (F_old_of_C HJ2.out hb3.out (by omega) (fun k e => by have := (row_lt HA.out.wr.row e).1; omega)) hw3.out (by have := HK2.out.1; simp at this ⊢; omega) (by have := HWL.out.1; simpa using this)); dsimp only at h; rw [HNN.out.1, HNN.out.2] at h; exact h); clear hr2 hbk2 hk2 hl2 bx2 bx3)
          | (go_at_call 58; refine HW.out.mono ?_; rintro e w4 ⟨⟨vr, rfl⟩, v', hw4, hk4⟩; have HN4 := Aside0.mk (HA.out.round ⟨3, on, wide, flag, bytes, list, most⟩ HB1.out (by rw [HST.out]; exact HR2.out) HBK2.out HK2.out HL2.out h3.out (by rw [HST.out]; exact hw4) hk4 hw3.out); clear hw4 hk4))
        go_roundw
        case rel => exact ⟨i + 1, _, _, _, _, by go_num, by omega, HN4⟩
        case measure => simp [intOf]; omega
      by_cases k4 : kind = 4
      · subst k4
        have HRC := Aside0.mk (rI64_any _ gr Ar cr st.1 HR1.out HA.out.iv.1)
        obtain ⟨st', hst⟩ : ∃ st', rOp st.1 ⟨4, on, wide, flag, bytes, list, most⟩ = st' := ⟨_, rfl⟩
        have hst2 := hst
        unfold rOp at hst2
        dsimp only at hst2
        rw [if_neg (by decide), if_neg (by decide), if_neg (by decide), if_pos rfl] at hst2
        rw [← hst2] at hst
        have HST := Aside0.mk hst
        clear hst hst2
        skip
        go_wp2_with (first
          | (go_at_call 53; refine HRC.out.mono ?_; rintro e w2 ⟨rfl, ⟨A2, c2, hr2, hbk2⟩, hk2, hl2⟩; have HR2 := Aside0.mk hr2; have HBK2 := Aside0.mk hbk2; have HK2 := Aside0.mk hk2; have HL2 := Aside0.mk hl2; have bx2 := (hk2.2 wr.heap.size (by simp) (by omega) (by simp)).trans HBX.out; have q2 := (blk_cell bx2 2).trans rfl; have qf := blk_frozen bx2 2; have bx3 := blk_put bx2 2 (.int .i64 (wrap64 (rNum st.1 8).1)) rfl; have z0 := (blk_cell bx3 0).trans rfl; have z1 := (blk_cell bx3 1).trans rfl; have z2 := (blk_cell bx3 2).trans rfl; have z3 := (blk_cell bx3 3).trans rfl; have z4 := (blk_cell bx3 4).trans rfl; have z5 := (blk_cell bx3 5).trans rfl; have z6 := (blk_cell bx3 6).trans rfl; have h3 := Aside0.mk (show Below wr.heap.size w2 (w2.setCell ⟨wr.heap.size, 2, none⟩ (.int .i64 (wrap64 (rNum st.1 8).1))) from (Below.refl _ w2).setCell (p := ⟨wr.heap.size, 2, none⟩) (Nat.le_refl _) _); have hw3 := Aside0.mk (W3F.out w2 _ hk2 h3.out); have hb3 := Aside0.mk (B3F.out w2 _ hl2 h3.out); have HW := Aside0.mk (show Calls Try.prog 58 #[.pointer (some ⟨Bw, 0, none⟩), .agg #[.int .i64 4, .int .i64 on, .int .i64 (wrap64 (rNum st.1 8).1), .bool flag, .slice B1 N1 d1, .slice B2 N2 d2, .int .i64 most]] _ _ from by (have h := write_is ⟨4, on, wrap64 (rNum st.1 8).1, flag, bytes, list, most⟩ B1 d1 B2 d2 _ Bw Bw vw st.2 (Kd.C_below HJ1.out hb3.out) (F_old_of_C HJ2.out hb3.out (by omega) (fun k e => by have := (row_lt HA.out.wr.row e).1; omega)) hw3.out (by have := HK2.out.1; simp at this ⊢; omega) (by have := HWL.out.1; simpa using this)); dsimp only at h; rw [HNN.out.1, HNN.out.2] at h; exact h); clear hr2 hbk2 hk2 hl2 bx2 bx3)
          | (go_at_call 58; refine HW.out.mono ?_; rintro e w4 ⟨⟨vr, rfl⟩, v', hw4, hk4⟩; have HN4 := Aside0.mk (HA.out.round ⟨4, on, wide, flag, bytes, list, most⟩ HB1.out (by rw [HST.out]; exact HR2.out) HBK2.out HK2.out HL2.out h3.out (by rw [HST.out]; exact hw4) hk4 hw3.out); clear hw4 hk4))
        go_roundw
        case rel => exact ⟨i + 1, _, _, _, _, by go_num, by omega, HN4⟩
        case measure => simp [intOf]; omega
      by_cases k5 : kind = 5
      · subst k5
        have HRC := Aside0.mk (rBool_any _ gr Ar cr st.1 HR1.out HA.out.iv.1)
        obtain ⟨st', hst⟩ : ∃ st', rOp st.1 ⟨5, on, wide, flag, bytes, list, most⟩ = st' := ⟨_, rfl⟩
        have hst2 := hst
        unfold rOp at hst2
        dsimp only at hst2
        rw [if_neg (by decide), if_neg (by decide), if_neg (by decide), if_neg (by decide), if_pos rfl] at hst2
        rw [← hst2] at hst
        have HST := Aside0.mk hst
        clear hst hst2
        skip
        go_wp2_with (first
          | (go_at_call 54; refine HRC.out.mono ?_; rintro e w2 ⟨rfl, ⟨A2, c2, hr2, hbk2⟩, hk2, hl2⟩; have HR2 := Aside0.mk hr2; have HBK2 := Aside0.mk hbk2; have HK2 := Aside0.mk hk2; have HL2 := Aside0.mk hl2; have bx2 := (hk2.2 wr.heap.size (by simp) (by omega) (by simp)).trans HBX.out; have q3 := (blk_cell bx2 3).trans rfl; have qf := blk_frozen bx2 3; have bx3 := blk_put bx2 3 (.bool (rBool st.1).1) rfl; have z0 := (blk_cell bx3 0).trans rfl; have z1 := (blk_cell bx3 1).trans rfl; have z2 := (blk_cell bx3 2).trans rfl; have z3 := (blk_cell bx3 3).trans rfl; have z4 := (blk_cell bx3 4).trans rfl; have z5 := (blk_cell bx3 5).trans rfl; have z6 := (blk_cell bx3 6).trans rfl; have h3 := Aside0.mk (show Below wr.heap.size w2 (w2.setCell ⟨wr.heap.size, 3, none⟩ (.bool (rBool st.1).1)) from (Below.refl _ w2).setCell (p := ⟨wr.heap.size, 3, none⟩) (Nat.le_refl _) _); have hw3 := Aside0.mk (W3F.out w2 _ hk2 h3.out); have hb3 := Aside0.mk (B3F.out w2 _ hl2 h3.out); have HW := Aside0.mk (show Calls Try.prog 58 #[.pointer (some ⟨Bw, 0, none⟩), .agg #[.int .i64 5, .int .i64 on, .int .i64 wide, .bool (rBool st.1).1, .slice B1 N1 d1, .slice B2 N2 d2, .int .i64 most]] _ _ from by (have h := write_is ⟨5, on, wide, (rBool st.1).1, bytes, list, most⟩ B1 d1 B2 d2 _ Bw Bw vw st.2 (Kd.C_below HJ1.out hb3.out) (F_old_of_C HJ2.out hb3.out (by omega) (fun k e => by have := (row_lt HA.out.wr.row e).1; omega)) hw3.out (by have := HK2.out.1; simp at this ⊢; omega) (by have := HWL.out.1; simpa using this)); dsimp only at h; rw [HNN.out.1, HNN.out.2] at h; exact h); clear hr2 hbk2 hk2 hl2 bx2 bx3)
          | (go_at_call 58; refine HW.out.mono ?_; rintro e w4 ⟨⟨vr, rfl⟩, v', hw4, hk4⟩; have HN4 := Aside0.mk (HA.out.round ⟨5, on, wide, flag, bytes, list, most⟩ HB1.out (by rw [HST.out]; exact HR2.out) HBK2.out HK2.out HL2.out h3.out (by rw [HST.out]; exact hw4) hk4 hw3.out); clear hw4 hk4))
        go_roundw
        case rel => exact ⟨i + 1, _, _, _, _, by go_num, by omega, HN4⟩
        case measure => simp [intOf]; omega
      by_cases k6 : kind = 6
      · subst k6
        have HRC := Aside0.mk (rBytes_any _ gr Ar cr st.1 on HR1.out (by have := HS1.out; omega) (by have := HWL.out.2.1; omega))
        obtain ⟨st', hst⟩ : ∃ st', rOp st.1 ⟨6, on, wide, flag, bytes, list, most⟩ = st' := ⟨_, rfl⟩
        have hst2 := hst
        unfold rOp at hst2
        dsimp only at hst2
        rw [if_neg (by decide), if_neg (by decide), if_neg (by decide), if_neg (by decide), if_neg (by decide), if_pos rfl] at hst2
        rw [← hst2] at hst
        have HST := Aside0.mk hst
        clear hst hst2
        obtain ⟨L6, hL6⟩ : ∃ L, (rTake st.1 on).1 = L := ⟨_, rfl⟩; obtain ⟨N6, hN6⟩ : ∃ N, L6.length = N := ⟨_, rfl⟩; rw [hL6] at HRC HST; have hle6 := (rTake_len st.1 on).2; rw [hL6] at hle6; have HL6 := Aside0.mk (And.intro hN6 hle6); clear hL6 hle6; clear hN6
        go_wp2_with (first
          | (go_at_call 55; refine HRC.out.mono ?_; rintro e w2 ⟨v6, rfl, hR6, ⟨A2, c2, hr2, hbk2⟩, hk2, hl2⟩; obtain ⟨A6, c6, rfl⟩ := Kd.R_slice hR6; rw [HL6.out.1]; have HR6 := Aside0.mk hR6; clear hR6; have HR2 := Aside0.mk hr2; have HBK2 := Aside0.mk hbk2; have HK2 := Aside0.mk hk2; have HL2 := Aside0.mk hl2; have bx2 := (hk2.2 wr.heap.size (by simp) (by omega) (by simp)).trans HBX.out; have q4 := (blk_cell bx2 4).trans rfl; have qf := blk_frozen bx2 4; have bx3 := blk_put bx2 4 (.slice A6 N6 c6) rfl; have z0 := (blk_cell bx3 0).trans rfl; have z1 := (blk_cell bx3 1).trans rfl; have z2 := (blk_cell bx3 2).trans rfl; have z3 := (blk_cell bx3 3).trans rfl; have z4 := (blk_cell bx3 4).trans rfl; have z5 := (blk_cell bx3 5).trans rfl; have z6 := (blk_cell bx3 6).trans rfl; have h3 := Aside0.mk (show Below wr.heap.size w2 (w2.setCell ⟨wr.heap.size, 4, none⟩ (.slice A6 N6 c6)) from (Below.refl _ w2).setCell (p := ⟨wr.heap.size, 4, none⟩) (Nat.le_refl _) _); have hw3 := Aside0.mk (W3F.out w2 _ hk2 h3.out); have hb3 := Aside0.mk (B3F.out w2 _ hl2 h3.out); have HW := Aside0.mk (show Calls Try.prog 58 #[.pointer (some ⟨Bw, 0, none⟩), .agg #[.int .i64 6, .int .i64 on, .int .i64 wide, .bool flag, .slice A6 N6 c6, .slice B2 N2 d2, .int .i64 most]] _ _ from by (have h := write_is ⟨6, on, wide, flag, L6, list, most⟩ A6 c6 B2 d2 _ Bw Bw vw st.2 (C_new_far HR6.out _ (by have := HS1.out; dsimp only; omega) _) (F_old_of_C HJ2.out hb3.out (by omega) (fun k e => by have := (row_lt HA.out.wr.row e).1; omega)) hw3.out (by have := HK2.out.1; simp at this ⊢; omega) (by have := HWL.out.2; have := HL6.out.2; dsimp only; omega)); dsimp only at h; rw [HL6.out.1, HNN.out.2] at h; exact h); clear hr2 hbk2 hk2 hl2 bx2 bx3)
          | (go_at_call 58; refine HW.out.mono ?_; rintro e w4 ⟨⟨vr, rfl⟩, v', hw4, hk4⟩; have HN4 := Aside0.mk (HA.out.round ⟨6, on, wide, flag, bytes, list, most⟩ HB1.out (by rw [HST.out]; exact HR2.out) HBK2.out HK2.out HL2.out h3.out (by rw [HST.out]; exact hw4) hk4 hw3.out); clear hw4 hk4))
        go_roundw
        case rel => exact ⟨i + 1, _, _, _, _, by go_num, by omega, HN4⟩
        case measure => simp [intOf]; omega
      by_cases k7 : kind = 7
      · subst k7
        have HRC := Aside0.mk (getList_again _ gr Ar cr st.1 most HR1.out HA.out.iv.1 (fun ad e => by have := HA.out.ra ad e; have := HS1.out; omega) (by have := HWL.out.2.1; omega))
        obtain ⟨st', hst⟩ : ∃ st', rOp st.1 ⟨7, on, wide, flag, bytes, list, most⟩ = st' := ⟨_, rfl⟩
        have hst2 := hst
        unfold rOp at hst2
        dsimp only at hst2
        rw [if_neg (by decide), if_neg (by decide), if_neg (by decide), if_neg (by decide), if_neg (by decide), if_neg (by decide), if_pos rfl] at hst2
        rw [← hst2] at hst
        have HST := Aside0.mk hst
        clear hst hst2
        unfold RLPost at HRC; obtain ⟨L6, hL6⟩ : ∃ L, (rList st.1 most).1 = L := ⟨_, rfl⟩; obtain ⟨N6, hN6⟩ : ∃ N, L6.length = N := ⟨_, rfl⟩; rw [hL6] at HRC HST; have hle6 := rList_len st.1 most; rw [hL6] at hle6; have HL6 := Aside0.mk (And.intro hN6 hle6); clear hL6 hle6; clear hN6
        go_wp2_with (first
          | (go_at_call 56; refine HRC.out.mono ?_; rintro e w2 ⟨A6, c6, rfl, hF6, ⟨A2, c2, hr2, hbk2⟩, hk2, hl2, _⟩; rw [HL6.out.1]; have HF6 := Aside0.mk hF6; clear hF6; have HR2 := Aside0.mk hr2; have HBK2 := Aside0.mk hbk2; have HK2 := Aside0.mk hk2; have HL2 := Aside0.mk hl2; have bx2 := (hk2.2 wr.heap.size (by simp) (by omega) (by simp)).trans HBX.out; have q5 := (blk_cell bx2 5).trans rfl; have qf := blk_frozen bx2 5; have bx3 := blk_put bx2 5 (.slice A6 N6 c6) rfl; have z0 := (blk_cell bx3 0).trans rfl; have z1 := (blk_cell bx3 1).trans rfl; have z2 := (blk_cell bx3 2).trans rfl; have z3 := (blk_cell bx3 3).trans rfl; have z4 := (blk_cell bx3 4).trans rfl; have z5 := (blk_cell bx3 5).trans rfl; have z6 := (blk_cell bx3 6).trans rfl; have h3 := Aside0.mk (show Below wr.heap.size w2 (w2.setCell ⟨wr.heap.size, 5, none⟩ (.slice A6 N6 c6)) from (Below.refl _ w2).setCell (p := ⟨wr.heap.size, 5, none⟩) (Nat.le_refl _) _); have hw3 := Aside0.mk (W3F.out w2 _ hk2 h3.out); have hb3 := Aside0.mk (B3F.out w2 _ hl2 h3.out); have HW := Aside0.mk (show Calls Try.prog 58 #[.pointer (some ⟨Bw, 0, none⟩), .agg #[.int .i64 7, .int .i64 on, .int .i64 wide, .bool flag, .slice B1 N1 d1, .slice A6 N6 c6, .int .i64 most]] _ _ from by (have h := write_is ⟨7, on, wide, flag, bytes, L6, most⟩ B1 d1 A6 c6 _ Bw Bw vw st.2 (Kd.C_below HJ1.out hb3.out) (Kd.F_mono (Kd.F_far HF6.out (p := ⟨wr.heap.size, 5, none⟩) (fun k hk => by have := HS1.out; dsimp only; omega) _) (fun k hk => ⟨by have := HS1.out; omega, fun e => by have := (row_lt HA.out.wr.row e.symm).2; have := HS1.out; omega⟩)) hw3.out (by have := HK2.out.1; simp at this ⊢; omega) (by have := HWL.out.2; have := HL6.out.2; dsimp only; omega)); dsimp only at h; rw [HNN.out.1, HL6.out.1] at h; exact h); clear hr2 hbk2 hk2 hl2 bx2 bx3)
          | (go_at_call 58; refine HW.out.mono ?_; rintro e w4 ⟨⟨vr, rfl⟩, v', hw4, hk4⟩; have HN4 := Aside0.mk (HA.out.round ⟨7, on, wide, flag, bytes, list, most⟩ HB1.out (by rw [HST.out]; exact HR2.out) HBK2.out HK2.out HL2.out h3.out (by rw [HST.out]; exact hw4) hk4 hw3.out); clear hw4 hk4))
        go_roundw
        case rel => exact ⟨i + 1, _, _, _, _, by go_num, by omega, HN4⟩
        case measure => simp [intOf]; omega
      have HST := Aside0.mk (show rOp st.1 ⟨kind, on, wide, flag, bytes, list, most⟩ = (⟨kind, on, wide, flag, bytes, list, most⟩, st.1) by unfold rOp; simp [k1, k2, k3, k4, k5, k6, k7])
      have p1 : (kind == 1) = false := by rw [beq_eq_false_iff_ne]; exact k1
      have p2 : (kind == 2) = false := by rw [beq_eq_false_iff_ne]; exact k2
      have p3 : (kind == 3) = false := by rw [beq_eq_false_iff_ne]; exact k3
      have p4 : (kind == 4) = false := by rw [beq_eq_false_iff_ne]; exact k4
      have p5 : (kind == 5) = false := by rw [beq_eq_false_iff_ne]; exact k5
      have p6 : (kind == 6) = false := by rw [beq_eq_false_iff_ne]; exact k6
      have p7 : (kind == 7) = false := by rw [beq_eq_false_iff_ne]; exact k7
      have z0 := (blk_cell HBX.out 0).trans rfl
      have z1 := (blk_cell HBX.out 1).trans rfl
      have z2 := (blk_cell HBX.out 2).trans rfl
      have z3 := (blk_cell HBX.out 3).trans rfl
      have z4 := (blk_cell HBX.out 4).trans rfl
      have z5 := (blk_cell HBX.out 5).trans rfl
      have z6 := (blk_cell HBX.out 6).trans rfl
      have hk0 := KeepBut.refl (wr.alloc (.cells #[.int .i64 kind, .int .i64 on, .int .i64 wide, .bool flag, .slice B1 N1 d1, .slice B2 N2 d2, .int .i64 most] 58)) gr none
      have hl0' : ∀ B, B ≤ gr → Below B (wr.alloc (.cells #[.int .i64 kind, .int .i64 on, .int .i64 wide, .bool flag, .slice B1 N1 d1, .slice B2 N2 d2, .int .i64 most] 58)) (wr.alloc (.cells #[.int .i64 kind, .int .i64 on, .int .i64 wide, .bool flag, .slice B1 N1 d1, .slice B2 N2 d2, .int .i64 most] 58)) := fun B _ => Below.refl _ _
      have h3 := Aside0.mk (Below.refl wr.heap.size (wr.alloc (.cells #[.int .i64 kind, .int .i64 on, .int .i64 wide, .bool flag, .slice B1 N1 d1, .slice B2 N2 d2, .int .i64 most] 58)))
      have hw3 := Aside0.mk (W3F.out _ _ hk0 h3.out)
      have hb3 := Aside0.mk (B3F.out _ _ hl0' h3.out)
      have HW := Aside0.mk (write_is ⟨kind, on, wide, flag, bytes, list, most⟩ B1 d1 B2 d2 _ Bw Bw vw st.2 (Kd.C_below HJ1.out hb3.out) (F_old_of_C HJ2.out hb3.out (by omega) (fun k e => by have := (row_lt HA.out.wr.row e).1; omega)) hw3.out (by simp; omega) (by have := HWL.out.1; simpa using this))
      dsimp only at HW
      rw [HNN.out.1, HNN.out.2] at HW
      have HK0 := Aside0.mk hk0
      have HL0 := Aside0.mk hl0'
      clear hk0 hl0'
      go_wp2_with (go_at_call 58; refine HW.out.mono ?_; rintro e w4 ⟨⟨vr, rfl⟩, v', hw4, hk4⟩; have HN4 := Aside0.mk (HA.out.round ⟨kind, on, wide, flag, bytes, list, most⟩ HB1.out (by rw [HST.out]; exact HR1.out) (BlkOf.refl _) HK0.out HL0.out h3.out (by rw [HST.out]; exact hw4) hk4 hw3.out); clear hw4 hk4)
      go_roundw
      case rel => exact ⟨i + 1, _, _, _, _, by go_num, by omega, HN4⟩
      case measure => simp [intOf]; omega
    · have HRDone := Aside0.mk (rDone_any wr gr Ar cr st.1 HA.out.rd)
      by_cases hz : rLeftF st.1 = 0
      · rw [hz] at HRDone
        obtain ⟨y1, y2⟩ : st.2 = (b, 0) ∧ st.1.2 = 0 := by
          unfold rLeftF at hz
          obtain ⟨⟨rl, rf⟩, ⟨wl, wf⟩⟩ := st
          dsimp only at hz
          by_cases c : rf = 0 ∧ 0 < rl.length
          · rw [if_pos c] at hz; exact absurd hz (by decide)
          · rw [if_neg c] at hz
            subst hz
            obtain ⟨z1, z2⟩ := HA.out.iv.2 rfl
            have : rl = [] := List.length_eq_zero_iff.1 (by omega)
            subst this
            dsimp only at z1 z2
            rw [List.append_nil] at z2
            exact ⟨by rw [z1, z2], rfl⟩
        have HWDone := Aside0.mk (wDone_any wr Bw Bw vw st.2 HA.out.wr (by rw [y1]; have := HNB.out; dsimp only; omega))
        rw [y1] at HWDone
        dsimp only at HWDone
        rw [if_pos rfl] at HWDone
        have HBL := Aside0.mk HA.out.bl
        have HSM := Aside0.mk (same_own b (by have := HNB.out; omega) (b.length + 1) (Nat.lt_succ_self _))
        clear HA y1 y2 hz
        go_wp2_with (first
          | (go_at_call 41; refine HRDone.out.mono ?_; rintro e w2 ⟨rfl, rfl⟩)
          | (go_at_call 59; refine HWDone.out.mono ?_; rintro e w3 ⟨v6, rfl, hR6, hb3⟩; obtain ⟨A6, c6, rfl⟩ := Kd.R_slice hR6; have HB3 := Aside0.mk (HBL.out.trans (hb3.mono HBL.out.size)); have h6 := Kd.R_reads' hR6; have HS := Aside0.mk (bulkheadlaw02_same.calls (b.length + 1) A6 c6 b A0 c0 b true w3 h6.2.2 h6.2.1 (by have h := Kd.C_below HR0.out HB3.out; rw [HNB.out]; exact h) (by rw [HNB.out]; exact HC0.out) HSM.out); rw [HNB.out] at HS ⊢; clear hR6 hb3 h6)
          | (go_at_call 28; refine HS.out.mono ?_; rintro e w4 ⟨rfl, hd4⟩; have HB4 := Aside0.mk (HB3.out.trans (hd4.below.mono HB3.out.size)); clear hd4)
          | (go_at_call 49; refine (bulkheadlaw02_works.calls true _ rfl).mono ?_; rintro e w5 ⟨rfl, hb5⟩; have HB5 := Aside0.mk (HB4.out.trans (hb5.mono HB4.out.size)); clear hb5))
        go_ret
        exact ⟨rfl, HB5.out⟩
      · obtain ⟨z, hzz⟩ : ∃ z, rLeftF st.1 = z := ⟨_, rfl⟩
        rw [hzz] at HRDone hz
        have HBL := Aside0.mk HA.out.bl
        clear HA hzz
        have p0 : (z == 0) = false := by rw [beq_eq_false_iff_ne]; exact hz
        go_wp2_with (first
          | (go_at_call 41; refine HRDone.out.mono ?_; rintro e w2 ⟨rfl, rfl⟩)
          | (go_at_call 49; refine (bulkheadlaw02_works.calls true _ rfl).mono ?_; rintro e w5 ⟨rfl, hb5⟩; have HB5 := Aside0.mk (HBL.out.trans (hb5.mono HBL.out.size)); clear hb5))
        go_ret
        exact ⟨rfl, HB5.out⟩
end Go.Proofs.Ytceeoifbimlkdaa.B
