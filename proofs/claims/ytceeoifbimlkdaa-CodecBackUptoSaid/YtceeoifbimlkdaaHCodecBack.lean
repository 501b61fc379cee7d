/- Proved: the law CodecBack answers true at any calls and any cut. Conditions: bounds of the lengths. -/
import Derived.Test.YtceeoifbimlkdaaHBackMem
import Derived.Test.YtceeoifbimlkdaaHBack
namespace Go.Proofs.Ytceeoifbimlkdaa.B
open Go.RowKit Go.Proofs.YtceeoifbimlkdaaW.PrintWords Go.Proofs.YtceeoifbimlkdaaW.PrintLast Go.Proofs.YtceeoifbimlkdaaW.PrintMore

theorem infoOp : (Try.prog.info? 58).map (fun i => (i.zero, i.size, i.bytes)) = some (some (.agg #[.int .i64 0, .int .i64 0, .int .i64 0, .bool false, .slice none 0 0, .slice none 0 0, .int .i64 0]), 7, 88) := by kernel_rfl
theorem allB_snoc (fs : List OpL) (f : OpL) : allB (fs ++ [f]) = allB fs ++ encO f := by
  unfold allB; rw [List.flatMap_append]; simp
theorem allB_len : ∀ (fs : List OpL), (∀ f ∈ fs, f.bytes.length + f.list.length ≤ 1048576) → (allB fs).length ≤ fs.length * 3000000
  | [], _ => by simp [allB]
  | f :: fs, h => by
    have h1 := allB_len fs fun x hx => h x (by simp [hx])
    have h2 := encO_len f
    have h3 := h f (by simp)
    have e : allB (f :: fs) = encO f ++ allB fs := rfl
    rw [e, List.length_append, List.length_cons]
    omega
theorem allB_ok (fs : List OpL) (h : ∀ f ∈ fs, BytesOk f.bytes) : BytesOk (allB fs) := fun y hy => by
  obtain ⟨o, ho, hx⟩ := List.mem_flatMap.1 hy
  exact encO_ok o (h o ho) y hx
theorem wf_fit (o : OpL) (h : WfOp o) (hl : o.bytes.length + o.list.length ≤ 1048576) : Fit (fit o) := by
  refine fit_fit o ?_ (fun x hx => ?_) (by omega)
  · have := h.2.2.1
    simp [Lit.wf, IntKind.min, IntKind.max, IntKind.signed, IntKind.bits] at this
    omega
  · have := h.2.2.2.2.1 x hx
    simp [Lit.wf, IntKind.min, IntKind.max, IntKind.signed, IntKind.bits] at this
    omega
set_option maxHeartbeats 16000000 in
set_option maxRecDepth 100000 in
theorem codecBack_is (A1 : Option Addr) (c1 : Nat) (ops : List OpL) (cut : Int) (w : World) (hop : OpsAtC w A1 ops) (hl1 : ops.length ≤ 1048576) (hls : ∀ o ∈ ops, WfOp o ∧ o.bytes.length + o.list.length ≤ 1048576) :
    Calls Try.prog 13 #[.slice A1 ops.length c1, .int .i64 cut] w fun e w' => e = .returned (.bool true) ∧ Below w.heap.size w w' := by
  have hu58 := Try.underlying58
  have HOP := Aside0.mk hop
  have HLS := Aside0.mk hls
  obtain ⟨n, hn⟩ : ∃ n, ops.length = n := ⟨_, rfl⟩
  rw [hn] at hl1 ⊢
  have HN := Aside0.mk hn
  clear hop hls hn
  go_enter Try.func13, Try.ntmps13
  go_wp2_with (go_at_call 35; refine (newWriter_is w).mono ?_; rintro e w2 ⟨rfl, hw2, hb2⟩; have HBK := Aside0.mk (show BkAt w w.heap.size (.slice none 0 0) (.slice none 0 0) (allB []) [] [] w2 from ⟨rfl, hw2, ⟨rfl, .inl ⟨rfl, rfl⟩⟩, rfl, fun i h => absurd h (Nat.not_lt_zero _), hb2, blk_lt hw2.blk⟩); clear hw2 hb2)
  go_loopw [6, 7] (fun vl vi wr => ∃ (i : Nat) (vw : Value) (rows : List (List Value)) (fs : List OpL), vi = .int .i64 (i : Nat) ∧ i ≤ n ∧ Aside0 (fs = (ops.take i).map fit) ∧ Aside0 (BkAt w w.heap.size vw vl (allB fs) rows fs wr)) (fun _ vi _ => n - (intOf vi).toNat)
  case atStart => exact ⟨0, _, _, _, rfl, Nat.zero_le _, ⟨rfl⟩, HBK⟩
  case round =>
    clear HBK
    obtain ⟨i, vw, rows, fs, rfl, hi, HFS, HA⟩ := hrel
    by_cases hlt : i < n
    · have hopl : i < ops.length := by have := HN.out; omega
      obtain ⟨ad, B1, d1, B2, d2, e, hla, y0, y1, y2, y3, y4, y5, y6, j1, j2, k1, k2⟩ := HOP.out i hopl
      cases e
      have x0 := (HA.out.bl.cell (p := ad.add (i * 7)) hla).trans y0
      have x1 := (HA.out.bl.cell (p := ⟨(ad.add (i * 7)).block, (ad.add (i * 7)).off + 1, none⟩) hla).trans y1
      have x2 := (HA.out.bl.cell (p := ⟨(ad.add (i * 7)).block, (ad.add (i * 7)).off + 2, none⟩) hla).trans y2
      have x3 := (HA.out.bl.cell (p := ⟨(ad.add (i * 7)).block, (ad.add (i * 7)).off + 3, none⟩) hla).trans y3
      have x4 := (HA.out.bl.cell (p := ⟨(ad.add (i * 7)).block, (ad.add (i * 7)).off + 4, none⟩) hla).trans y4
      have x5 := (HA.out.bl.cell (p := ⟨(ad.add (i * 7)).block, (ad.add (i * 7)).off + 5, none⟩) hla).trans y5
      have x6 := (HA.out.bl.cell (p := ⟨(ad.add (i * 7)).block, (ad.add (i * 7)).off + 6, none⟩) hla).trans y6
      have hol := HLS.out _ (List.getElem_mem hopl)
      have HSN := Aside0.mk (show (ops.take (i + 1)).map fit = fs ++ [fit ops[i]] by rw [List.take_succ_eq_append_getElem hopl, List.map_append, ← HFS.out]; rfl)
      have HFL := Aside0.mk (show fs.length = i by rw [HFS.out, List.length_map, List.length_take]; omega)
      have HAL := Aside0.mk (show (allB fs).length ≤ 3145728000000 from by
        have h := allB_len fs fun f hf => by
          rw [HFS.out] at hf
          obtain ⟨o, ho, rfl⟩ := List.mem_map.1 hf
          rw [(fit_len o).2, (fit_len o).1]
          exact (HLS.out o (List.mem_of_mem_take ho)).2
        have := HFL.out
        omega)
      have HFIT := Aside0.mk (wf_fit _ hol.1 hol.2)
      have HFLN := Aside0.mk (fit_len ops[i])
      have HFT := Aside0.mk (fitted_is ops[i] B1 d1 B2 d2 wr (Kd.C_below j2 HA.out.bl) (by have := hol.2; omega))
      have HJ1 := Aside0.mk j1
      have HJ2 := Aside0.mk j2
      have HK := Aside0.mk (And.intro k1 k2)
      have HOL := Aside0.mk hol.2
      generalize fit ops[i] = f at *
      generalize ops[i] = o at *
      obtain ⟨kind, on, wide, flag, bytes, list, most⟩ := o
      obtain ⟨fk, fn, fw, ff, fb, fl, fm⟩ := f
      have HFLN0 := Aside0.mk HFLN.out.1
      obtain ⟨-, rfl⟩ : _ ∧ fb = bytes := HFLN.out
      unfold FtPost at HFT
      dsimp only at x0 x1 x2 x3 x4 x5 x6 HJ1 HJ2 HK HOL HFT HFLN0
      obtain ⟨N1, hN1⟩ : ∃ N, fb.length = N := ⟨_, rfl⟩
      obtain ⟨N2, hN2⟩ : ∃ N, list.length = N := ⟨_, rfl⟩
      rw [hN1] at x4
      rw [hN2] at x5
      rw [hN1, hN2] at HFT
      rw [hN2] at HFLN0
      have HNN := Aside0.mk (And.intro hN1 hN2)
      clear y0 y1 y2 y3 y4 y5 y6 j1 j2 k1 k2 hla hol hopl hN1 hN2 HFLN
      go_wp2_with (first
        | (go_at_call 60; refine HFT.out.mono ?_; rintro e w2 ⟨A3, c3, rfl, hb2, hcase⟩; have HB2 := Aside0.mk hb2; have HROW := Aside0.mk (HA.out.fresh (f := ⟨fk, fn, fw, ff, fb, fl, fm⟩) hb2 ⟨kind, on, wide, flag, fb, list, most⟩ A3 c3 HJ1.out HJ2.out HK.out.1 HK.out.2 rfl hcase); have hbx := heap_alloc_new w2 (.cells #[.int .i64 fk, .int .i64 fn, .int .i64 fw, .bool ff, .slice B1 N1 d1, .slice A3 N2 c3, .int .i64 fm] 58); have z0 := (blk_cell hbx 0).trans (show _ = some (.int .i64 fk) from rfl); have z1 := (blk_cell hbx 1).trans (show _ = some (.int .i64 fn) from rfl); have z2 := (blk_cell hbx 2).trans (show _ = some (.int .i64 fw) from rfl); have z3 := (blk_cell hbx 3).trans (show _ = some (.bool ff) from rfl); have z4 := (blk_cell hbx 4).trans (show _ = some (.slice B1 N1 d1) from rfl); have z5 := (blk_cell hbx 5).trans (show _ = some (.slice A3 N2 c3) from rfl); have z6 := (blk_cell hbx 6).trans (show _ = some (.int .i64 fm) from rfl); have HBX := Aside0.mk hbx; have H3 := Aside0.mk (show Below w2.heap.size w2 (w2.alloc (.cells #[.int .i64 fk, .int .i64 fn, .int .i64 fw, .bool ff, .slice B1 N1 d1, .slice A3 N2 c3, .int .i64 fm] 58)) from (Below.refl _ _).alloc (Nat.le_refl _) _); have HO := Aside0.mk (show (w2.alloc (.cells #[.int .i64 fk, .int .i64 fn, .int .i64 fw, .bool ff, .slice B1 N1 d1, .slice A3 N2 c3, .int .i64 fm] 58)).ownsRow w.heap.size 58 7 u6 i rows.flatten from by (have h := own2_kept HA.out.ow (w2 := w2.alloc (.cells #[.int .i64 fk, .int .i64 fn, .int .i64 fw, .bool ff, .slice B1 N1 d1, .slice A3 N2 c3, .int .i64 fm] 58)) (fun k hk _ => (H3.out.block k (Nat.lt_of_lt_of_le hk hb2.size)).trans (hb2.block k hk)); rw [HFL.out] at h; exact h)); have HZ := Aside0.mk (show w.heap.size ≤ (w2.alloc (.cells #[.int .i64 fk, .int .i64 fn, .int .i64 fw, .bool ff, .slice B1 N1 d1, .slice A3 N2 c3, .int .i64 fm] 58)).heap.size from by (have := HA.out.sz; have := hb2.size; have := H3.out.size; omega)); clear hb2 hcase hbx)
        | ((with_reducible refine gate_builtin (b := .append) (xs := #[.tmp 30, .tmp 32]) rfl ?_); at_builtin; refine print_append_cells (w0 := w2.alloc (.cells #[.int .i64 fk, .int .i64 fn, .int .i64 fw, .bool ff, .slice B1 N1 d1, .slice A3 N2 c3, .int .i64 fm] 58)) w.heap.size rfl (.tmp 30) (.tmp 32) 49 58 (.agg #[.int .i64 0, .int .i64 0, .int .i64 0, .bool false, .slice none 0 0, .slice none 0 0, .int .i64 0]) 7 88 rfl Try.underlying49 infoOp rfl (by decide) (by decide) _ i rows.flatten [.int .i64 fk, .int .i64 fn, .int .i64 fw, .bool ff, .slice B1 N1 d1, .slice A3 N2 c3, .int .i64 fm] rfl ?aX rfl (by simp [Value.oneCell']) HO.out (Below.refl _ _) HZ.out (by omega) ?_; (case aX => first | rfl | (rw [World.size_alloc]; rfl)); intro v1 w4 hown hb4 hg4 hat4; have HOWN := Aside0.mk hown; have HB4 := Aside0.mk hb4; have HG4 := Aside0.mk hg4; have HAT4 := Aside0.mk hat4; have H4 := HA.out.wrote HB2.out H3.out hg4 hat4 HROW.out; have HW := Aside0.mk (write_is ⟨fk, fn, fw, ff, fb, fl, fm⟩ B1 d1 A3 c3 w4 w.heap.size w.heap.size vw (allB fs, 0) (Kd.F_now H4.2.b) (Kd.F_mono H4.2.l fun k hk => ⟨hk.1, hk.2.1⟩) H4.1 (Nat.le_trans HZ.out hb4.size) (by have := HAL.out; have := HOL.out; have := HNN.out; have := HFLN0.out; dsimp only; omega)); rw [wOp_yes _ _ HFIT.out] at HW; unfold WPost at HW; dsimp only at HW; rw [HNN.out.1, HFLN0.out] at HW; have bx4 := (hg4.block w2.heap.size (blk_lt HBX.out) (fun e => by have := (own2_base HA.out.ow _ e).2.1; have := HB2.out.size; omega)).trans HBX.out; have zz0 := (blk_cell bx4 0).trans (show _ = some (.int .i64 fk) from rfl); have zz1 := (blk_cell bx4 1).trans (show _ = some (.int .i64 fn) from rfl); have zz2 := (blk_cell bx4 2).trans (show _ = some (.int .i64 fw) from rfl); have zz3 := (blk_cell bx4 3).trans (show _ = some (.bool ff) from rfl); have zz4 := (blk_cell bx4 4).trans (show _ = some (.slice B1 N1 d1) from rfl); have zz5 := (blk_cell bx4 5).trans (show _ = some (.slice A3 N2 c3) from rfl); have zz6 := (blk_cell bx4 6).trans (show _ = some (.int .i64 fm) from rfl); clear hown hb4 hg4 hat4 H4 bx4)
        | (go_at_call 58; refine HW.out.mono ?_; rintro e w5 ⟨⟨vr, rfl⟩, vw', hw5, hk5⟩; have HN5 := Aside0.mk (HA.out.round HB2.out H3.out HROW.out (by have h := HOWN.out; rw [HFL.out, valsOf]; dsimp only; rw [HNN.out.1, HFLN0.out]; exact h) HG4.out HAT4.out HB4.out hw5 hk5); clear hw5 hk5))
      go_roundw
      case rel => exact ⟨i + 1, _, _, _, by go_num, by omega, ⟨HSN.out.symm⟩, ⟨by rw [allB_snoc]; exact HN5.out⟩⟩
      case measure => simp [intOf]; omega
    · obtain rfl : i = n := by omega
      have hfsl : fs.length = i := by rw [HFS.out, List.length_map, List.length_take]; have := HN.out; omega
      have HFIT := Aside0.mk (show ∀ f ∈ fs, Fit f ∧ f.bytes.length + f.list.length ≤ 1048576 from fun f hf => by
        rw [HFS.out] at hf
        obtain ⟨o, ho, rfl⟩ := List.mem_map.1 hf
        have h := HLS.out o (List.mem_of_mem_take ho)
        rw [(fit_len o).2, (fit_len o).1]
        exact ⟨wf_fit o h.1 h.2, h.2⟩)
      have HAL := Aside0.mk (show (allB fs).length ≤ 3145728000000 from by
        have h := allB_len fs fun f hf => (HFIT.out f hf).2
        omega)
      obtain ⟨A, c, rfl, hfc, hOps⟩ := HA.out.done
      have HOPS := Aside0.mk hOps
      have HWR := Aside0.mk HA.out.wr
      have HBL := Aside0.mk HA.out.bl
      have HSZ := Aside0.mk HA.out.sz
      have HBO := Aside0.mk (allB_ok fs fun f hf => (HFIT.out f hf).1.bs)
      have HWD := Aside0.mk (wDone_any wr w.heap.size w.heap.size vw (allB fs, 0) HA.out.wr (by have := HAL.out; dsimp only; omega))
      dsimp only at HWD
      rw [if_pos rfl] at HWD
      have HFSL := Aside0.mk hfsl
      obtain ⟨wz, hwz⟩ : ∃ wz, wz = wr := ⟨_, rfl⟩
      subst hwz
      obtain ⟨b, hb⟩ : ∃ b, allB fs = b := ⟨_, rfl⟩
      obtain ⟨nb, hnb⟩ : ∃ nb, b.length = nb := ⟨_, rfl⟩
      rw [hb] at HWD HWR HAL HBO
      rw [hfsl]
      rw [hnb] at HAL
      have HB := Aside0.mk hb
      have HNB := Aside0.mk hnb
      clear HA HFS hOps hfc hfsl hb hnb HLS HOP
      go_wp2_with (first
        | (go_at_call 59; refine HWD.out.mono ?_; rintro e w3 ⟨v6, rfl, hR6, hb3⟩; obtain ⟨A6, c6, rfl⟩ := Kd.R_slice hR6; have h6 := Kd.R_reads' hR6; have HR6 := Aside0.mk h6.2.2; have HC6 := Aside0.mk h6.2.1; have HB3 := Aside0.mk hb3; have HNR := Aside0.mk (newReaderF_is w3 A6 c6 b h6.2.2 h6.2.1 (by have := HNB.out; have := HAL.out; omega)); rw [HNB.out] at HNR HC6 ⊢; clear hR6 hb3 h6)
        | (go_at_call 39; refine HNR.out.mono ?_; rintro e w4 ⟨gr, Ar, cr, rfl, hg1, hrd, hb4, har, hg2⟩; have HRD := Aside0.mk hrd; have HB4 := Aside0.mk hb4; have HAR := Aside0.mk har; have HG := Aside0.mk (And.intro hg1 hg2); have HWL := Aside0.mk (wLen_any w4 w.heap.size w.heap.size vw (b, 0) ((HWR.out.below HB3.out).below hb4)); dsimp only at HWL; rw [HNB.out] at HWL; clear hrd hb4 har hg1 hg2)
        | (go_at_call 61; refine HWL.out.mono ?_; rintro e w5 ⟨rfl, rfl⟩))
      have HBW := Aside0.mk (show Below wz.heap.size wz w4 from HB3.out.trans (HB4.out.mono HB3.out.size))
      have HGR := Aside0.mk (show wz.heap.size ≤ gr from Nat.le_trans HB3.out.size HG.out.1)
      clear HWL HNR HWD HWR
      go_loopw [12] (fun vi wr => ∃ (k : Nat) (Ak : Option Addr) (ck : Nat), vi = .int .i64 (k : Nat) ∧ k ≤ i ∧ Aside0 (RdAt wr gr Ak ck (allB (fs.drop k)) 0) ∧ Aside0 (∀ ad, Ak = some ad → ad.block < gr) ∧ Aside0 (Below gr w4 wr)) (fun vi _ => i - (intOf vi).toNat)
      case atStart => exact ⟨0, Ar, cr, rfl, Nat.zero_le _, ⟨by rw [List.drop_zero, HB.out]; exact HRD.out⟩, HAR, ⟨Below.refl _ _⟩⟩
      case round =>
        clear HRD HAR
        obtain ⟨k, Ak, ck, rfl, hk, HRD, HAR, HBX⟩ := hrel
        have HBX2 := Aside0.mk (show Below wz.heap.size wz wr from HBW.out.trans (HBX.out.mono HGR.out))
        by_cases hlk : k < i
        · have hopl : k < fs.length := by have := HFSL.out; omega
          obtain ⟨ad, B1, d1, B2, d2, e, hla, y0, y1, y2, y3, y4, y5, y6, j1, j2, k1, k2⟩ := HOPS.out k hopl
          cases e
          have x0 := (HBX2.out.cell (p := ad.add (k * 7)) hla).trans y0
          have x1 := (HBX2.out.cell (p := ⟨(ad.add (k * 7)).block, (ad.add (k * 7)).off + 1, none⟩) hla).trans y1
          have x2 := (HBX2.out.cell (p := ⟨(ad.add (k * 7)).block, (ad.add (k * 7)).off + 2, none⟩) hla).trans y2
          have x3 := (HBX2.out.cell (p := ⟨(ad.add (k * 7)).block, (ad.add (k * 7)).off + 3, none⟩) hla).trans y3
          have x4 := (HBX2.out.cell (p := ⟨(ad.add (k * 7)).block, (ad.add (k * 7)).off + 4, none⟩) hla).trans y4
          have x5 := (HBX2.out.cell (p := ⟨(ad.add (k * 7)).block, (ad.add (k * 7)).off + 5, none⟩) hla).trans y5
          have x6 := (HBX2.out.cell (p := ⟨(ad.add (k * 7)).block, (ad.add (k * 7)).off + 6, none⟩) hla).trans y6
          have hft := HFIT.out _ (List.getElem_mem hopl)
          have hdr : allB (fs.drop k) = encO fs[k] ++ allB (fs.drop (k + 1)) := by rw [List.drop_eq_getElem_cons hopl]; rfl
          have hlen : (allB (fs.drop k)).length ≤ 3145728000000 := by
            have h := allB_len (fs.drop k) fun f hf => (HFIT.out f (List.mem_of_mem_drop hf)).2
            have := HFSL.out
            rw [List.length_drop] at h
            omega
          have HBA := Aside0.mk (back_is fs[k] B1 d1 B2 d2 wz wr gr Ak ck (allB (fs.drop k), 0) j1 j2 k1 k2 HBX2.out HGR.out HRD.out (allB_ok _ fun f hf => (HFIT.out f (List.mem_of_mem_drop hf)).1.bs) (fun ad e => Nat.lt_trans (HAR.out ad e) (blk_lt HRD.out.blk)) (by dsimp only; omega) (by have := hft.2; omega))
          rw [hdr, bOp_yes _ _ hft.1] at HBA
          dsimp only at HBA
          generalize fs[k] = f at *
          obtain ⟨fk, fn, fw, ff, fb, fl, fm⟩ := f
          dsimp only at x0 x1 x2 x3 x4 x5 x6 HBA
          obtain ⟨N1, hN1⟩ : ∃ N, fb.length = N := ⟨_, rfl⟩
          obtain ⟨N2, hN2⟩ : ∃ N, fl.length = N := ⟨_, rfl⟩
          rw [hN1] at x4
          rw [hN2] at x5
          rw [hN1, hN2] at HBA
          clear y0 y1 y2 y3 y4 y5 y6 j1 j2 k1 k2 hla hft hopl hN1 hN2 hdr hlen
          go_wp2_with (go_at_call 62; refine HBA.out.mono ?_; rintro e w7 ⟨rfl, ⟨A7, c7, hr7, hb7⟩, hk7, hB7⟩; have HR7 := Aside0.mk hr7; have HA7 := Aside0.mk (show ∀ ad, A7 = some ad → ad.block < gr from fun ad e => by (obtain ⟨a, e1, e2⟩ := hb7 ad e; rw [e2]; exact HAR.out a e1)); have HB7 := Aside0.mk (HBX.out.trans (hB7 gr (Nat.le_refl _))); clear hr7 hb7 hk7 hB7)
          go_roundw
          case rel => exact ⟨k + 1, A7, c7, by go_num, by omega, HR7, HA7, HB7⟩
          case measure => simp [intOf]; omega
        · obtain rfl : k = i := by omega
          have hd : allB (fs.drop k) = [] := by rw [List.drop_of_length_le (by have := HFSL.out; omega)]; rfl
          rw [hd] at HRD
          have HLF := Aside0.mk (rLeft_is wr gr Ak ck [] 0 HRD.out)
          have HDN := Aside0.mk (rDone_any wr gr Ak ck ([], 0) HRD.out)
          rw [show rLeftF ([], 0) = 0 by unfold rLeftF; simp] at HDN
          have HBZ := Aside0.mk (show Below w.heap.size w wr from HBL.out.trans (HBX2.out.mono HBL.out.size))
          have HR6W := Aside0.mk (show Kd.C (Kd.int .u8) wr A6 b.length b from Kd.C_below HR6.out (HB4.out.trans (HBX.out.mono HG.out.1)))
          obtain ⟨wy, hwy⟩ : ∃ wy, wy = wr := ⟨_, rfl⟩
          subst hwy
          clear hd HRD HAR HBW HBL HBO HGR HB4 HB3 HBX HG hlk HSZ HR6
          by_cases hc0 : cut < 0
          · go_wp2_with (first
              | (go_at_call 43; refine HLF.out.mono ?_; rintro e w5 ⟨rfl, rfl⟩)
              | (go_at_call 41; refine HDN.out.mono ?_; rintro e w5 ⟨rfl, rfl⟩)
              | (go_at_call 49; refine (bulkheadlaw02_works.calls true _ rfl).mono ?_; rintro e w6 ⟨rfl, hb6⟩; have HB6 := Aside0.mk (HBZ.out.trans (hb6.mono HBZ.out.size)); clear hb6))
            go_ret
            exact ⟨rfl, HB6.out⟩
          · by_cases hc1 : (nb : Int) ≤ cut
            · go_wp2_with (first
                | (go_at_call 43; refine HLF.out.mono ?_; rintro e w5 ⟨rfl, rfl⟩)
                | (go_at_call 41; refine HDN.out.mono ?_; rintro e w5 ⟨rfl, rfl⟩)
                | (go_at_call 49; refine (bulkheadlaw02_works.calls true _ rfl).mono ?_; rintro e w6 ⟨rfl, hb6⟩; have HB6 := Aside0.mk (HBZ.out.trans (hb6.mono HBZ.out.size)); clear hb6))
              go_ret
              exact ⟨rfl, HB6.out⟩
            · obtain ⟨m, rfl⟩ : ∃ m : Nat, cut = (m : Nat) := ⟨cut.toNat, by omega⟩
              have hm : m < nb := by omega
              have hmb : m ≤ b.length := by have := HNB.out; omega
              obtain ⟨a6, rfl, -⟩ := (Kd.reads_of_C (d := (0 : Int)) HR6W.out).2.2 (by have := HNB.out; omega)
              have HNR2 := Aside0.mk (newReaderF_is wy (some a6) c6 (b.take m) (Kd.C_take HR6W.out hmb) (by rw [List.length_take]; have := HC6.out; have := HNB.out; omega) (by rw [List.length_take]; have := HAL.out; have := HNB.out; omega))
              have hlt2 : (b.take m).length = m := by rw [List.length_take]; omega
              rw [hlt2] at HNR2
              have HC6' := HC6.out
              have HBT := Aside0.mk (show BytesOk (b.take m) ∧ (b.take m).length ≤ 3145728000000 from ⟨fun x hx => by have h := allB_ok fs fun f hf => (HFIT.out f hf).1.bs; rw [HB.out] at h; exact h x (List.mem_of_mem_take hx), by have := HAL.out; omega⟩)
              have HEND := Aside0.mk (show (bAll fs (b.take m, 0)).2 = 20 from by have h := bAll_short fs (fun f hf => (HFIT.out f hf).1) m (by rw [HB.out]; have := HNB.out; omega); rw [HB.out] at h; exact h)
              clear hlt2 hmb HR6W HNB hc0 hc1
              go_wp2_with (first
                | (go_at_call 43; refine HLF.out.mono ?_; rintro e w5 ⟨rfl, rfl⟩)
                | (go_at_call 41; refine HDN.out.mono ?_; rintro e w5 ⟨rfl, rfl⟩)
                | (go_at_call 39; refine HNR2.out.mono ?_; rintro e w9 ⟨gs, As, cs, rfl, hg1, hrd, hb9, har, hg2⟩; have HRD := Aside0.mk hrd; have HB9 := Aside0.mk hb9; have HAR := Aside0.mk har; have HG := Aside0.mk (And.intro hg1 hg2); clear hrd hb9 har hg1 hg2))
              have HGZ := Aside0.mk (show wz.heap.size ≤ gs from Nat.le_trans HBX2.out.size HG.out.1)
              have HBX9 := Aside0.mk (show Below wz.heap.size wz w9 from HBX2.out.trans (HB9.out.mono HBX2.out.size))
              have HBZ9 := Aside0.mk (show Below w.heap.size w w9 from HBZ.out.trans (HB9.out.mono HBZ.out.size))
              have HGW := Aside0.mk (show w.heap.size ≤ gs from Nat.le_trans HBZ.out.size HG.out.1)
              clear HLF HDN HNR2 HC6'
              go_loopw [15] (fun vi wr => ∃ (j : Nat) (Ak : Option Addr) (ck : Nat) (st : List Int × Int), vi = .int .i64 (j : Nat) ∧ j ≤ k ∧ Aside0 (st = bAll (fs.take j) (b.take m, 0)) ∧ Aside0 (BytesOk st.1 ∧ st.1.length ≤ 3145728000000) ∧ Aside0 (RdAt wr gs Ak ck st.1 st.2) ∧ Aside0 (∀ ad, Ak = some ad → ad.block < gs) ∧ Aside0 (Below gs w9 wr)) (fun vi _ => k - (intOf vi).toNat)
              case atStart => exact ⟨0, As, cs, _, rfl, Nat.zero_le _, ⟨rfl⟩, HBT, HRD, HAR, ⟨Below.refl _ _⟩⟩
              case round =>
                clear HRD HAR HBT
                obtain ⟨j, Ak, ck, st, rfl, hj, HST, HBT, HRD, HAR, HBY⟩ := hrel
                have HBX2 := Aside0.mk (show Below wz.heap.size wz wr from HBX9.out.trans (HBY.out.mono HGZ.out))
                by_cases hlk : j < k
                · have hopl : j < fs.length := by have := HFSL.out; omega
                  obtain ⟨ad, B1, d1, B2, d2, e, hla, y0, y1, y2, y3, y4, y5, y6, j1, j2, k1, k2⟩ := HOPS.out j hopl
                  cases e
                  have x0 := (HBX2.out.cell (p := ad.add (j * 7)) hla).trans y0
                  have x1 := (HBX2.out.cell (p := ⟨(ad.add (j * 7)).block, (ad.add (j * 7)).off + 1, none⟩) hla).trans y1
                  have x2 := (HBX2.out.cell (p := ⟨(ad.add (j * 7)).block, (ad.add (j * 7)).off + 2, none⟩) hla).trans y2
                  have x3 := (HBX2.out.cell (p := ⟨(ad.add (j * 7)).block, (ad.add (j * 7)).off + 3, none⟩) hla).trans y3
                  have x4 := (HBX2.out.cell (p := ⟨(ad.add (j * 7)).block, (ad.add (j * 7)).off + 4, none⟩) hla).trans y4
                  have x5 := (HBX2.out.cell (p := ⟨(ad.add (j * 7)).block, (ad.add (j * 7)).off + 5, none⟩) hla).trans y5
                  have x6 := (HBX2.out.cell (p := ⟨(ad.add (j * 7)).block, (ad.add (j * 7)).off + 6, none⟩) hla).trans y6
                  have hft := HFIT.out _ (List.getElem_mem hopl)
                  have HSN := Aside0.mk (show bAll (fs.take (j + 1)) (b.take m, 0) = (bOp st fs[j]).2 by rw [List.take_succ_eq_append_getElem hopl, HST.out]; unfold bAll; rw [List.foldl_append]; rfl)
                  have HBN := Aside0.mk (And.intro (bOp_ok st fs[j] HBT.out.1) (Nat.le_trans (bOp_len st fs[j]) HBT.out.2))
                  have HBA := Aside0.mk (back_is fs[j] B1 d1 B2 d2 wz wr gs Ak ck st j1 j2 k1 k2 HBX2.out HGZ.out HRD.out HBT.out.1 (fun ad e => Nat.lt_trans (HAR.out ad e) (blk_lt HRD.out.blk)) (by have := HBT.out.2; omega) (by have := hft.2; omega))
                  generalize bOp st fs[j] = T9 at *
                  generalize fs[j] = f at *
                  obtain ⟨fk, fn, fw, ff, fb, fl, fm⟩ := f
                  dsimp only at x0 x1 x2 x3 x4 x5 x6 HBA
                  obtain ⟨N1, hN1⟩ : ∃ N, fb.length = N := ⟨_, rfl⟩
                  obtain ⟨N2, hN2⟩ : ∃ N, fl.length = N := ⟨_, rfl⟩
                  rw [hN1] at x4
                  rw [hN2] at x5
                  rw [hN1, hN2] at HBA
                  clear y0 y1 y2 y3 y4 y5 y6 j1 j2 k1 k2 hla hft hopl hN1 hN2
                  go_wp2_with (go_at_call 62; refine HBA.out.mono ?_; rintro e w7 ⟨rfl, ⟨A7, c7, hr7, hb7⟩, hk7, hB7⟩; have HR7 := Aside0.mk hr7; have HA7 := Aside0.mk (show ∀ ad, A7 = some ad → ad.block < gs from fun ad e => by (obtain ⟨a, e1, e2⟩ := hb7 ad e; rw [e2]; exact HAR.out a e1)); have HB7 := Aside0.mk (HBY.out.trans (hB7 gs (Nat.le_refl _))); clear hr7 hb7 hk7 hB7)
                  go_roundw
                  case rel => exact ⟨j + 1, A7, c7, T9.2, by go_num, by omega, ⟨HSN.out.symm⟩, HBN, HR7, HA7, HB7⟩
                  case measure => simp [intOf]; omega
                · obtain rfl : j = k := by omega
                  have hall : st = bAll fs (b.take m, 0) := by rw [HST.out, List.take_of_length_le (by have := HFSL.out; omega)]
                  have HDS := Aside0.mk (rDone_any wr gs Ak ck st HRD.out)
                  rw [show rLeftF st = 20 by unfold rLeftF; rw [hall, HEND.out]; simp] at HDS
                  have HBF := Aside0.mk (show Below w.heap.size w wr from HBZ9.out.trans (HBY.out.mono HGW.out))
                  clear hall
                  go_wp2_with (first
                    | (go_at_call 41; refine HDS.out.mono ?_; rintro e w5 ⟨rfl, rfl⟩)
                    | (go_at_call 49; refine (bulkheadlaw02_works.calls true _ rfl).mono ?_; rintro e w6 ⟨rfl, hb6⟩; have HB6 := Aside0.mk (HBF.out.trans (hb6.mono HBF.out.size)); clear hb6))
                  go_ret
                  exact ⟨rfl, HB6.out⟩
end Go.Proofs.Ytceeoifbimlkdaa.B
