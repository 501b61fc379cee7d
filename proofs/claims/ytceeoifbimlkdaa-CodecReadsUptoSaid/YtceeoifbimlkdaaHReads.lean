/- Proved: the law CodecReads: every call on a Reader of any bytes, in every order. Conditions: bounds of the lengths; what lies there are bytes. -/
import Derived.Test.YtceeoifbimlkdaaHUnread
namespace Go.Proofs.Ytceeoifbimlkdaa.B
open Go.RowKit Go.Proofs.YtceeoifbimlkdaaW.PrintWords Go.Proofs.YtceeoifbimlkdaaW.PrintLast Go.Proofs.YtceeoifbimlkdaaW.PrintMore

/-- The law's Reader and In in a round. -/
structure RsI (W0 W : World) (g : Nat) (A : Option Addr) (q : Nat) (Ab : Option Addr) (cb : Nat) (b : List Int) (s : List Int × Int) : Prop where
  ri : RI W g A q Ab cb b s s
  bel : Below W0.heap.size W0 W
  lo : W0.heap.size ≤ g ∧ W0.heap.size ≤ q
theorem RsI.start {W w1 w2 w3 w4 : World} {A0 : Option Addr} {c0 g9 : Nat} {b : List Int} {gr c1 : Nat} {Ar : Option Addr} (hr0 : Kd.C (Kd.int .u8) W A0 b.length b) (hc0 : b.length ≤ c0) (b1 : Below W.heap.size W w1) (h9 : W.heap.size ≤ g9 ∧ g9 < w1.heap.size)
    (g1 : w1.heap.size ≤ gr) (h1 : RdAt w2 gr Ar c1 b 0) (b2 : Below w1.heap.size w1 w2) (a1 : ∀ ad, Ar = some ad → w1.heap.size ≤ ad.block ∧ ad.block < gr) (hg : w2.grownBy w3 (some g9))
    (e4 : w3.alloc (.cells #[.slice A0 b.length c0, .int .i64 0, .int .i64 0] 64) = w4) : RsI W w4 gr Ar w3.heap.size A0 c0 b (b, 0) := by
  have z1 := blk_lt h1.blk
  have y1 := b1.size
  have y2 := b2.size
  have y3 := hg.size
  have b4 : Below w3.heap.size w3 w4 := by rw [← e4]; exact (Below.refl _ _).alloc (Nat.le_refl _) _
  have b3 : Below W.heap.size W w3 := (b1.trans (b2.mono y1)).trans ⟨hg.os, hg.tape, hg.output, hg.size, fun k hk => hg.block k (by omega) fun e => by have e9 := Option.some.inj e; omega⟩
  have b04 : Below W.heap.size W w4 := b3.trans (b4.mono (by omega))
  have hlt : 0 < b.length → ∀ ad, A0 = some ad → ad.block < W.heap.size := fun hb ad e => c_lt hr0 hb ad e
  have z4 : w4.heap.size = w3.heap.size + 1 := by rw [← e4]; simp
  have i4 : w4.heap[w3.heap.size]? = some (.cells #[.slice A0 b.length c0, .int .i64 0, .int .i64 0] 64 (0, 0)) := by rw [← e4]; exact heap_alloc_new _ _
  have kk : ∀ k, w1.heap.size ≤ k → k < w2.heap.size → w4.heap[k]? = w2.heap[k]? := fun k h2 h3 => (b4.block k (by omega)).trans (hg.block k h3 fun e => by have e9 := Option.some.inj e; omega)
  refine ⟨⟨⟨Ar, c1, h1.lowF ?_, BlkOf.refl _⟩, ⟨0, ⟨Nat.zero_le _, rfl, i4, hc0, Kd.C_below hr0 b04, fun hb ad e => by have := hlt hb ad e; omega⟩⟩, by omega, fun ad e => by have := a1 ad e; omega, fun hb ad e => by have := hlt hb ad e; omega⟩, b04, by omega⟩
  rintro k (rfl | ⟨ad, e, rfl⟩)
  · exact kk _ g1 z1
  · have := a1 ad e
    exact kk _ this.1 (by omega)
section
variable {W0 W w' : World} {g : Nat} {A : Option Addr} {q : Nat} {Ab : Option Addr} {cb : Nat} {b : List Int} {s s' : List Int × Int} {e : Ending}
theorem RsI.read (h : RsI W0 W g A q Ab cb b s) (hr : RI w' g A q Ab cb b s' s') (hk : RK W w' g q) : RsI W0 w' g A q Ab cb b s' := ⟨hr, h.bel.trans (hk.below h.lo.1 h.lo.2 h.bel.size), h.lo⟩
theorem RsI.below (h : RsI W0 W g A q Ab cb b s) (hb : Below W.heap.size W w') : RsI W0 w' g A q Ab cb b s := ⟨h.ri.below hb, h.bel.trans (hb.mono h.bel.size), h.lo⟩
end
set_option maxHeartbeats 16000000 in
set_option maxRecDepth 100000 in
theorem codecReads_is (A0 : Option Addr) (c0 : Nat) (b : List Int) (A1 : Option Addr) (c1 : Nat) (ops : List OpL) (w : World) (hr0 : Kd.C (Kd.int .u8) w A0 b.length b) (hc0 : b.length ≤ c0) (hbk : BytesOk b) (hop : OpsAtC w A1 ops) (hl0 : b.length ≤ 1048576) (hl1 : ops.length ≤ 1048576) :
    Calls Try.prog 9 #[.slice A0 b.length c0, .slice A1 ops.length c1] w fun e w' => e = .returned (.bool true) ∧ Below w.heap.size w w' := by
  have hu58 := Try.underlying58
  have hu64 := Try.underlying64
  have HOP := Aside0.mk hop
  have HR0 := Aside0.mk hr0
  have HC0 := Aside0.mk hc0
  have HBK := Aside0.mk hbk
  have HL0 := Aside0.mk hl0
  have HM := Aside0.mk (marked_is A0 b.length c0 b w hr0 (by omega))
  have HNR := Aside0.mk (fun (g9 c9 : Nat) (w' : World) (hr : Kd.C (Kd.int .u8) w' (some ⟨g9, 0, none⟩) b.length b) (hc : b.length ≤ c9) => newReaderR_is w' (some ⟨g9, 0, none⟩) c9 b hr hc (by omega))
  have HLF := Aside0.mk (fun (g9 c9 B : Nat) (w' : World) (ho : Own .u8 5 w' B ⟨some ⟨g9, 0, none⟩, b.length + 70, c9⟩ (b ++ List.replicate 70 165)) (hb : Below w.heap.size w w') => left_is (.slice (some ⟨g9, 0, none⟩) b.length c9) b B A0 b.length c0 w' ⟨⟨g9, c9, rfl, ho⟩⟩ (Kd.C_below hr0 hb) hc0 (by omega))
  have HUN := Aside0.mk (fun (w' : World) (hb : Below w.heap.size w w') => unread_is A0 c0 b A1 c1 ops w' (Kd.C_below hr0 hb) hc0 hbk (hop.low hb) hl0 hl1)
  obtain ⟨nb, hnb⟩ : ∃ nb, b.length = nb := ⟨_, rfl⟩
  obtain ⟨n, hn⟩ : ∃ n, ops.length = n := ⟨_, rfl⟩
  rw [hnb] at HM HNR HLF HUN hl0
  rw [hn] at hl1 HUN
  rw [hnb, hn]
  have HNB := Aside0.mk hnb
  have HN := Aside0.mk hn
  clear hr0 hc0 hop hbk hnb hn
  go_enter Try.func9, Try.ntmps9
  go_wp2_with (first
    | (go_at_call 23; have HCC := HM.out; (with_reducible refine HCC.mono ?_); rintro e w1 ⟨v9, rfl, hm, hb⟩; obtain ⟨g9, c9, rfl, ho⟩ := hm.row; have hnb := HNB.out; rw [hnb] at ho ⊢; have HO1 := Aside0.mk ho; have HB1 := Aside0.mk hb; have H91 := Aside0.mk (ho.lt g9 rfl); have hrd := take_reads ho; have hroom := ho.room; dsimp only at hroom; rw [hnb] at hrd; have HNR1 := Aside0.mk (HNR.out g9 c9 w1 hrd (by omega)); clear hm hb ho HCC HM hnb hrd hroom HNR)
    | (go_at_call 39; have HCC := HNR1.out; (with_reducible refine HCC.mono ?_); rintro e w2 ⟨gr, Ar, cr, rfl, hg1, hrd, hb2, har, hg2⟩; have HR2 := Aside0.mk hrd; have HB2 := Aside0.mk hb2; have HA2 := Aside0.mk har; have HG2 := Aside0.mk hg1; have HO2 := Aside0.mk (HO1.out.below hb2); have HLF2 := Aside0.mk (HLF.out g9 c9 _ w2 HO2.out (HB1.out.trans (hb2.mono HB1.out.size))); clear hrd hb2 har hg1 hg2 HCC HNR1 HLF)
    | (go_at_call 29; have HCC := HLF2.out; (with_reducible refine HCC.mono ?_); rintro e w3 ⟨rfl, hg⟩; have HS0 := Aside0.mk (fun (w4 : World) e4 => RsI.start (w4 := w4) HR0.out HC0.out HB1.out H91.out HG2.out HR2.out HB2.out HA2.out hg e4); clear hg HCC HLF2 HO2 HO1))
  obtain ⟨w4, e4⟩ : ∃ w4, w3.alloc (.cells #[.slice A0 nb c0, .int .i64 0, .int .i64 0] 64) = w4 := ⟨_, rfl⟩
  rw [e4]
  have HI0 := Aside0.mk (HS0.out w4 (by rw [HNB.out]; exact e4))
  clear HS0 HR2 HB2 HA2 HG2 HB1 H91 e4
  generalize w3.heap.size = q at *
  go_loopw [8] (fun vi wr => ∃ (i : Nat) (s : List Int × Int), vi = .int .i64 (i : Nat) ∧ i ≤ n ∧ Aside0 (RsI w wr gr Ar q A0 c0 b s)) (fun vi _ => n - (intOf vi).toNat)
  case atStart => exact ⟨0, _, rfl, Nat.zero_le _, HI0⟩
  case round =>
    clear HI0
    obtain ⟨i, s, rfl, hi, HU⟩ := hrel
    have hbl : b.length ≤ 4398046511104 := by have := HL0.out; omega
    by_cases hin : i < n
    · have hii : (i : Int) < (n : Int) := by omega
      have hopl : i < ops.length := by have := HN.out; omega
      obtain ⟨ad, B1, d1, B2, d2, e, hla, y0, y1, y2, y3, y4, y5, y6, -, -, -, -⟩ := HOP.out i hopl
      cases e
      have hbe := HU.out.bel
      have x0 := (hbe.cell (p := ad.add (i * 7)) hla).trans y0
      have x1 := (hbe.cell (p := ⟨(ad.add (i * 7)).block, (ad.add (i * 7)).off + 1, none⟩) hla).trans y1
      have x2 := (hbe.cell (p := ⟨(ad.add (i * 7)).block, (ad.add (i * 7)).off + 2, none⟩) hla).trans y2
      have x3 := (hbe.cell (p := ⟨(ad.add (i * 7)).block, (ad.add (i * 7)).off + 3, none⟩) hla).trans y3
      have x4 := (hbe.cell (p := ⟨(ad.add (i * 7)).block, (ad.add (i * 7)).off + 4, none⟩) hla).trans y4
      have x5 := (hbe.cell (p := ⟨(ad.add (i * 7)).block, (ad.add (i * 7)).off + 5, none⟩) hla).trans y5
      have x6 := (hbe.cell (p := ⟨(ad.add (i * 7)).block, (ad.add (i * 7)).off + 6, none⟩) hla).trans y6
      obtain ⟨o, ho⟩ : ∃ o, ops[i] = o := ⟨_, rfl⟩
      rw [ho] at x0 x1 x2 x3 x4 x5 x6
      clear y0 y1 y2 y3 y4 y5 y6 hla hbe ho hopl
      have HRE := Aside0.mk (fun (n1 n2 : Nat) => read_is o B1 n1 d1 B2 n2 d2 wr gr Ar q A0 c0 b s HU.out.ri hbl HBK.out)
      obtain ⟨kind, on, wide, flag, bytes, list, most⟩ := o
      dsimp only at x0 x1 x2 x3 x4 x5 x6 HRE
      generalize (rOp s ⟨kind, on, wide, flag, bytes, list, most⟩).2 = s' at *
      generalize bytes.length = N1 at *
      generalize list.length = N2 at *
      have HRE2 := Aside0.mk (HRE.out N1 N2)
      clear HRE hbl
      go_wp2_with (go_at_call 40; have HCC := HRE2.out; (with_reducible refine HCC.mono ?_); rintro e w7 ⟨rfl, hr, hk⟩; have HU7 := Aside0.mk (HU.out.read hr hk); clear hr hk HCC)
      go_roundw
      case rel => exact ⟨i + 1, s', by go_num, by omega, HU7⟩
      case measure => simp [intOf]; omega
    · have hne : ¬ ((i : Int) < (n : Int)) := by omega
      have HD1 := Aside0.mk (riDone wr gr Ar q A0 c0 b s s HU.out.ri)
      have HD2 := Aside0.mk (iiDone wr gr Ar q A0 c0 b s s HU.out.ri)
      have HD3 := Aside0.mk (fun (w' : World) (h : RI w' gr Ar q A0 c0 b s s) => riLeft w' gr Ar q A0 c0 b s s h)
      have HD4 := Aside0.mk (fun (w' : World) (h : RI w' gr Ar q A0 c0 b s s) => iiLeft w' gr Ar q A0 c0 b s s h (by have := HL0.out; omega))
      generalize rLeftF s = X at *
      obtain ⟨Y, hY⟩ : ∃ Y, s.1.length = Y := ⟨_, rfl⟩
      simp only [hY] at HD3 HD4
      clear hin hbl hY
      go_wp2_with (first
        | (go_at_call 41; have HCC := HD1.out; (with_reducible refine HCC.mono ?_); rintro e w5 ⟨rfl, rfl⟩; clear HCC HD1)
        | (go_at_call 42; have HCC := HD2.out; (with_reducible refine HCC.mono ?_); rintro e w6 ⟨rfl, hb⟩; have HU6 := Aside0.mk (HU.out.below hb); clear hb HCC HD2)
        | (go_at_call 43; have HCC := HD3.out w6 HU6.out.ri; (with_reducible refine HCC.mono ?_); rintro e w7 ⟨rfl, rfl⟩; clear HCC HD3)
        | (go_at_call 44; have HCC := HD4.out w6 HU6.out.ri; (with_reducible refine HCC.mono ?_); rintro e w8 ⟨rfl, hb⟩; have HU8 := Aside0.mk (HU6.out.below hb); clear hb HCC HD4)
        | (go_at_call 45; have HCC := HUN.out w8 HU8.out.bel; (with_reducible refine HCC.mono ?_); rintro e w9 ⟨rfl, hb⟩; have HB9 := Aside0.mk (HU8.out.bel.trans (hb.mono HU8.out.bel.size)); clear hb HCC))
      go_ret
      exact ⟨by first | rfl | (simp; done), HB9.out⟩
end Go.Proofs.Ytceeoifbimlkdaa.B
