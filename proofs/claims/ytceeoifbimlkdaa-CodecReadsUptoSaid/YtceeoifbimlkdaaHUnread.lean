/- Proved: the contract of the codec law's unread: the script once more on two Readers, their answers kept on a shelf. Conditions: bounds of the lengths; what lies there are bytes. -/
import Derived.Test.YtceeoifbimlkdaaHRead
import Derived.Test.YtceeoifbimlkdaaHStandsR
import Derived.Test.YtceeoifbimlkdaaHOpenOps
namespace Go.Proofs.Ytceeoifbimlkdaa.B
open Go.RowKit Go.Proofs.YtceeoifbimlkdaaW.PrintWords Go.Proofs.YtceeoifbimlkdaaW.PrintLast Go.Proofs.YtceeoifbimlkdaaW.PrintMore

theorem OpsAtC.low {w W' : World} {A : Option Addr} {ops : List OpL} (h : OpsAtC w A ops) (hb : Below w.heap.size w W') : OpsAtC W' A ops := fun i hi => by
  obtain ⟨ad, A1, c1, A2, c2, e, hla, y0, y1, y2, y3, y4, y5, y6, j1, j2, j3, j4⟩ := h i hi
  exact ⟨ad, A1, c1, A2, c2, e, Nat.lt_of_lt_of_le hla hb.size, (hb.cell (p := ad.add (i * 7)) hla).trans y0, (hb.cell (p := ⟨(ad.add (i * 7)).block, (ad.add (i * 7)).off + 1, none⟩) hla).trans y1, (hb.cell (p := ⟨(ad.add (i * 7)).block, (ad.add (i * 7)).off + 2, none⟩) hla).trans y2, (hb.cell (p := ⟨(ad.add (i * 7)).block, (ad.add (i * 7)).off + 3, none⟩) hla).trans y3, (hb.cell (p := ⟨(ad.add (i * 7)).block, (ad.add (i * 7)).off + 4, none⟩) hla).trans y4, (hb.cell (p := ⟨(ad.add (i * 7)).block, (ad.add (i * 7)).off + 5, none⟩) hla).trans y5, (hb.cell (p := ⟨(ad.add (i * 7)).block, (ad.add (i * 7)).off + 6, none⟩) hla).trans y6, Kd.C_below j1 hb, Kd.C_below j2 hb, j3, j4⟩
theorem c_lt {k : IntKind} {W : World} {A : Option Addr} {n : Nat} {xs : List Int} (h : (Kd.int k).C W A n xs) (hn : 0 < n) (ad : Addr) (e : A = some ad) : ad.block < W.heap.size := by
  obtain ⟨ad2, e2, hx⟩ := Kd.at_int h 0 (by omega) (by have := h.1; omega)
  rw [e] at e2
  cases e2
  have := World.block_lt_of_cell? W _ hx
  rwa [add_blk] at this
set_option maxHeartbeats 4000000 in
theorem newReaderR_is (W : World) (A : Option Addr) (c : Nat) (xs : List Int) (hr : Kd.C (Kd.int .u8) W A xs.length xs) (_hc : xs.length ≤ c) (hl : xs.length < 140737488355328) :
    Calls Try.prog 39 #[.slice A xs.length c] W fun e w' => ∃ g A2 c2, e = .returned (.pointer (some ⟨g, 0, none⟩)) ∧ W.heap.size ≤ g ∧ RdAt w' g A2 c2 xs 0 ∧ Below W.heap.size W w' ∧ (∀ ad, A2 = some ad → W.heap.size ≤ ad.block ∧ ad.block < g) ∧ g < w'.heap.size := by
  have HN := Aside0.mk (bytes_Clone.calls A c xs xs W hr _hc (by unfold bytes_Clone.f; rw [if_pos (by simpa using hl)]))
  have hu106 := Try.underlying106
  clear hr
  go_enter Try.func39, Try.ntmps39
  go_wp2_with (go_at_call 66; refine HN.out.mono ?_; rintro e w1 ⟨v1, rfl, hR, hB⟩; obtain ⟨A2, c2, rfl⟩ := Kd.R_slice hR; have HR := Aside0.mk hR; have HB := Aside0.mk hB; clear hR hB)
  go_ret
  have h := Kd.R_reads' HR.out
  have hlt : ∀ ad, A2 = some ad → W.heap.size ≤ ad.block ∧ ad.block < w1.heap.size := by
    intro ad ha
    subst ha
    obtain ⟨h0, ⟨h1, h2⟩ | ⟨b, cap, cur, e1, e2, e3, e4⟩⟩ := Kd.own_of_R HR.out
    · cases h1
    · cases e1
      exact ⟨e2, blk_lt e3⟩
  exact ⟨w1.heap.size, A2, c2, rfl, HB.out.size, ⟨heap_alloc_new _ _, h.2.1, Kd.C_alloc h.2.2 _, fun ad ha => Nat.ne_of_lt (hlt ad ha).2⟩, HB.out.alloc HB.out.size _, hlt, by simp⟩
theorem iiListed (most : Int) (W : World) (g : Nat) (A : Option Addr) (q : Nat) (Ab : Option Addr) (cb : Nat) (b : List Int) (s t : List Int × Int) (h : RI W g A q Ab cb b s t) (hl : b.length ≤ 4398046511104) (hw : BytesOk b) :
    Calls Try.prog 99 #[.pointer (some ⟨q, 0, none⟩), .int .i64 most] W fun e w' => ∃ l : Sl, e = .returned (.slice l.A l.n l.c) ∧ Own .i64 3 w' W.heap.size l (rList t most).1 ∧ RI w' g A q Ab cb b s (rList t most).2 ∧ RK W w' g q := by
  obtain ⟨a, h1⟩ := h.io
  refine (listed_is most W q Ab cb b a t h1 (fun hb ad e => (h.offB hb ad e).2.2) hl hw).mono fun e w' hp => ?_
  obtain ⟨l, rfl, ho, h3, h4, h5⟩ := hp
  rw [inList_is] at ho h3
  exact ⟨l, rfl, ho, h.stepI h3 h4, RK.ofI h4 h5⟩
theorem Own.kt {k : IntKind} {e base : Nat} {W w' : World} {s : Sl} {xs : List Int} (h : Own k e W base s xs) (hk : KeepT W w') (he : e ≠ 91 ∧ e ≠ 37 ∧ e ≠ 56) : Own k e w' base s xs := h.move fun b hb => hk b (h.lt b hb).2 fun cs ty hc => by
  obtain ⟨c2, hc2⟩ := h.typed b hb
  have := ty_eq hc hc2
  subst this
  exact he
theorem ShOk.keep {W W' : World} {base g H : Nat} (h : ShOk W base g H) (hk : ∀ b, base ≤ b → b < W.heap.size → W'.heap[b]? = W.heap[b]?) : ShOk W' base g H := by
  obtain ⟨B, fb, fh, I, fi, ft, k, h1, h2, h3⟩ := h
  have hf := fun b hb => hk b (k.foot_lt b hb).1 (k.foot_lt b hb).2
  exact ⟨B, fb, fh, I, fi, ft, ⟨k.low, (hf g (.inl rfl)).trans k.blk, k.b.move fun b hb => hf b (.inr (.inl hb)), k.i.move fun b hb => hf b (.inr (.inr hb))⟩, h1, h2, h3⟩
/-- Two Readers and two Ins over the same bytes, and a shelf. -/
structure UR (W0 W : World) (sb gs gr : Nat) (Ar : Option Addr) (x gq : Nat) (Aq : Option Addr) (y : Nat) (Ab : Option Addr) (cb : Nat) (b : List Int) (s1 t1 s2 t2 : List Int × Int) (H : Nat) : Prop where
  r1 : RI W gr Ar x Ab cb b s1 t1
  r2 : RI W gq Aq y Ab cb b s2 t2
  sh : ShOk W sb gs H
  top1 : ∀ k, RFoot gr Ar x Ab b k → k < sb
  top2 : ∀ k, RFoot gq Aq y Ab b k → k < sb
  d1 : ∀ k, RFoot gq Aq y Ab b k → k ≠ gr ∧ k ≠ x
  d2 : ∀ k, RFoot gr Ar x Ab b k → k ≠ gq ∧ k ≠ y
  bel : Below W0.heap.size W0 W
  lo : W0.heap.size ≤ gr ∧ W0.heap.size ≤ x ∧ W0.heap.size ≤ gq ∧ W0.heap.size ≤ y ∧ W0.heap.size ≤ sb
section
variable {W0 W w' : World} {sb gs gr : Nat} {Ar : Option Addr} {x gq : Nat} {Aq : Option Addr} {y : Nat} {Ab : Option Addr} {cb : Nat} {b : List Int} {s1 t1 s2 t2 s' t' : List Int × Int} {H : Nat} {e : Ending}
theorem UR.up (h : UR W0 W sb gs gr Ar x gq Aq y Ab cb b s1 t1 s2 t2 H) : UR W0 W sb gs gr Ar x gq Aq y Ab cb b s1 t1 s2 t2 W.heap.size := ⟨h.r1, h.r2, h.sh.up, h.top1, h.top2, h.d1, h.d2, h.bel, h.lo⟩
theorem UR.sz (h : UR W0 W sb gs gr Ar x gq Aq y Ab cb b s1 t1 s2 t2 H) : sb ≤ W.heap.size := h.sh.low
theorem UR.in1 (h : UR W0 W sb gs gr Ar x gq Aq y Ab cb b s1 t1 s2 t2 H) (hr : RI w' gr Ar x Ab cb b s' t') (hk : RK W w' gr x) : UR W0 w' sb gs gr Ar x gq Aq y Ab cb b s' t' s2 t2 H := by
  have h1 := h.top1 gr (.inl rfl)
  have h2 := h.top1 x (.inr (.inl rfl))
  have h3 := h.sz
  have h4 := h.lo
  exact ⟨hr, h.r2.move hk.size fun k hf => hk.block k (h.r2.foot_lt k hf) (h.d1 k hf).1 (h.d1 k hf).2, h.sh.keep fun k h5 h6 => hk.block k h6 (by omega) (by omega), h.top1, h.top2, h.d1, h.d2, h.bel.trans (hk.below h4.1 h4.2.1 h.bel.size), h.lo⟩
theorem UR.in2 (h : UR W0 W sb gs gr Ar x gq Aq y Ab cb b s1 t1 s2 t2 H) (hr : RI w' gq Aq y Ab cb b s' t') (hk : RK W w' gq y) : UR W0 w' sb gs gr Ar x gq Aq y Ab cb b s1 t1 s' t' H := by
  have h1 := h.top2 gq (.inl rfl)
  have h2 := h.top2 y (.inr (.inl rfl))
  have h3 := h.sz
  have h4 := h.lo
  exact ⟨h.r1.move hk.size fun k hf => hk.block k (h.r1.foot_lt k hf) (h.d2 k hf).1 (h.d2 k hf).2, hr, h.sh.keep fun k h5 h6 => hk.block k h6 (by omega) (by omega), h.top1, h.top2, h.d1, h.d2, h.bel.trans (hk.below h4.2.2.1 h4.2.2.2.1 h.bel.size), h.lo⟩
theorem UR.below (h : UR W0 W sb gs gr Ar x gq Aq y Ab cb b s1 t1 s2 t2 H) (hb : Below W.heap.size W w') : UR W0 w' sb gs gr Ar x gq Aq y Ab cb b s1 t1 s2 t2 H :=
  ⟨h.r1.below hb, h.r2.below hb, h.sh.below hb, h.top1, h.top2, h.d1, h.d2, h.bel.trans (hb.mono h.bel.size), h.lo⟩
theorem UR.kp (h : UR W0 W sb gs gr Ar x gq Aq y Ab cb b s1 t1 s2 t2 H) (hp : KPost W sb gs e w') : UR W0 w' sb gs gr Ar x gq Aq y Ab cb b s1 t1 s2 t2 w'.heap.size :=
  ⟨h.r1.move hp.2.2.1.size fun k hf => hp.2.2.1.block k (h.top1 k hf), h.r2.move hp.2.2.1.size fun k hf => hp.2.2.1.block k (h.top2 k hf), hp.2.1, h.top1, h.top2, h.d1, h.d2, h.bel.trans (hp.2.2.1.mono h.lo.2.2.2.2), h.lo⟩
end
theorem half_none {k : IntKind} {e t : Nat} {W : World} {base : Nat} {bs hs : Nat → Sl} {fb fh : Nat → List Int} : Half k e t W base ⟨none, 0, none, 0, 0, 0, bs, hs⟩ fb fh :=
  ⟨World.ownsRow_nil _ _ _ _, World.ownsRow_nil _ _ _ _, ne_nil _, fun i hi => absurd hi (Nat.not_lt_zero _), fun i hi => absurd hi (Nat.not_lt_zero _), fun i j hi => absurd hi (Nat.not_lt_zero _), fun i j hi => absurd hi (Nat.not_lt_zero _), fun i j hi => absurd hi (Nat.not_lt_zero _)⟩
theorem ShOk.start {w4 w5 : World} (e5 : w4.alloc (.cells #[.slice none 0 0, .slice none 0 0, .slice none 0 0, .slice none 0 0] 91) = w5) : ShOk w5 w4.heap.size w4.heap.size w5.heap.size := by
  have hk : Sh2 w5 w4.heap.size w4.heap.size ⟨none, 0, none, 0, 0, 0, fun _ => ⟨none, 0, 0⟩, fun _ => ⟨none, 0, 0⟩⟩ (fun _ => []) (fun _ => []) ⟨none, 0, none, 0, 0, 0, fun _ => ⟨none, 0, 0⟩, fun _ => ⟨none, 0, 0⟩⟩ (fun _ => []) (fun _ => []) :=
    ⟨Nat.le_refl _, by rw [← e5]; exact heap_alloc_new _ _, half_none, half_none⟩
  exact ⟨_, _, _, _, _, _, hk, ⟨rfl, Nat.zero_le _, fun i hi => absurd hi (Nat.not_lt_zero _)⟩, ⟨rfl, Nat.zero_le _, fun i hi => absurd hi (Nat.not_lt_zero _)⟩, fun b hb => (hk.foot_lt b hb).2⟩
theorem UR.start {W w1 w2 w3 w4 w5 : World} {A0 : Option Addr} {c0 : Nat} {b : List Int} {gr gq c1 c2 : Nat} {Ar Aq : Option Addr} (hr0 : Kd.C (Kd.int .u8) W A0 b.length b) (hc0 : b.length ≤ c0)
    (g1 : W.heap.size ≤ gr) (h1 : RdAt w1 gr Ar c1 b 0) (b1 : Below W.heap.size W w1) (a1 : ∀ ad, Ar = some ad → W.heap.size ≤ ad.block ∧ ad.block < gr)
    (g2 : w1.heap.size ≤ gq) (h2 : RdAt w2 gq Aq c2 b 0) (b2 : Below w1.heap.size w1 w2) (a2 : ∀ ad, Aq = some ad → w1.heap.size ≤ ad.block ∧ ad.block < gq)
    (e3 : w2.alloc (.cells #[.slice A0 b.length c0, .int .i64 0, .int .i64 0] 64) = w3) (e4 : w3.alloc (.cells #[.slice A0 b.length c0, .int .i64 0, .int .i64 0] 64) = w4)
    (e5 : w4.alloc (.cells #[.slice none 0 0, .slice none 0 0, .slice none 0 0, .slice none 0 0] 91) = w5) :
    UR W w5 w4.heap.size w4.heap.size gr Ar w2.heap.size gq Aq w3.heap.size A0 c0 b (b, 0) (b, 0) (b, 0) (b, 0) w5.heap.size := by
  have z1 := blk_lt h1.blk
  have z2 := blk_lt h2.blk
  have z3 : w3.heap.size = w2.heap.size + 1 := by rw [← e3]; simp
  have z4 : w4.heap.size = w3.heap.size + 1 := by rw [← e4]; simp
  have z5 : w5.heap.size = w4.heap.size + 1 := by rw [← e5]; simp
  have y1 := b1.size
  have y2 := b2.size
  have b3 : Below w2.heap.size w2 w3 := by rw [← e3]; exact (Below.refl _ _).alloc (Nat.le_refl _) _
  have b4 : Below w3.heap.size w3 w4 := by rw [← e4]; exact (Below.refl _ _).alloc (Nat.le_refl _) _
  have b5 : Below w4.heap.size w4 w5 := by rw [← e5]; exact (Below.refl _ _).alloc (Nat.le_refl _) _
  have b35 : Below w3.heap.size w3 w5 := b4.trans (b5.mono (by omega))
  have b25 : Below w2.heap.size w2 w5 := b3.trans (b35.mono (by omega))
  have b15 : Below w1.heap.size w1 w5 := b2.trans (b25.mono (by omega))
  have b05 : Below W.heap.size W w5 := b1.trans (b15.mono (by omega))
  have hlt : 0 < b.length → ∀ ad, A0 = some ad → ad.block < W.heap.size := fun hb ad e => c_lt hr0 hb ad e
  have i3 : w5.heap[w2.heap.size]? = some (.cells #[.slice A0 b.length c0, .int .i64 0, .int .i64 0] 64 (0, 0)) := (b35.block _ (by omega)).trans (by rw [← e3]; exact heap_alloc_new _ _)
  have i4 : w5.heap[w3.heap.size]? = some (.cells #[.slice A0 b.length c0, .int .i64 0, .int .i64 0] 64 (0, 0)) := (b5.block _ (by omega)).trans (by rw [← e4]; exact heap_alloc_new _ _)
  refine ⟨⟨⟨Ar, c1, h1.belowF b15, BlkOf.refl _⟩, ⟨0, ⟨Nat.zero_le _, rfl, i3, hc0, Kd.C_below hr0 b05, fun hb ad e => by have := hlt hb ad e; omega⟩⟩, by omega, fun ad e => by have := a1 ad e; omega, fun hb ad e => by have := hlt hb ad e; omega⟩,
    ⟨⟨Aq, c2, h2.belowF b25, BlkOf.refl _⟩, ⟨0, ⟨Nat.zero_le _, rfl, i4, hc0, Kd.C_below hr0 b05, fun hb ad e => by have := hlt hb ad e; omega⟩⟩, by omega, fun ad e => by have := a2 ad e; omega, fun hb ad e => by have := hlt hb ad e; omega⟩,
    ShOk.start e5, ?_, ?_, ?_, ?_, b05, by omega⟩
  · rintro k (rfl | rfl | ⟨ad, e, rfl⟩ | ⟨hb, ad, e, rfl⟩)
    · omega
    · omega
    · have := a1 ad e; omega
    · have := hlt hb ad e; omega
  · rintro k (rfl | rfl | ⟨ad, e, rfl⟩ | ⟨hb, ad, e, rfl⟩)
    · omega
    · omega
    · have := a2 ad e; omega
    · have := hlt hb ad e; omega
  · rintro k (rfl | rfl | ⟨ad, e, rfl⟩ | ⟨hb, ad, e, rfl⟩)
    · omega
    · omega
    · have := a2 ad e; omega
    · have := hlt hb ad e; omega
  · rintro k (rfl | rfl | ⟨ad, e, rfl⟩ | ⟨hb, ad, e, rfl⟩)
    · omega
    · omega
    · have := a1 ad e; omega
    · have := hlt hb ad e; omega
set_option maxHeartbeats 16000000 in
set_option maxRecDepth 100000 in
theorem unread_is (A0 : Option Addr) (c0 : Nat) (b : List Int) (A1 : Option Addr) (c1 : Nat) (ops : List OpL) (w : World) (hr0 : Kd.C (Kd.int .u8) w A0 b.length b) (hc0 : b.length ≤ c0) (hbk : BytesOk b) (hop : OpsAtC w A1 ops) (hl0 : b.length ≤ 1048576) (hl1 : ops.length ≤ 1048576) :
    Calls Try.prog 45 #[.slice A0 b.length c0, .slice A1 ops.length c1] w fun e w' => e = .returned (.bool true) ∧ Below w.heap.size w w' := by
  have hu58 := Try.underlying58
  have hu64 := Try.underlying64
  have HOP := Aside0.mk hop
  have HR0 := Aside0.mk hr0
  have HC0 := Aside0.mk hc0
  have HBK := Aside0.mk hbk
  have HL0 := Aside0.mk hl0
  have HNR := Aside0.mk (fun (w' : World) (hb : Below w.heap.size w w') => newReaderR_is w' A0 c0 b (Kd.C_below hr0 hb) hc0 (by omega))
  obtain ⟨nb, hnb⟩ : ∃ nb, b.length = nb := ⟨_, rfl⟩
  obtain ⟨n, hn⟩ : ∃ n, ops.length = n := ⟨_, rfl⟩
  rw [hnb] at HNR hl0
  rw [hn] at hl1
  rw [hnb, hn]
  have HNB := Aside0.mk hnb
  have HN := Aside0.mk hn
  clear hr0 hc0 hop hbk hnb hn
  go_enter Try.func45, Try.ntmps45
  go_wp2_with (first
    | (go_at_call 39; have HCC := HNR.out w (Below.refl _ _); (with_reducible refine HCC.mono ?_); rintro e w1 ⟨gr, Ar, cr, rfl, hg1, hrd, hb1, har, hg2⟩; have HR1 := Aside0.mk hrd; have HB1 := Aside0.mk hb1; have HA1 := Aside0.mk har; have HG1 := Aside0.mk hg1; clear hrd hb1 har hg1 hg2 HCC)
    | (go_at_call 39; have HCC := HNR.out w1 HB1.out; (with_reducible refine HCC.mono ?_); rintro e w2 ⟨gq, Aq, cq, rfl, hg1, hrd, hb1, har, hg2⟩; have HR2 := Aside0.mk hrd; have HB2 := Aside0.mk hb1; have HA2 := Aside0.mk har; have HG2 := Aside0.mk hg1; clear hrd hb1 har hg1 hg2 HCC))
  -- the walk
  obtain ⟨w3, e3⟩ : ∃ w3, w2.alloc (.cells #[.slice A0 nb c0, .int .i64 0, .int .i64 0] 64) = w3 := ⟨_, rfl⟩
  obtain ⟨w4, e4⟩ : ∃ w4, w3.alloc (.cells #[.slice A0 nb c0, .int .i64 0, .int .i64 0] 64) = w4 := ⟨_, rfl⟩
  obtain ⟨w5, e5⟩ : ∃ w5, w4.alloc (.cells #[.slice none 0 0, .slice none 0 0, .slice none 0 0, .slice none 0 0] 91) = w5 := ⟨_, rfl⟩
  rw [e3, e4, e5]
  have HU0 := Aside0.mk (show UR w w5 (w2.heap.size + 1 + 1) (w2.heap.size + 1 + 1) gr Ar w2.heap.size gq Aq (w2.heap.size + 1) A0 c0 b (b, 0) (b, 0) (b, 0) (b, 0) w5.heap.size by
    have h := UR.start (b := b) HR0.out HC0.out HG1.out (by exact HR1.out) HB1.out HA1.out HG2.out (by exact HR2.out) HB2.out HA2.out (w3 := w3) (w4 := w4) (w5 := w5) (by rw [HNB.out]; exact e3) (by rw [HNB.out]; exact e4) e5
    have z3 : w3.heap.size = w2.heap.size + 1 := by rw [← e3]; simp
    have z4 : w4.heap.size = w2.heap.size + 1 + 1 := by rw [← e4, ← z3]; simp
    rw [z4, z3] at h
    exact h)
  clear HR1 HR2 HB1 HB2 HA1 HA2 HG1 HG2 HNR e3 e4 e5
  generalize w2.heap.size + 1 + 1 = gs at *
  generalize w2.heap.size + 1 = y at *
  generalize w2.heap.size = x at *
  go_loopw [10] (fun vi wr => ∃ (i : Nat) (s : List Int × Int), vi = .int .i64 (i : Nat) ∧ i ≤ n ∧ Aside0 (UR w wr gs gs gr Ar x gq Aq y A0 c0 b s s s s wr.heap.size)) (fun vi _ => n - (intOf vi).toNat)
  case atStart => exact ⟨0, _, rfl, Nat.zero_le _, HU0⟩
  case round =>
    clear HU0
    obtain ⟨i, s, rfl, hi, HU⟩ := hrel
    by_cases hin : i < n
    · have hii : (i : Int) < (n : Int) := by omega
      have hopl : i < ops.length := by have := HN.out; omega
      obtain ⟨ad, B1, d1, B2, d2, e, hla, y0, y1, y2, y3, y4, y5, y6, -, -, -, -⟩ := HOP.out i hopl
      cases e
      have hbe := HU.out.bel
      have x0 := (hbe.cell (p := ad.add (i * 7)) hla).trans y0
      have x1 := (hbe.cell (p := ⟨(ad.add (i * 7)).block, (ad.add (i * 7)).off + 1, none⟩) hla).trans y1
      have x2 := (hbe.cell (p := ⟨(ad.add (i * 7)).block, (ad.add (i * 7)).off + 2, none⟩) hla).trans y2
      have x3 := (hbe.cell (p := ⟨(ad.add (i * 7)).block, (ad.add (i * 7)).off + 3, none⟩) hla).trans y3
      have x4 := (hbe.cell (p := ⟨(ad.add (i * 7)).block, (ad.add (i * 7)).off + 4, none⟩) hla).trans y4
      have x5 := (hbe.cell (p := ⟨(ad.add (i * 7)).block, (ad.add (i * 7)).off + 5, none⟩) hla).trans y5
      have x6 := (hbe.cell (p := ⟨(ad.add (i * 7)).block, (ad.add (i * 7)).off + 6, none⟩) hla).trans y6
      obtain ⟨o, ho⟩ : ∃ o, ops[i] = o := ⟨_, rfl⟩
      rw [ho] at x0 x1 x2 x3 x4 x5 x6
      clear y0 y1 y2 y3 y4 y5 y6 hla hbe ho hopl
      obtain ⟨kind, on, wide, flag, bytes, list, most⟩ := o
      dsimp only at x0 x1 x2 x3 x4 x5 x6
      obtain ⟨N1, hN1⟩ : ∃ N, bytes.length = N := ⟨_, rfl⟩
      obtain ⟨N2, hN2⟩ : ∃ N, list.length = N := ⟨_, rfl⟩
      rw [hN1] at x4
      rw [hN2] at x5
      clear hN1 hN2
      obtain ⟨W1, hW1⟩ : ∃ W1, wr.alloc (.cells #[.int .i64 kind, .int .i64 on, .int .i64 wide, .bool flag, .slice B1 N1 d1, .slice B2 N2 d2, .int .i64 most] 58) = W1 := ⟨_, rfl⟩
      have hB1 : Below wr.heap.size wr W1 := by rw [← hW1]; exact (Below.refl _ _).alloc (Nat.le_refl _) _
      have HBX1 := Aside0.mk (show W1.heap[wr.heap.size]? = some (.cells #[.int .i64 kind, .int .i64 on, .int .i64 wide, .bool flag, .slice B1 N1 d1, .slice B2 N2 d2, .int .i64 most] 58 (0, 0)) by rw [← hW1]; exact heap_alloc_new _ _)
      have HU1 := Aside0.mk (HU.out.below hB1)
      have HGX := Aside0.mk (show gr < wr.heap.size ∧ x < wr.heap.size ∧ gq < wr.heap.size ∧ y < wr.heap.size from ⟨HU.out.r1.g_lt, HU.out.r1.q_lt, HU.out.r2.g_lt, HU.out.r2.q_lt⟩)
      have HG1 := Aside0.mk (show gr < W1.heap.size ∧ x < W1.heap.size ∧ gq < W1.heap.size ∧ y < W1.heap.size from ⟨HU1.out.r1.g_lt, HU1.out.r1.q_lt, HU1.out.r2.g_lt, HU1.out.r2.q_lt⟩)
      have hbl : b.length ≤ 4398046511104 := by have := HL0.out; omega
      have hok : BytesOk s.1 ∧ s.1.length ≤ 4398046511104 := by
        obtain ⟨a, h1⟩ := HU.out.r1.io
        exact ⟨h1.ok HBK.out, by rw [h1.rest, List.length_drop]; omega⟩
      by_cases k6 : kind = 6
      · subst k6
        have HCA := Aside0.mk (fun (w' : World) (h : RI w' gr Ar x A0 c0 b s s) => iiBytes w' gr Ar x A0 c0 b s s on h hbl)
        have HCB := Aside0.mk (fun (w' : World) (h : RI w' gq Aq y A0 c0 b s s) => iiBytes w' gq Aq y A0 c0 b s s on h hbl)
        have HCC1 := Aside0.mk (fun (w' : World) (h : RI w' gr Ar x A0 c0 b s (rTake s on).2) => riBytes w' gr Ar x A0 c0 b s (rTake s on).2 on h (by have := hok.2; omega))
        have HCC2 := Aside0.mk (fun (w' : World) (h : RI w' gq Aq y A0 c0 b s (rTake s on).2) => riBytes w' gq Aq y A0 c0 b s (rTake s on).2 on h (by have := hok.2; omega))
        have HXL := Aside0.mk (show (rTake s on).1.length ≤ 4398046511104 from Nat.le_trans (rTake_len s on).2 hok.2)
        obtain ⟨sf, hsf⟩ : ∃ sf, (rTake s on).2 = sf := ⟨_, rfl⟩
        simp only [hsf] at HCA HCB HCC1 HCC2
        generalize (rTake s on).1 = xs at *
        have HKP := Aside0.mk (fun (w' : World) (H b0 : Nat) (hs : ShOk w' gs gs H) (hH : gs ≤ H) (l want : Sl) (hl : Own .u8 5 w' H l xs) (hw : Own .u8 5 w' b0 want xs) => keepR_is w' gs gs H hs hH l xs hl.toC want.A want.n want.c hw.toC.reads HXL.out)
        subst hW1
        clear hsf hok hbl hB1
        go_wp2_with (first
          | (go_at_call 95; have HCC := HCA.out _ HU1.out.r1; (with_reducible refine HCC.mono ?_); rintro e v2 ⟨l0, rfl, ho, hr, hk⟩; have HU2 := Aside0.mk (HU1.out.in1 hr hk); have HO2 := Aside0.mk ho; have bx := (hk.block wr.heap.size (blk_lt HBX1.out) (Nat.ne_of_gt HGX.out.1) (Nat.ne_of_gt HGX.out.2.1)).trans HBX1.out; have HBX2 := Aside0.mk bx; have yy : v2.cell? ⟨wr.heap.size, 1, none⟩ = some (.int .i64 on) := (blk_cell bx 1).trans rfl; clear hr hk ho HCC HCA bx)
          | (go_at_call 95; have HCC := HCB.out _ HU2.out.r2; (with_reducible refine HCC.mono ?_); rintro e v3 ⟨l00, rfl, ho, hr, hk⟩; have HU3 := Aside0.mk (HU2.out.in2 hr hk); have HO3 := Aside0.mk (HO2.out.rk hk HG1.out.2.2.1 HG1.out.2.2.2); have bx := (hk.block wr.heap.size (blk_lt HBX2.out) (Nat.ne_of_gt HGX.out.2.2.1) (Nat.ne_of_gt HGX.out.2.2.2)).trans HBX2.out; have HBX3 := Aside0.mk bx; clear yy; have yy : v3.cell? ⟨wr.heap.size, 1, none⟩ = some (.int .i64 on) := (blk_cell bx 1).trans rfl; clear hr hk ho HCC HCB bx)
          | (go_at_call 55; have HCC := HCC1.out _ HU3.out.r1; (with_reducible refine HCC.mono ?_); rintro e v4 ⟨l1, rfl, ho, hr, hk⟩; have HU4 := Aside0.mk (HU3.out.up.in1 hr hk); have HL4 := Aside0.mk ho; have HO4 := Aside0.mk (HO3.out.rk hk HG1.out.1 HG1.out.2.1); have bx := (hk.block wr.heap.size (blk_lt HBX3.out) (Nat.ne_of_gt HGX.out.1) (Nat.ne_of_gt HGX.out.2.1)).trans HBX3.out; have HBX4 := Aside0.mk bx; clear yy hr hk ho HCC HCC1 bx)
          | (go_at_call 69; have HCC := HKP.out v4 v3.heap.size _ HU4.out.sh HU3.out.sz l1 l0 HL4.out HO4.out; (with_reducible refine HCC.mono ?_); rintro e v5 hp; have he := hp.1; subst he; have HU5 := Aside0.mk (HU4.out.kp hp); have HO5 := Aside0.mk (HO4.out.kt hp.2.2.2 (by decide)); have bx := (hp.2.2.2 wr.heap.size (blk_lt HBX4.out) (fun cs ty hc => (by have h9 := ty_eq hc HBX4.out; subst h9; decide))).trans HBX4.out; have HBX5 := Aside0.mk bx; have yy : v5.cell? ⟨wr.heap.size, 1, none⟩ = some (.int .i64 on) := (blk_cell bx 1).trans rfl; clear hp HCC bx HL4)
          | (go_at_call 55; have HCC := HCC2.out _ HU5.out.r2; (with_reducible refine HCC.mono ?_); rintro e v6 ⟨l2, rfl, ho, hr, hk⟩; have HU6 := Aside0.mk (HU5.out.up.in2 hr hk); have HL6 := Aside0.mk ho; have HO6 := Aside0.mk (HO5.out.rk hk HG1.out.2.2.1 HG1.out.2.2.2); clear yy hr hk ho HCC HCC2)
          | (go_at_call 69; have HCC := HKP.out v6 v5.heap.size _ HU6.out.sh HU5.out.sz l2 l0 HL6.out HO6.out; (with_reducible refine HCC.mono ?_); rintro e v7 hp; have he := hp.1; subst he; have HU7 := Aside0.mk (HU6.out.kp hp); clear hp HCC))
        go_roundw
        case rel => exact ⟨i + 1, sf, by go_num, by omega, HU7⟩
        case measure => simp [intOf]; omega
      by_cases k7 : kind = 7
      · subst k7
        have HCA := Aside0.mk (fun (w' : World) (h : RI w' gr Ar x A0 c0 b s s) => iiListed most w' gr Ar x A0 c0 b s s h hbl HBK.out)
        have HCB := Aside0.mk (fun (w' : World) (h : RI w' gq Aq y A0 c0 b s s) => iiListed most w' gq Aq y A0 c0 b s s h hbl HBK.out)
        have HCC1 := Aside0.mk (fun (w' : World) (h : RI w' gr Ar x A0 c0 b s (rList s most).2) => riListU1 w' gr Ar x A0 c0 b s (rList s most).2 most h hok.1 (by have := hok.2; omega))
        have HCC2 := Aside0.mk (fun (w' : World) (h : RI w' gq Aq y A0 c0 b s (rList s most).2) => riListU2 w' gq Aq y A0 c0 b s (rList s most).2 most h hok.1 (by have := hok.2; omega))
        have HXL := Aside0.mk (show (rList s most).1.length ≤ 4398046511104 from Nat.le_trans (rList_most s most hok.1) (by omega))
        obtain ⟨sf, hsf⟩ : ∃ sf, (rList s most).2 = sf := ⟨_, rfl⟩
        simp only [hsf] at HCA HCB HCC1 HCC2
        generalize (rList s most).1 = xs at *
        have HKP := Aside0.mk (fun (w' : World) (H b0 : Nat) (hs : ShOk w' gs gs H) (hH : gs ≤ H) (l want : Sl) (hl : OwnC .i64 3 w' H l xs) (hw : Own .i64 3 w' b0 want xs) => keepIntsR_is w' gs gs H hs hH l xs hl want.A want.n want.c hw.toC.reads HXL.out)
        subst hW1
        clear hsf hok hbl hB1
        go_wp2_with (first
          | (go_at_call 99; have HCC := HCA.out _ HU1.out.r1; (with_reducible refine HCC.mono ?_); rintro e v2 ⟨l0, rfl, ho, hr, hk⟩; have HU2 := Aside0.mk (HU1.out.in1 hr hk); have HO2 := Aside0.mk ho; have bx := (hk.block wr.heap.size (blk_lt HBX1.out) (Nat.ne_of_gt HGX.out.1) (Nat.ne_of_gt HGX.out.2.1)).trans HBX1.out; have HBX2 := Aside0.mk bx; have yy : v2.cell? ⟨wr.heap.size, 6, none⟩ = some (.int .i64 most) := (blk_cell bx 6).trans rfl; clear hr hk ho HCC HCA bx)
          | (go_at_call 99; have HCC := HCB.out _ HU2.out.r2; (with_reducible refine HCC.mono ?_); rintro e v3 ⟨l00, rfl, ho, hr, hk⟩; have HU3 := Aside0.mk (HU2.out.in2 hr hk); have HO3 := Aside0.mk (HO2.out.rk hk HG1.out.2.2.1 HG1.out.2.2.2); have bx := (hk.block wr.heap.size (blk_lt HBX2.out) (Nat.ne_of_gt HGX.out.2.2.1) (Nat.ne_of_gt HGX.out.2.2.2)).trans HBX2.out; have HBX3 := Aside0.mk bx; clear yy; have yy : v3.cell? ⟨wr.heap.size, 6, none⟩ = some (.int .i64 most) := (blk_cell bx 6).trans rfl; clear hr hk ho HCC HCB bx)
          | (go_at_call 56; have HCC := HCC1.out _ HU3.out.r1; (with_reducible refine HCC.mono ?_); rintro e v4 ⟨l1, rfl, ho, hr, hk⟩; have HU4 := Aside0.mk (HU3.out.up.in1 hr hk); have HL4 := Aside0.mk ho; have HO4 := Aside0.mk (HO3.out.rk hk HG1.out.1 HG1.out.2.1); have bx := (hk.block wr.heap.size (blk_lt HBX3.out) (Nat.ne_of_gt HGX.out.1) (Nat.ne_of_gt HGX.out.2.1)).trans HBX3.out; have HBX4 := Aside0.mk bx; clear yy hr hk ho HCC HCC1 bx)
          | (go_at_call 100; have HCC := HKP.out v4 v3.heap.size _ HU4.out.sh HU3.out.sz l1 l0 HL4.out HO4.out; (with_reducible refine HCC.mono ?_); rintro e v5 hp; have he := hp.1; subst he; have HU5 := Aside0.mk (HU4.out.kp hp); have HO5 := Aside0.mk (HO4.out.kt hp.2.2.2 (by decide)); have bx := (hp.2.2.2 wr.heap.size (blk_lt HBX4.out) (fun cs ty hc => (by have h9 := ty_eq hc HBX4.out; subst h9; decide))).trans HBX4.out; have HBX5 := Aside0.mk bx; have yy : v5.cell? ⟨wr.heap.size, 6, none⟩ = some (.int .i64 most) := (blk_cell bx 6).trans rfl; clear hp HCC bx HL4)
          | (go_at_call 56; have HCC := HCC2.out _ HU5.out.r2; (with_reducible refine HCC.mono ?_); rintro e v6 ⟨l2, rfl, ho, hr, hk⟩; have HU6 := Aside0.mk (HU5.out.up.in2 hr hk); have HL6 := Aside0.mk ho; have HO6 := Aside0.mk (HO5.out.rk hk HG1.out.2.2.1 HG1.out.2.2.2); clear yy hr hk ho HCC HCC2)
          | (go_at_call 100; have HCC := HKP.out v6 v5.heap.size _ HU6.out.sh HU5.out.sz l2 l0 HL6.out HO6.out; (with_reducible refine HCC.mono ?_); rintro e v7 hp; have he := hp.1; subst he; have HU7 := Aside0.mk (HU6.out.kp hp); clear hp HCC))
        go_roundw
        case rel => exact ⟨i + 1, sf, by go_num, by omega, HU7⟩
        case measure => simp [intOf]; omega
      have q6 : (kind == 6) = false := by rw [beq_eq_false_iff_ne]; exact k6
      have q7 : (kind == 7) = false := by rw [beq_eq_false_iff_ne]; exact k7
      have HRA := Aside0.mk (fun (w' : World) (h : RI w' gr Ar x A0 c0 b s s) => read_is ⟨kind, on, wide, flag, bytes, list, most⟩ B1 N1 d1 B2 N2 d2 w' gr Ar x A0 c0 b s h hbl HBK.out)
      have HRB := Aside0.mk (fun (w' : World) (h : RI w' gq Aq y A0 c0 b s s) => read_is ⟨kind, on, wide, flag, bytes, list, most⟩ B1 N1 d1 B2 N2 d2 w' gq Aq y A0 c0 b s h hbl HBK.out)
      dsimp only at HRA HRB
      generalize (rOp s ⟨kind, on, wide, flag, bytes, list, most⟩).2 = sf at *
      subst hW1
      clear hok hbl hB1
      go_wp2_with (first
        | (go_at_call 40; have HCC := HRA.out _ HU1.out.r1; (with_reducible refine HCC.mono ?_); rintro e v2 ⟨rfl, hr, hk⟩; have HU2 := Aside0.mk (HU1.out.in1 hr hk); have bx := (hk.block wr.heap.size (blk_lt HBX1.out) (Nat.ne_of_gt HGX.out.1) (Nat.ne_of_gt HGX.out.2.1)).trans HBX1.out; have z0 := (blk_cell bx 0).trans rfl; have z1 := (blk_cell bx 1).trans rfl; have z2 := (blk_cell bx 2).trans rfl; have z3 := (blk_cell bx 3).trans rfl; have z4 := (blk_cell bx 4).trans rfl; have z5 := (blk_cell bx 5).trans rfl; have z6 := (blk_cell bx 6).trans rfl; clear hr hk HCC HRA bx)
        | (go_at_call 40; have HCC := HRB.out _ HU2.out.r2; (with_reducible refine HCC.mono ?_); rintro e v3 ⟨rfl, hr, hk⟩; have HU3 := Aside0.mk (HU2.out.in2 hr hk).up; clear hr hk HCC HRB z0 z1 z2 z3 z4 z5 z6))
      go_roundw
      case rel => exact ⟨i + 1, sf, by go_num, by omega, HU3⟩
      case measure => simp [intOf]; omega
    · have hne : ¬ ((i : Int) < (n : Int)) := by omega
      have HST := Aside0.mk (standsR_is wr gs gs wr.heap.size HU.out.sh)
      clear hin
      go_wp2_with (go_at_call 70; have HCC := HST.out; (with_reducible refine HCC.mono ?_); rintro e w7 ⟨rfl, hb⟩; have HB7 := Aside0.mk (HU.out.bel.trans (hb.mono HU.out.lo.2.2.2.2)); clear hb HCC)
      go_ret
      exact ⟨rfl, HB7.out⟩
end Go.Proofs.Ytceeoifbimlkdaa.B
