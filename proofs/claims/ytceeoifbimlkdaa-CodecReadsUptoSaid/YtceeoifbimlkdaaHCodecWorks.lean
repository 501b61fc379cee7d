/- Proved: the law's own check: a number and a flag are written, and read again. No conditions. -/
import Derived.Test.YtceeoifbimlkdaaHReader
import Derived.Test.YtceeoifbimlkdaaCx1
namespace Go.Proofs.Ytceeoifbimlkdaa.B
open Go.RowKit Go.Proofs.YtceeoifbimlkdaaW.PrintWords Go.Proofs.YtceeoifbimlkdaaW.PrintLast Go.Proofs.YtceeoifbimlkdaaW.PrintMore

def bulkheadlaw02_works.f : Option Bool := some true

theorem RdAt.below {W W' : World} {g : Nat} {A : Option Addr} {c : Nat} {xs : List Int} {f : Int} (h : RdAt W g A c xs f) (hb : Below W.heap.size W W') : RdAt W' g A c xs f :=
  ⟨(hb.block g (blk_lt h.blk)).trans h.blk, h.room, Kd.C_below h.row hb, h.off⟩
theorem lit_C (W : World) (l : List Int) (g : Nat) (h : W.heap[g]? = some (.cells (l.map (fun x => Value.int .u8 x)).toArray 5 (0, 0))) (hl : l.length ≤ 100) : Kd.C (Kd.int .u8) W (some ⟨g, 0, none⟩) l.length l := by
  have hr : Kd.R (Kd.int .u8) 5 W 0 (fun _ => True) (.slice (some ⟨g, 0, none⟩) l.length l.length) l := by
    refine Kd.R_of_own (h1 := fun _ => rfl) ⟨by simp [encs], .inr ⟨g, l.length, _, rfl, Nat.zero_le _, h, Nat.le_refl _, by unfold maxLen; omega, by simp, ?_⟩⟩ (fun _ _ => trivial)
    simp only [encs, Nat.mul_one]
    rw [List.take_of_length_le (by simp)]
  exact (Kd.R_reads' hr).2.2

set_option maxHeartbeats 8000000 in
set_option maxRecDepth 100000 in
theorem bulkheadlaw02_works.calls (r : Bool) (w : World) (h : bulkheadlaw02_works.f = some r) :
    Calls Try.prog 49 #[] w fun e w' => e = .returned (.bool r) ∧ Below w.heap.size w w' := by
  obtain rfl := Option.some.inj h
  clear h
  have b1 : codec_big.f 10 258 2 = some [1, 2] := by decide +kernel
  have b2 : codec_big.f 10 1 1 = some [1] := by decide +kernel
  have B1 := Aside0.mk b1
  have B2 := Aside0.mk b2
  have b3 : bulkheadlaw02_same.f 10 [1, 2, 1] [1, 2, 1] = some true := by decide +kernel
  have B3 := Aside0.mk b3
  have HW := Aside0.mk (show BytesOk [1, 2, 1] by intro x hx; simp at hx; omega)
  clear b3
  clear b1 b2
  go_enter Try.func49, Try.ntmps49
  go_wp2_with (first
    | (go_at_call 35; refine (newWriter_is w).mono ?_; rintro e w1 ⟨rfl, hw1, hb1⟩; have HW1 := Aside0.mk hw1; have HB1 := Aside0.mk hb1; clear hw1 hb1)
    | (go_at_call 73; refine (wU16_is 258 (by omega) (by omega) w1 w.heap.size w.heap.size (.slice none 0 0) [] [1, 2] 10 HW1.out HB1.out.size (by simp) B1.out).mono ?_; rintro e w2 ⟨⟨vr2, rfl⟩, v2, hw2, hk2⟩; have HW2 := Aside0.mk hw2; have HB2 := Aside0.mk (HB1.out.trans (hk2.below HW1.out HB1.out.size)); clear hw2 hk2)
    | (go_at_call 79; refine (wBool_is true w2 w.heap.size w.heap.size v2 ([] ++ [1, 2]) [1] 10 HW2.out HB2.out.size (by simp) B2.out).mono ?_; rintro e w3 ⟨⟨vr3, rfl⟩, v3, hw3, hk3⟩; have HW3 := Aside0.mk hw3; have HB3 := Aside0.mk (HB2.out.trans (hk3.below HW2.out HB2.out.size)); clear hw3 hk3)
    | (go_at_call 59; refine (wDone_is w3 w.heap.size w.heap.size v3 [1, 2, 1] HW3.out (by simp)).mono ?_; rintro e w4 ⟨v4, rfl, hR, hb4⟩; obtain ⟨A4, c4, rfl⟩ := Kd.R_slice hR; have HR4 := Aside0.mk (Kd.R_reads' hR).2.2; have HC4 := Aside0.mk (Kd.R_reads' hR).2.1; have HB4 := Aside0.mk (HB3.out.trans (hb4.mono HB3.out.size)); clear hR hb4)
    | (go_at_call 39; refine (newReader_is w4 A4 c4 [1, 2, 1] HR4.out HC4.out (by simp)).mono ?_; rintro e w5 ⟨g, A5, c5, rfl, hg, hr5, hb5⟩; have HR5 := Aside0.mk hr5; have HGG := Aside0.mk (Nat.le_trans HB4.out.size hg); have HB5 := Aside0.mk (HB4.out.trans (hb5.mono HB4.out.size)); have HR45 := Aside0.mk (Kd.C_below HR4.out hb5); clear hr5 hg hb5)
    | (go_at_call 28; refine (bulkheadlaw02_same.calls 10 A4 c4 [1, 2, 1] (some ⟨w5.heap.size, 0, none⟩) 3 [1, 2, 1] true _ (Kd.C_alloc HR45.out _) HC4.out (lit_C _ [1, 2, 1] w5.heap.size (heap_alloc_new _ _) (by simp)) (by simp) B3.out).mono ?_; rintro e w6 ⟨rfl, hd⟩; have hb6 := Aside0.mk (((Below.refl w5.heap.size w5).alloc (Nat.le_refl _) (.cells #[.int .u8 1, .int .u8 2, .int .u8 1] 5)).trans ((Drawn0.below hd).mono (by simp))); have HB6 := Aside0.mk (HB5.out.trans (hb6.out.mono HB5.out.size)); have HR6 := Aside0.mk (RdAt.below HR5.out hb6.out); clear hd)
    | (go_at_call 51; refine (rU16_is w6 g A5 c5 [1, 2, 1] HR6.out (by simp) HW.out).mono ?_; rintro e w7 ⟨rfl, ⟨A7, hr7⟩, -, hb7⟩; have HR7 := Aside0.mk hr7; have HB7 := Aside0.mk (HB6.out.trans (hb7 w.heap.size HGG.out)); clear hr7 hb7)
    | (go_at_call 54; refine (rBool_is w7 g A7 (c5 - 2) 1 [] HR7.out (by omega) (by intro x hx; cases hx)).mono ?_; rintro e w8 ⟨rfl, ⟨A8, hr8⟩, -, hb8⟩; have HR8 := Aside0.mk hr8; have HB8 := Aside0.mk (HB7.out.trans (hb8 w.heap.size HGG.out)); clear hr8 hb8)
    | (go_at_call 43; refine (rLeft_is w8 g A8 _ [] 0 HR8.out).mono ?_; rintro e w9 ⟨rfl, rfl⟩)
    | (go_at_call 41; refine (rDone_is w8 g A8 _ [] HR8.out).mono ?_; rintro e w9 ⟨rfl, rfl⟩))
  go_ret
  exact ⟨rfl, HB8.out⟩
end Go.Proofs.Ytceeoifbimlkdaa.B
