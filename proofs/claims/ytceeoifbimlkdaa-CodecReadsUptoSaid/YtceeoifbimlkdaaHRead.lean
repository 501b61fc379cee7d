/- Proved: the contract of the codec law's read: one call on the program's Reader and on the document's, by its kind. Conditions: bounds of the lengths; what lies there are bytes. -/
import Derived.Test.YtceeoifbimlkdaaHListed
import Derived.Test.YtceeoifbimlkdaaHAgainMath
namespace Go.Proofs.Ytceeoifbimlkdaa.B
open Go.RowKit Go.Proofs.YtceeoifbimlkdaaW.PrintWords Go.Proofs.YtceeoifbimlkdaaW.PrintLast Go.Proofs.YtceeoifbimlkdaaW.PrintMore

/-- What read leaves. -/
def ReadPost (W : World) (g : Nat) (A : Option Addr) (q : Nat) (Ab : Option Addr) (cb : Nat) (b : List Int) (s' : List Int × Int) (e : Ending) (w' : World) : Prop := e = .returned (.bool true) ∧ RI w' g A q Ab cb b s' s' ∧ RK W w' g q
theorem Own.rk {k : IntKind} {e base : Nat} {W w' : World} {s : Sl} {xs : List Int} {g q : Nat} (h : Own k e W base s xs) (hr : RK W w' g q) (h1 : g < base) (h2 : q < base) : Own k e w' base s xs := h.move fun b hb => hr.block b (h.lt b hb).2 (by have := (h.lt b hb).1; omega) (by have := (h.lt b hb).1; omega)
theorem OwnC.rk {k : IntKind} {e base : Nat} {W w' : World} {s : Sl} {xs : List Int} {g q : Nat} (h : OwnC k e W base s xs) (hr : RK W w' g q) (h1 : g < base) (h2 : q < base) : OwnC k e w' base s xs := h.move fun b hb => hr.block b (h.lt b hb).2 (by have := (h.lt b hb).1; omega) (by have := (h.lt b hb).1; omega)
theorem RK.more {W w w' : World} {g q : Nat} {row : Option Nat} (h : RK W w g q) (hg : w.grownBy w' row) (hr : ∀ b, row = some b → W.heap.size ≤ b) : RK W w' g q := ⟨hg.os.trans h.os, hg.tape.trans h.tape, hg.output.trans h.out, Nat.le_trans h.size hg.size, fun k hk h1 h2 => (hg.block k (Nat.lt_of_lt_of_le hk h.size) (fun e => by have := hr k e.symm; omega)).trans (h.block k hk h1 h2)⟩
theorem InGrow.keep {W0 wr : World} {q : Nat} {Ab : Option Addr} {cb : Nat} {b : List Int} {st : List Int × Int} {t : Sl} {acc : List Int} (h : InGrow W0 wr q Ab cb b st t acc) : KeepBut W0 wr q none := ⟨h.size, fun k h1 h2 _ => h.block k h1 h2⟩
theorem InGrow.rk {W0 wr : World} {q : Nat} {Ab : Option Addr} {cb : Nat} {b : List Int} {st : List Int × Int} {t : Sl} {acc : List Int} (h : InGrow W0 wr q Ab cb b st t acc) (g : Nat) : RK W0 wr g q := ⟨h.os, h.tape, h.out, h.size, fun k h1 _ h3 => h.block k h1 h3⟩
theorem rList_most (s : List Int × Int) (most : Int) (hs : BytesOk s.1) : (rList s most).1.length ≤ 4294967296 := by
  rw [← inList_is]
  have h1 := inCnt_bd s most hs
  have h2 : (inCnt s most).1 < 4294967296 := by
    have h3 := rNum_bd s 4 hs
    unfold inCnt
    split
    · split
      · dsimp only; omega
      · split
        · dsimp only; omega
        · simpa using h3.2
    · dsimp only; omega
  have key : ∀ (n : Nat) (st : List Int × Int) (acc : List Int), (inGets n st acc).1.length ≤ acc.length + n := by
    intro n
    induction n with
    | zero => intro st acc; unfold inGets; exact Nat.le_refl _
    | succ n ih =>
      intro st acc
      unfold inGets
      split
      · have := ih (rNum st 2).2 (acc ++ [(rNum st 2).1])
        rw [List.length_append, List.length_singleton] at this
        omega
      · dsimp only; omega
  have h4 := key (inCnt s most).1.toNat (inCnt s most).2 []
  unfold inList
  dsimp only
  simp only [List.length_nil] at h4
  split
  · omega
  · simp
set_option maxHeartbeats 16000000 in
set_option maxRecDepth 100000 in
theorem read_is (o : OpL) (A1 : Option Addr) (n1 c1 : Nat) (A2 : Option Addr) (n2 c2 : Nat) (W : World) (g : Nat) (A : Option Addr) (q : Nat) (Ab : Option Addr) (cb : Nat) (b : List Int) (s : List Int × Int) (h : RI W g A q Ab cb b s s) (hl : b.length ≤ 4398046511104) (hw : BytesOk b) :
    Calls Try.prog 40 #[.pointer (some ⟨g, 0, none⟩), .pointer (some ⟨q, 0, none⟩), .agg #[.int .i64 o.kind, .int .i64 o.n, .int .i64 o.wide, .bool o.flag, .slice A1 n1 c1, .slice A2 n2 c2, .int .i64 o.most]] W (ReadPost W g A q Ab cb b (rOp s o).2) := by
  have hu58 := Try.underlying58
  have hu64 := Try.underlying64
  obtain ⟨kind, n, wide, flag, bytes, list, most⟩ := o
  dsimp only
  obtain ⟨hws, hsl⟩ : BytesOk s.1 ∧ s.1.length ≤ 4398046511104 := by
    obtain ⟨a, h1⟩ := h.io
    exact ⟨h1.ok hw, by rw [h1.rest, List.length_drop]; omega⟩
  obtain ⟨W1, hW1⟩ : ∃ W1, W.alloc (.cells #[.int .i64 kind, .int .i64 n, .int .i64 wide, .bool flag, .slice A1 n1 c1, .slice A2 n2 c2, .int .i64 most] 58) = W1 := ⟨_, rfl⟩
  have hB : Below W.heap.size W W1 := by rw [← hW1]; exact (Below.refl _ _).alloc (Nat.le_refl _) _
  have hx : W1.heap[W.heap.size]? = some (.cells #[.int .i64 kind, .int .i64 n, .int .i64 wide, .bool flag, .slice A1 n1 c1, .slice A2 n2 c2, .int .i64 most] 58 (0, 0)) := by rw [← hW1]; exact heap_alloc_new _ _
  have H1 := Aside0.mk (h.below hB)
  have HBX := Aside0.mk (fun (w' : World) (hp : RK W1 w' g q) => (hp.block W.heap.size (blk_lt hx) (Nat.ne_of_gt h.g_lt) (Nat.ne_of_gt h.q_lt)).trans hx)
  have HGQ := Aside0.mk (show g < W1.heap.size ∧ q < W1.heap.size from ⟨(h.below hB).g_lt, (h.below hB).q_lt⟩)
  have HRK := Aside0.mk (fun (w' : World) (hp : RK W1 w' g q) => (show RK W w' g q from (RK.of_below hB).trans hp))
  have HAB := Aside0.mk (fun (w' : World) (hs : W1.heap.size ≤ w'.heap.size) (hb : 0 < b.length) (ad : Addr) (e : Ab = some ad) => Nat.lt_of_lt_of_le ((h.below hB).offB hb ad e).2.2 hs)
  have HL := Aside0.mk hl
  have HW := Aside0.mk hw
  have HSL := Aside0.mk hsl
  have HWS := Aside0.mk hws
  obtain ⟨sf, hsf⟩ : ∃ sf, (rOp s ⟨kind, n, wide, flag, bytes, list, most⟩).2 = sf := ⟨_, rfl⟩
  rw [hsf]
  clear hB hx h hl hw hsl hws
  by_cases k1 : kind = 1
  · subst k1
    have e : (rNum s 1).2 = sf := by rw [← hsf]; unfold rOp; simp
    have HC := Aside0.mk (riU8 W1 g A q Ab cb b s s H1.out HWS.out)
    have HCO := Aside0.mk (fun (w' : World) (h : RI w' g A q Ab cb b (rNum s 1).2 s) => iiU8 w' g A q Ab cb b (rNum s 1).2 s h HL.out HW.out)
    simp only [e] at HC HCO
    generalize (rNum s 1).1 = X at *
    subst hW1
    clear hsf e
    go_enter Try.func40, Try.ntmps40
    go_wp2_with (first
      | (go_at_call 50; have HCC := HC.out; (with_reducible refine HCC.mono ?_); rintro e w1 ⟨rfl, hr, hk⟩; have HR1 := Aside0.mk hr; have HK1 := Aside0.mk hk; clear hr hk HCC HC)
      | (go_at_call 90; have HCC := HCO.out w1 HR1.out; (with_reducible refine HCC.mono ?_); rintro e w2 ⟨rfl, hr, hk⟩; have HR2 := Aside0.mk hr; have HK2 := Aside0.mk (HK1.out.trans hk); clear hr hk HCC))
    go_ret
    exact ⟨by first | rfl | (simp; done), HR2.out, HRK.out _ HK2.out⟩
  by_cases k2 : kind = 2
  · subst k2
    have e : (rNum s 2).2 = sf := by rw [← hsf]; unfold rOp; simp
    have HC := Aside0.mk (riU16 W1 g A q Ab cb b s s H1.out HWS.out)
    have HCO := Aside0.mk (fun (w' : World) (h : RI w' g A q Ab cb b (rNum s 2).2 s) => iiU16 w' g A q Ab cb b (rNum s 2).2 s h HL.out HW.out)
    simp only [e] at HC HCO
    generalize (rNum s 2).1 = X at *
    subst hW1
    clear hsf e
    go_enter Try.func40, Try.ntmps40
    go_wp2_with (first
      | (go_at_call 51; have HCC := HC.out; (with_reducible refine HCC.mono ?_); rintro e w1 ⟨rfl, hr, hk⟩; have HR1 := Aside0.mk hr; have HK1 := Aside0.mk hk; clear hr hk HCC HC)
      | (go_at_call 91; have HCC := HCO.out w1 HR1.out; (with_reducible refine HCC.mono ?_); rintro e w2 ⟨rfl, hr, hk⟩; have HR2 := Aside0.mk hr; have HK2 := Aside0.mk (HK1.out.trans hk); clear hr hk HCC))
    go_ret
    exact ⟨by first | rfl | (simp; done), HR2.out, HRK.out _ HK2.out⟩
  by_cases k3 : kind = 3
  · subst k3
    have e : (rNum s 4).2 = sf := by rw [← hsf]; unfold rOp; simp
    have HC := Aside0.mk (riU32 W1 g A q Ab cb b s s H1.out HWS.out)
    have HCO := Aside0.mk (fun (w' : World) (h : RI w' g A q Ab cb b (rNum s 4).2 s) => iiU32 w' g A q Ab cb b (rNum s 4).2 s h HL.out HW.out)
    simp only [e] at HC HCO
    generalize (rNum s 4).1 = X at *
    subst hW1
    clear hsf e
    go_enter Try.func40, Try.ntmps40
    go_wp2_with (first
      | (go_at_call 52; have HCC := HC.out; (with_reducible refine HCC.mono ?_); rintro e w1 ⟨rfl, hr, hk⟩; have HR1 := Aside0.mk hr; have HK1 := Aside0.mk hk; clear hr hk HCC HC)
      | (go_at_call 92; have HCC := HCO.out w1 HR1.out; (with_reducible refine HCC.mono ?_); rintro e w2 ⟨rfl, hr, hk⟩; have HR2 := Aside0.mk hr; have HK2 := Aside0.mk (HK1.out.trans hk); clear hr hk HCC))
    go_ret
    exact ⟨by first | rfl | (simp; done), HR2.out, HRK.out _ HK2.out⟩
  by_cases k4 : kind = 4
  · subst k4
    have e : (rNum s 8).2 = sf := by rw [← hsf]; unfold rOp; simp
    have HC := Aside0.mk (riI64 W1 g A q Ab cb b s s H1.out HWS.out)
    have HCO := Aside0.mk (fun (w' : World) (h : RI w' g A q Ab cb b (rNum s 8).2 s) => iiI64 w' g A q Ab cb b (rNum s 8).2 s h HL.out HW.out)
    simp only [e] at HC HCO
    generalize (wrap64 (rNum s 8).1) = X at *
    subst hW1
    clear hsf e
    go_enter Try.func40, Try.ntmps40
    go_wp2_with (first
      | (go_at_call 53; have HCC := HC.out; (with_reducible refine HCC.mono ?_); rintro e w1 ⟨rfl, hr, hk⟩; have HR1 := Aside0.mk hr; have HK1 := Aside0.mk hk; clear hr hk HCC HC)
      | (go_at_call 93; have HCC := HCO.out w1 HR1.out; (with_reducible refine HCC.mono ?_); rintro e w2 ⟨rfl, hr, hk⟩; have HR2 := Aside0.mk hr; have HK2 := Aside0.mk (HK1.out.trans hk); clear hr hk HCC))
    go_ret
    exact ⟨by first | rfl | (simp; done), HR2.out, HRK.out _ HK2.out⟩
  by_cases k5 : kind = 5
  · subst k5
    have e : (rBool s).2 = sf := by rw [← hsf]; unfold rOp; simp
    have HC := Aside0.mk (riBool W1 g A q Ab cb b s s H1.out HWS.out)
    have HCO := Aside0.mk (fun (w' : World) (h : RI w' g A q Ab cb b (rBool s).2 s) => iiBool w' g A q Ab cb b (rBool s).2 s h HL.out HW.out)
    simp only [e] at HC HCO
    generalize (rBool s).1 = X at *
    subst hW1
    clear hsf e
    go_enter Try.func40, Try.ntmps40
    go_wp2_with (first
      | (go_at_call 54; have HCC := HC.out; (with_reducible refine HCC.mono ?_); rintro e w1 ⟨rfl, hr, hk⟩; have HR1 := Aside0.mk hr; have HK1 := Aside0.mk hk; clear hr hk HCC HC)
      | (go_at_call 94; have HCC := HCO.out w1 HR1.out; (with_reducible refine HCC.mono ?_); rintro e w2 ⟨rfl, hr, hk⟩; have HR2 := Aside0.mk hr; have HK2 := Aside0.mk (HK1.out.trans hk); clear hr hk HCC))
    go_ret
    exact ⟨by first | rfl | (simp; done), HR2.out, HRK.out _ HK2.out⟩
  by_cases k6 : kind = 6
  · subst k6
    have e : (rTake s n).2 = sf := by rw [← hsf]; unfold rOp; simp
    have HC := Aside0.mk (riBytes W1 g A q Ab cb b s s n H1.out (by have := HSL.out; omega))
    have HCO := Aside0.mk (fun (w' : World) (h : RI w' g A q Ab cb b (rTake s n).2 s) => iiBytes w' g A q Ab cb b (rTake s n).2 s n h HL.out)
    have HXL := Aside0.mk (show (rTake s n).1.length ≤ 4398046511104 from Nat.le_trans (rTake_len s n).2 HSL.out)
    simp only [e] at HC HCO
    generalize (rTake s n).1 = xs at *
    have HSM := Aside0.mk (fun (l l2 : Sl) (w' : World) (b1 b2 : Nat) (h1 : Own .u8 5 w' b1 l xs) (h2 : Own .u8 5 w' b2 l2 xs) => same_yes l.A l.n l.c l2.A l2.n l2.c xs w' h1.toC.reads h1.room h2.toC.reads h2.room (by have := HXL.out; omega))
    have HLT := Aside0.mk (fun (l : Sl) (w' : World) (b1 : Nat) (h1 : Own .u8 5 w' b1 l xs) (hb : b1 ≤ w'.heap.size) => let_is l.A l.n l.c b1 xs w' h1 HXL.out hb)
    subst hW1
    clear hsf e
    go_enter Try.func40, Try.ntmps40
    go_wp2_with (first
      | (go_at_call 55; have HCC := HC.out; (with_reducible refine HCC.mono ?_); rintro e w1 ⟨l, rfl, ho, hr, hk⟩; have HR1 := Aside0.mk hr; have HK1 := Aside0.mk hk; have HO1 := Aside0.mk ho; have y1 : w1.cell? ⟨W.heap.size, 1, none⟩ = some (.int .i64 n) := (blk_cell (HBX.out w1 hk) 1).trans rfl; clear hr hk ho HCC HC)
      | (go_at_call 95; have HCC := HCO.out w1 HR1.out; (with_reducible refine HCC.mono ?_); rintro e w2 ⟨l2, rfl, ho, hr, hk⟩; have HR2 := Aside0.mk hr; have HK2 := Aside0.mk (HK1.out.trans hk); have HO2 := Aside0.mk ho; have HO3 := Aside0.mk (HO1.out.rk hk HGQ.out.1 HGQ.out.2); clear hr hk ho HCC y1 HCO)
      | (go_at_call 28; have HCC := HSM.out l l2 w2 _ _ HO3.out HO2.out; (with_reducible refine HCC.mono ?_); rintro e w3 ⟨rfl, hd⟩; have hb := Drawn0.below hd; have HR3 := Aside0.mk (HR2.out.below hb); have HK3 := Aside0.mk (HK2.out.trans (RK.of_below hb)); have HO4 := Aside0.mk (HO3.out.below hb); clear hd hb HCC HSM)
      | (go_at_call 30; have HCC := HLT.out l w3 _ HO4.out HK3.out.size; (with_reducible refine HCC.mono ?_); rintro e w4 ⟨rfl, hg⟩; have hlo := fun k (hk : (Value.slice l.A l.n l.c).ownBlock = some k) => HO4.out.lt k hk; have HR4 := Aside0.mk (RI.move HR3.out hg.size (fun k hk => hg.block k (HR3.out.foot_lt k hk) (fun e1 => (by have h5 := (hlo k e1.symm).1; have h6 := H1.out.foot_lt k hk; omega)))); have HK4 := Aside0.mk (HK3.out.more hg (fun k hk => (hlo k hk).1)); clear hg hlo HCC HLT))
    go_ret
    exact ⟨rfl, HR4.out, HRK.out _ HK4.out⟩
  by_cases k7 : kind = 7
  · subst k7
    have e : (rList s most).2 = sf := by rw [← hsf]; unfold rOp; simp
    have HC := Aside0.mk (riListR W1 g A q Ab cb b s s most H1.out HWS.out (by have := HSL.out; omega))
    have HCO := Aside0.mk (fun (w' : World) (h : RI w' g A q Ab cb b (rList s most).2 s) => iiCount w' g A q Ab cb b (rList s most).2 s most h HL.out HW.out)
    have hbd := inCnt_bd s most HWS.out
    obtain ⟨m, hm⟩ : ∃ m : Nat, (inCnt s most).1 = (m : Int) := ⟨(inCnt s most).1.toNat, by omega⟩
    have hmb : m ≤ 4398046511104 := by have := HSL.out; omega
    have HE := Aside0.mk (fun acc st (h1 : inGets m (inCnt s most).2 [] = (acc, st)) => (inList_of hm h1).symm.trans (inList_is s most))
    have HXL := Aside0.mk (rList_most s most HWS.out)
    rw [hm] at HCO
    obtain ⟨xs, hxs⟩ : ∃ xs, (rList s most).1 = xs := ⟨_, rfl⟩
    have hT : rList s most = (xs, sf) := by rw [← e, ← hxs]
    rw [hT] at HE
    rw [hxs] at HC HXL
    rw [e] at HC
    simp only [e] at HCO
    generalize (inCnt s most).2 = st0 at *
    have HSM := Aside0.mk (fun (l l2 : Sl) (w' : World) (b1 b2 : Nat) (h1 : OwnC .i64 3 w' b1 l xs) (h2 : OwnC .i64 3 w' b2 l2 xs) => sameInts_yes l.A l.n l.c l2.A l2.n l2.c xs w' h1.reads h1.room h2.reads h2.room (by have := HXL.out; omega))
    subst hW1
    clear hsf e hbd hm hxs hT
    go_enter Try.func40, Try.ntmps40
    go_wp2_with (first
      | (go_at_call 56; have HCC := HC.out; (with_reducible refine HCC.mono ?_); rintro e w1 ⟨l, rfl, ho, hr, hk⟩; have HR1 := Aside0.mk hr; have HK1 := Aside0.mk hk; have HO1 := Aside0.mk ho; have y6 : w1.cell? ⟨W.heap.size, 6, none⟩ = some (.int .i64 most) := (blk_cell (HBX.out w1 hk) 6).trans rfl; clear hr hk ho HCC HC)
      | (go_at_call 97; have HCC := HCO.out w1 HR1.out; (with_reducible refine HCC.mono ?_); rintro e w2 ⟨rfl, hr, hk⟩; have HR2 := Aside0.mk hr; have HK2 := Aside0.mk (HK1.out.trans hk); have HO2 := Aside0.mk (HO1.out.rk hk HGQ.out.1 HGQ.out.2); have HG0 := Aside0.mk (show InGrow w2 w2 q Ab cb b st0 ⟨none, 0, 0⟩ [] from ⟨hr.io, Own.nil, rfl, rfl, rfl, Nat.le_refl _, fun _ _ _ => rfl⟩); have HQ2 := Aside0.mk hr.q_lt; clear hr hk HCC y6 HCO))
    go_loopw [11, 13] (fun v5 v7 wr => ∃ (k : Nat) (tt : Sl) (acc : List Int) (st : List Int × Int), v7 = .int .i64 (k : Nat) ∧ k ≤ m ∧ v5 = .slice tt.A tt.n tt.c ∧ Aside0 (InGrow w2 wr q Ab cb b st tt acc) ∧ Aside0 (inGets (m - k) st acc = inGets m st0 [] ∧ acc.length = k)) (fun _ v7 _ => m - (intOf v7).toNat)
    case atStart => exact ⟨0, ⟨none, 0, 0⟩, [], st0, rfl, Nat.zero_le _, rfl, HG0, ⟨by rw [Nat.sub_zero], rfl⟩⟩
    case round =>
      clear HG0
      obtain ⟨k, tt, acc, st, rfl, hk, rfl, HG, HI⟩ := hrel
      obtain ⟨f6, hf6⟩ : ∃ f, st.2 = f := ⟨_, rfl⟩
      have j1 : wr.cell? ⟨q, 2, none⟩ = some (.int .i64 f6) := by rw [← hf6]; obtain ⟨a, h1⟩ := HG.out.io; exact (blk_cell h1.blk 2).trans rfl
      by_cases h0 : f6 = 0
      · subst h0
        by_cases hlt : k < m
        · have hii : (k : Int) < (m : Int) := by omega
          have HU := Aside0.mk (show Calls Try.prog 91 #[.pointer (some ⟨q, 0, none⟩)] wr (IPost wr q Ab cb b (.int .i64 (rNum st 2).1) (rNum st 2).2) from by
            obtain ⟨a, h1⟩ := HG.out.io
            exact inU16_is wr q Ab cb b a st h1 HL.out HW.out)
          have HS := Aside0.mk (show inGets (m - (k + 1)) (rNum st 2).2 (acc ++ [(rNum st 2).1]) = inGets m st0 [] by
            rw [← HI.out.1, show m - k = (m - (k + 1)) + 1 by omega]
            unfold inGets
            rw [if_pos hf6]
            cases m - (k + 1) <;> rfl)
          generalize (rNum st 2).1 = X at *
          generalize (rNum st 2).2 = st2 at *
          have HLL := Aside0.mk (show (acc.length + 1) * 8 ≤ 140737488355328 by have := HI.out.2; omega)
          clear hf6
          go_wp2_with (first
            | (go_at_call 91; have HCC := HU.out; (with_reducible refine HCC.mono ?_); rintro e w7 hp; have he := hp.1; subst he; have HG7 := Aside0.mk (HG.out.call HQ2.out hp); clear hp HCC HU)
            | ((with_reducible refine gate_builtin (b := .append) (xs := #[.tmp 89, .tmp 92]) rfl ?_); at_builtin; refine print_append_both (w0 := w7) w2.heap.size rfl (.tmp 89) (.tmp 92) 56 3 (.int .i64 0) 8 rfl Try.underlying56 infoInt rfl (by decide) (.slice tt.A tt.n tt.c) (nums .i64 acc) (.int .i64 X) rfl rfl rfl ?aO ?aB ?aS ?aL ?_; (case aO => rw [nums_length]; exact HG7.out.lo); (case aB => exact Below.refl _ _); (case aS => exact HG7.out.size); (case aL => rw [nums_length]; exact HLL.out); intro v1 w8 ho _ hb hg hat; obtain ⟨t1, rfl, hsn⟩ := own_more_sl ho; have HG8 := Aside0.mk (HG7.out.push HQ2.out (HAB.out w2 HK2.out.size) (own_more ho rfl) hg); clear ho hb hg hat hsn))
          go_roundw
          case rel => exact ⟨k + 1, t1, _, st2, by go_num, by omega, rfl, HG8, ⟨HS.out, by rw [List.length_append, HI.out.2]; rfl⟩⟩
          case measure => simp [intOf]; omega
        · have hne : ¬ ((k : Int) < (m : Int)) := by omega
          have h9 := HE.out acc st (by rw [← HI.out.1, show m - k = 0 by omega]; rfl)
          rw [hf6, if_pos rfl] at h9
          injection h9 with e1 e2
          subst e1
          subst e2
          clear hlt hk hf6
          have HR8 := Aside0.mk (RI.stepI HR2.out HG.out.io HG.out.keep)
          have HK8 := Aside0.mk (HK2.out.trans (HG.out.rk g))
          have HCS := Aside0.mk (HSM.out l tt wr _ _ (HO2.out.rk (HG.out.rk g) HGQ.out.1 HGQ.out.2) HG.out.lo.toC)
          go_wp2_with (go_at_call 98; have HCC := HCS.out; (with_reducible refine HCC.mono ?_); rintro e w9 ⟨rfl, hd⟩; have hb := Drawn0.below hd; have HR9 := Aside0.mk (HR8.out.below hb); have HK9 := Aside0.mk (HK8.out.trans (RK.of_below hb)); clear hd hb HCC HCS)
          go_ret
          exact ⟨rfl, HR9.out, HRK.out _ HK9.out⟩
      · have h9 := HE.out acc st (by rw [← HI.out.1]; exact inGets_flt _ _ _ (by rw [hf6]; exact h0))
        rw [hf6, if_neg h0] at h9
        injection h9 with e1 e2
        subst e1
        subst e2
        have hq1 : (f6 == 0) = false := by rw [beq_eq_false_iff_ne]; exact h0
        have hq2 : (f6 != 0) = true := by rw [bne_iff_ne]; exact h0
        by_cases hlt : k < m
        · have hii : (k : Int) < (m : Int) := by omega
          clear hk hf6
          have HR8 := Aside0.mk (RI.stepI HR2.out HG.out.io HG.out.keep)
          have HK8 := Aside0.mk (HK2.out.trans (HG.out.rk g))
          have HCS := Aside0.mk (HSM.out l ⟨none, 0, 0⟩ wr _ _ (HO2.out.rk (HG.out.rk g) HGQ.out.1 HGQ.out.2) (Own.nil (base := w2.heap.size)).toC)
          go_wp2_with (go_at_call 98; have HCC := HCS.out; (with_reducible refine HCC.mono ?_); rintro e w9 ⟨rfl, hd⟩; have hb := Drawn0.below hd; have HR9 := Aside0.mk (HR8.out.below hb); have HK9 := Aside0.mk (HK8.out.trans (RK.of_below hb)); clear hd hb HCC HCS)
          go_ret
          exact ⟨rfl, HR9.out, HRK.out _ HK9.out⟩
        · have hne : ¬ ((k : Int) < (m : Int)) := by omega
          clear hk hf6
          have HR8 := Aside0.mk (RI.stepI HR2.out HG.out.io HG.out.keep)
          have HK8 := Aside0.mk (HK2.out.trans (HG.out.rk g))
          have HCS := Aside0.mk (HSM.out l ⟨none, 0, 0⟩ wr _ _ (HO2.out.rk (HG.out.rk g) HGQ.out.1 HGQ.out.2) (Own.nil (base := w2.heap.size)).toC)
          go_wp2_with (go_at_call 98; have HCC := HCS.out; (with_reducible refine HCC.mono ?_); rintro e w9 ⟨rfl, hd⟩; have hb := Drawn0.below hd; have HR9 := Aside0.mk (HR8.out.below hb); have HK9 := Aside0.mk (HK8.out.trans (RK.of_below hb)); clear hd hb HCC HCS)
          go_ret
          exact ⟨rfl, HR9.out, HRK.out _ HK9.out⟩
  by_cases k8 : kind = 8
  · subst k8
    have e : s = sf := by rw [← hsf]; unfold rOp; simp
    subst e
    have HC := Aside0.mk (riDone W1 g A q Ab cb b s s H1.out)
    have HCO := Aside0.mk (fun (w' : World) (h : RI w' g A q Ab cb b s s) => iiDone w' g A q Ab cb b s s h)
    have HC2 := Aside0.mk (fun (w' : World) (h : RI w' g A q Ab cb b s s) => riLeft w' g A q Ab cb b s s h)
    have HCO2 := Aside0.mk (fun (w' : World) (h : RI w' g A q Ab cb b s s) => iiLeft w' g A q Ab cb b s s h (by have := HL.out; omega))
    generalize rLeftF s = X at *
    have hlb := HSL.out
    obtain ⟨Y, hY⟩ : ∃ Y, s.1.length = Y := ⟨_, rfl⟩
    simp only [hY] at HC2 HCO2
    subst hW1
    clear hsf hlb hY
    go_enter Try.func40, Try.ntmps40
    go_wp2_with (first
      | (go_at_call 41; have HCC := HC.out; (with_reducible refine HCC.mono ?_); rintro e w1 ⟨rfl, rfl⟩; clear HCC HC)
      | (go_at_call 42; have HCC := HCO.out _ H1.out; (with_reducible refine HCC.mono ?_); rintro e w2 ⟨rfl, hb⟩; have HR2 := Aside0.mk (H1.out.below hb); have HK2 := Aside0.mk (RK.of_below (g := g) (q := q) hb); clear hb HCC HCO)
      | (go_at_call 43; have HCC := HC2.out w2 HR2.out; (with_reducible refine HCC.mono ?_); rintro e w3 ⟨rfl, rfl⟩; clear HCC HC2)
      | (go_at_call 44; have HCC := HCO2.out w2 HR2.out; (with_reducible refine HCC.mono ?_); rintro e w4 ⟨rfl, hb⟩; have HR4 := Aside0.mk (HR2.out.below hb); have HK4 := Aside0.mk (HK2.out.trans (RK.of_below hb)); clear hb HCC HCO2))
    go_ret
    exact ⟨by first | rfl | (simp; done), HR4.out, HRK.out _ HK4.out⟩
  have e : s = sf := by rw [← hsf]; unfold rOp; simp [k1, k2, k3, k4, k5, k6, k7]
  subst e
  have q1 : (kind == 1) = false := by rw [beq_eq_false_iff_ne]; exact k1
  have q2 : (kind == 2) = false := by rw [beq_eq_false_iff_ne]; exact k2
  have q3 : (kind == 3) = false := by rw [beq_eq_false_iff_ne]; exact k3
  have q4 : (kind == 4) = false := by rw [beq_eq_false_iff_ne]; exact k4
  have q5 : (kind == 5) = false := by rw [beq_eq_false_iff_ne]; exact k5
  have q6 : (kind == 6) = false := by rw [beq_eq_false_iff_ne]; exact k6
  have q7 : (kind == 7) = false := by rw [beq_eq_false_iff_ne]; exact k7
  have q8 : (kind == 8) = false := by rw [beq_eq_false_iff_ne]; exact k8
  subst hW1
  clear hsf
  go_enter Try.func40, Try.ntmps40
  go_wp2
  go_ret
  exact ⟨rfl, H1.out, HRK.out _ RK.refl⟩
end Go.Proofs.Ytceeoifbimlkdaa.B
