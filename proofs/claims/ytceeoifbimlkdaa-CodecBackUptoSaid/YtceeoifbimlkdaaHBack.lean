/- Proved: the contracts of the law's back (one call on a Reader, by its kind) and fitted. Conditions: bounds of the lengths; the values lie below the Reader. -/
import Derived.Test.YtceeoifbimlkdaaHFitMath
import Derived.Test.YtceeoifbimlkdaaHCodecWorks
import Derived.Test.YtceeoifbimlkdaaCx4
namespace Go.Proofs.Ytceeoifbimlkdaa.B
open Go.RowKit Go.Proofs.YtceeoifbimlkdaaW.PrintWords Go.Proofs.YtceeoifbimlkdaaW.PrintLast Go.Proofs.YtceeoifbimlkdaaW.PrintMore

theorem same_dec (l m : List Int) (hl : l.length ≤ 281474976710656) (k : Nat) (hk : l.length < k) : bulkheadlaw02_same.f k l m = some (decide (l = m)) := by
  unfold bulkheadlaw02_same.f
  by_cases c : (l.length : Int) = (m.length : Int)
  · rw [if_pos c]
    have key : ∀ (d i k : Nat), i + d = l.length → d < k → l.take i = m.take i → bulkheadlaw02_same.l0 k l m (i : Int) = some (decide (l = m)) := by
      intro d
      induction d with
      | zero =>
        intro i k hi hk ht
        obtain ⟨k, rfl⟩ : ∃ m, k = m + 1 := ⟨k - 1, by omega⟩
        simp only [bulkheadlaw02_same.l0]
        rw [if_neg (by omega)]
        have : l = m := by rw [← List.take_length (l := l), ← List.take_length (l := m), show m.length = i by omega, show l.length = i by omega]; exact ht
        simp [this]
      | succ d ih =>
        intro i k hi hk ht
        obtain ⟨k, rfl⟩ : ∃ m, k = m + 1 := ⟨k - 1, by omega⟩
        simp only [bulkheadlaw02_same.l0]
        rw [if_pos (by omega), if_pos (by omega), if_pos (by omega)]
        have g1 : rd l (i : Int) = l[i]'(by omega) := by unfold rd; rw [Int.toNat_natCast, List.getD_eq_getElem?_getD, List.getElem?_eq_getElem (by omega)]; rfl
        have g2 : rd m (i : Int) = m[i]'(by omega) := by unfold rd; rw [Int.toNat_natCast, List.getD_eq_getElem?_getD, List.getElem?_eq_getElem (by omega)]; rfl
        rw [g1, g2]
        by_cases e : l[i]'(by omega) = m[i]'(by omega)
        · rw [if_pos e, show wrap64 ((i : Int) + 1) = ((i + 1 : Nat) : Int) by unfold wrap64; omega]
          exact ih (i + 1) k (by omega) (by omega) (by rw [List.take_succ_eq_append_getElem (by omega), List.take_succ_eq_append_getElem (by omega), ht, e])
        · rw [if_neg e]
          have : l ≠ m := fun h => e (by subst h; rfl)
          simp [this]
    exact key l.length 0 k (by omega) hk rfl
  · rw [if_neg c]
    have : l ≠ m := fun h => c (by rw [h])
    simp [this]
theorem ints_dec (l m : List Int) (hl : l.length ≤ 281474976710656) (k : Nat) (hk : l.length < k) : bulkheadlaw02_sameInts.f k l m = some (decide (l = m)) := by
  unfold bulkheadlaw02_sameInts.f
  by_cases c : (l.length : Int) = (m.length : Int)
  · rw [if_pos c]
    have key : ∀ (d i k : Nat), i + d = l.length → d < k → l.take i = m.take i → bulkheadlaw02_sameInts.l0 k l m (i : Int) = some (decide (l = m)) := by
      intro d
      induction d with
      | zero =>
        intro i k hi hk ht
        obtain ⟨k, rfl⟩ : ∃ m, k = m + 1 := ⟨k - 1, by omega⟩
        simp only [bulkheadlaw02_sameInts.l0]
        rw [if_neg (by omega)]
        have : l = m := by rw [← List.take_length (l := l), ← List.take_length (l := m), show m.length = i by omega, show l.length = i by omega]; exact ht
        simp [this]
      | succ d ih =>
        intro i k hi hk ht
        obtain ⟨k, rfl⟩ : ∃ m, k = m + 1 := ⟨k - 1, by omega⟩
        simp only [bulkheadlaw02_sameInts.l0]
        rw [if_pos (by omega), if_pos (by omega), if_pos (by omega)]
        have g1 : rd l (i : Int) = l[i]'(by omega) := by unfold rd; rw [Int.toNat_natCast, List.getD_eq_getElem?_getD, List.getElem?_eq_getElem (by omega)]; rfl
        have g2 : rd m (i : Int) = m[i]'(by omega) := by unfold rd; rw [Int.toNat_natCast, List.getD_eq_getElem?_getD, List.getElem?_eq_getElem (by omega)]; rfl
        rw [g1, g2]
        by_cases e : l[i]'(by omega) = m[i]'(by omega)
        · rw [if_pos e, show wrap64 ((i : Int) + 1) = ((i + 1 : Nat) : Int) by unfold wrap64; omega]
          exact ih (i + 1) k (by omega) (by omega) (by rw [List.take_succ_eq_append_getElem (by omega), List.take_succ_eq_append_getElem (by omega), ht, e])
        · rw [if_neg e]
          have : l ≠ m := fun h => e (by subst h; rfl)
          simp [this]
    exact key l.length 0 k (by omega) hk rfl
  · rw [if_neg c]
    have : l ≠ m := fun h => c (by rw [h])
    simp [this]
theorem RPost.behind {W W1 w' : World} {g : Nat} {A : Option Addr} {val : Value} {s : List Int × Int} {e : Ending} (hB : Below W.heap.size W W1) (hg : g < W.heap.size) (h : RPost W1 g A val s e w') : RPost W g A val s e w' := by
  obtain ⟨h1, h2, h3, h4⟩ := h
  have hs := hB.size
  exact ⟨h1, h2, ⟨by have := h3.1; omega, fun k a b c => (h3.2 k (by omega) b c).trans (hB.block k a)⟩, fun B hb => (hB.mono (by omega)).trans (h4 B hb)⟩
set_option maxHeartbeats 8000000 in
set_option maxRecDepth 100000 in
theorem back_is (o : OpL) (A1 : Option Addr) (c1 : Nat) (A2 : Option Addr) (c2 : Nat) (w0 W : World) (g : Nat) (A : Option Addr) (c : Nat) (s : List Int × Int) (hr1 : Kd.C (Kd.int .u8) w0 A1 o.bytes.length o.bytes) (hr2 : Kd.C (Kd.int .i64) w0 A2 o.list.length o.list)
    (hc1 : o.bytes.length ≤ c1) (hc2 : o.list.length ≤ c2) (hb0 : Below w0.heap.size w0 W) (h0 : w0.heap.size ≤ g) (hr : RdAt W g A c s.1 s.2) (hw : BytesOk s.1) (hA : ∀ ad, A = some ad → ad.block < W.heap.size) (hl : s.1.length < 140737488355328) (hlo : o.bytes.length + o.list.length < 140737488355328) :
    Calls Try.prog 62 #[.pointer (some ⟨g, 0, none⟩), .agg #[.int .i64 o.kind, .int .i64 o.n, .int .i64 o.wide, .bool o.flag, .slice A1 o.bytes.length c1, .slice A2 o.list.length c2, .int .i64 o.most]] W (RPost W g A (.bool (bOp s o).1) (bOp s o).2) := by
  have hu58 := Try.underlying58
  obtain ⟨kind, n, wide, flag, bytes, list, most⟩ := o
  dsimp only at hr1 hr2 hc1 hc2 hlo ⊢
  obtain ⟨W1, hW1⟩ : ∃ W1, W.alloc (.cells #[.int .i64 kind, .int .i64 n, .int .i64 wide, .bool flag, .slice A1 bytes.length c1, .slice A2 list.length c2, .int .i64 most] 58) = W1 := ⟨_, rfl⟩
  have hB : Below W.heap.size W W1 := by rw [← hW1]; exact (Below.refl _ _).alloc (Nat.le_refl _) _
  have hw1 := hr.belowF hB
  have hgW := blk_lt hr.blk
  have hA1 : ∀ ad, A = some ad → ad.block < W1.heap.size := fun ad e => Nat.lt_of_lt_of_le (hA ad e) hB.size
  have hb1 : Below w0.heap.size w0 W1 := hb0.trans (hB.mono hb0.size)
  have HB := Aside0.mk hB
  obtain ⟨sf, hsf⟩ : ∃ sf, bOp s ⟨kind, n, wide, flag, bytes, list, most⟩ = sf := ⟨_, rfl⟩
  rw [hsf]
  by_cases k1 : kind = 1
  · subst k1
    have e : ((rNum s 1).1 == n, (rNum s 1).2) = sf := by rw [← hsf]; unfold bOp; simp
    have HC := Aside0.mk (fun (w1 : World) (hww : Below W.heap.size W w1) => rU8_any w1 g A c s (hr.belowF hww) hw)
    have hbx : W1.heap[W.heap.size]? = some (.cells #[.int .i64 1, .int .i64 n, .int .i64 wide, .bool flag, .slice A1 bytes.length c1, .slice A2 list.length c2, .int .i64 most] 58 (0, 0)) := by rw [← hW1]; exact heap_alloc_new _ _
    have HBX := Aside0.mk hbx
    clear hbx
    obtain ⟨N1, hN1⟩ : ∃ N, bytes.length = N := ⟨_, rfl⟩
    obtain ⟨N2, hN2⟩ : ∃ N, list.length = N := ⟨_, rfl⟩
    rw [hN1, hN2] at hW1 HBX
    have b1 := (blk_cell HBX.out 1).trans (show _ = some (.int .i64 n) from rfl)
    rw [hN1, hN2]
    subst hW1
    clear hw hw1 hb1 hB hsf hl hr1 hr2 hN1 hN2 hA hA1 hb0 hr hc1 hc2 hlo
    subst e
    go_enter Try.func62, Try.ntmps62
    go_wp2
    go_region_with (go_at_call 50; refine (HC.out _ (below_drew1 HB.out)).mono ?_; rintro e w2 ⟨rfl, hx, hk, hB2⟩; have bx2 := (hk.2 W.heap.size (Nat.lt_of_lt_of_le (blk_lt HBX.out) (Nat.le_refl _)) (Ne.symm (Nat.ne_of_lt hgW)) (by simp)).trans HBX.out; have q := (blk_cell bx2 1).trans (show _ = some (.int .i64 n) from rfl); clear bx2)
    all_goals go_wp2
    all_goals go_ret
    all_goals (
      exact RPost.behind (below_drew1 HB.out) hgW ⟨by (first | rfl | (simp [Act.put, go_sem]; done)), hx, hk, hB2⟩)
  by_cases k2 : kind = 2
  · subst k2
    have e : ((rNum s 2).1 == n, (rNum s 2).2) = sf := by rw [← hsf]; unfold bOp; simp
    have HC := Aside0.mk (fun (w1 : World) (hww : Below W.heap.size W w1) => rU16_any w1 g A c s (hr.belowF hww) hw)
    have hbx : W1.heap[W.heap.size]? = some (.cells #[.int .i64 2, .int .i64 n, .int .i64 wide, .bool flag, .slice A1 bytes.length c1, .slice A2 list.length c2, .int .i64 most] 58 (0, 0)) := by rw [← hW1]; exact heap_alloc_new _ _
    have HBX := Aside0.mk hbx
    clear hbx
    obtain ⟨N1, hN1⟩ : ∃ N, bytes.length = N := ⟨_, rfl⟩
    obtain ⟨N2, hN2⟩ : ∃ N, list.length = N := ⟨_, rfl⟩
    rw [hN1, hN2] at hW1 HBX
    have b1 := (blk_cell HBX.out 1).trans (show _ = some (.int .i64 n) from rfl)
    rw [hN1, hN2]
    subst hW1
    clear hw hw1 hb1 hB hsf hl hr1 hr2 hN1 hN2 hA hA1 hb0 hr hc1 hc2 hlo
    subst e
    go_enter Try.func62, Try.ntmps62
    go_wp2
    go_region_with (go_at_call 51; refine (HC.out _ (below_drew1 HB.out)).mono ?_; rintro e w2 ⟨rfl, hx, hk, hB2⟩; have bx2 := (hk.2 W.heap.size (Nat.lt_of_lt_of_le (blk_lt HBX.out) (Nat.le_refl _)) (Ne.symm (Nat.ne_of_lt hgW)) (by simp)).trans HBX.out; have q := (blk_cell bx2 1).trans (show _ = some (.int .i64 n) from rfl); clear bx2)
    all_goals go_wp2
    all_goals go_ret
    all_goals (
      exact RPost.behind (below_drew1 HB.out) hgW ⟨by (first | rfl | (simp [Act.put, go_sem]; done)), hx, hk, hB2⟩)
  by_cases k3 : kind = 3
  · subst k3
    have e : ((rNum s 4).1 == n, (rNum s 4).2) = sf := by rw [← hsf]; unfold bOp; simp
    have HC := Aside0.mk (fun (w1 : World) (hww : Below W.heap.size W w1) => rU32_any w1 g A c s (hr.belowF hww) hw)
    have hbx : W1.heap[W.heap.size]? = some (.cells #[.int .i64 3, .int .i64 n, .int .i64 wide, .bool flag, .slice A1 bytes.length c1, .slice A2 list.length c2, .int .i64 most] 58 (0, 0)) := by rw [← hW1]; exact heap_alloc_new _ _
    have HBX := Aside0.mk hbx
    clear hbx
    obtain ⟨N1, hN1⟩ : ∃ N, bytes.length = N := ⟨_, rfl⟩
    obtain ⟨N2, hN2⟩ : ∃ N, list.length = N := ⟨_, rfl⟩
    rw [hN1, hN2] at hW1 HBX
    have b1 := (blk_cell HBX.out 1).trans (show _ = some (.int .i64 n) from rfl)
    rw [hN1, hN2]
    subst hW1
    clear hw hw1 hb1 hB hsf hl hr1 hr2 hN1 hN2 hA hA1 hb0 hr hc1 hc2 hlo
    subst e
    go_enter Try.func62, Try.ntmps62
    go_wp2
    go_region_with (go_at_call 52; refine (HC.out _ (below_drew1 HB.out)).mono ?_; rintro e w2 ⟨rfl, hx, hk, hB2⟩; have bx2 := (hk.2 W.heap.size (Nat.lt_of_lt_of_le (blk_lt HBX.out) (Nat.le_refl _)) (Ne.symm (Nat.ne_of_lt hgW)) (by simp)).trans HBX.out; have q := (blk_cell bx2 1).trans (show _ = some (.int .i64 n) from rfl); clear bx2)
    all_goals go_wp2
    all_goals go_ret
    all_goals (
      exact RPost.behind (below_drew1 HB.out) hgW ⟨by (first | rfl | (simp [Act.put, go_sem]; done)), hx, hk, hB2⟩)
  by_cases k4 : kind = 4
  · subst k4
    have e : (wrap64 (rNum s 8).1 == wide, (rNum s 8).2) = sf := by rw [← hsf]; unfold bOp; simp
    have HC := Aside0.mk (fun (w1 : World) (hww : Below W.heap.size W w1) => rI64_any w1 g A c s (hr.belowF hww) hw)
    have hbx : W1.heap[W.heap.size]? = some (.cells #[.int .i64 4, .int .i64 n, .int .i64 wide, .bool flag, .slice A1 bytes.length c1, .slice A2 list.length c2, .int .i64 most] 58 (0, 0)) := by rw [← hW1]; exact heap_alloc_new _ _
    have HBX := Aside0.mk hbx
    clear hbx
    obtain ⟨N1, hN1⟩ : ∃ N, bytes.length = N := ⟨_, rfl⟩
    obtain ⟨N2, hN2⟩ : ∃ N, list.length = N := ⟨_, rfl⟩
    rw [hN1, hN2] at hW1 HBX
    have b2 := (blk_cell HBX.out 2).trans (show _ = some (.int .i64 wide) from rfl)
    rw [hN1, hN2]
    subst hW1
    clear hw hw1 hb1 hB hsf hl hr1 hr2 hN1 hN2 hA hA1 hb0 hr hc1 hc2 hlo
    subst e
    go_enter Try.func62, Try.ntmps62
    go_wp2
    go_region_with (go_at_call 53; refine (HC.out _ (below_drew1 HB.out)).mono ?_; rintro e w2 ⟨rfl, hx, hk, hB2⟩; have bx2 := (hk.2 W.heap.size (Nat.lt_of_lt_of_le (blk_lt HBX.out) (Nat.le_refl _)) (Ne.symm (Nat.ne_of_lt hgW)) (by simp)).trans HBX.out; have q := (blk_cell bx2 2).trans (show _ = some (.int .i64 wide) from rfl); clear bx2)
    all_goals go_wp2
    all_goals go_ret
    all_goals (
      exact RPost.behind (below_drew1 HB.out) hgW ⟨by (first | rfl | (simp [Act.put, go_sem]; done)), hx, hk, hB2⟩)
  by_cases k5 : kind = 5
  · subst k5
    have e : ((rBool s).1 == flag, (rBool s).2) = sf := by rw [← hsf]; unfold bOp; simp
    have HC := Aside0.mk (fun (w1 : World) (hww : Below W.heap.size W w1) => rBool_any w1 g A c s (hr.belowF hww) hw)
    have hbx : W1.heap[W.heap.size]? = some (.cells #[.int .i64 5, .int .i64 n, .int .i64 wide, .bool flag, .slice A1 bytes.length c1, .slice A2 list.length c2, .int .i64 most] 58 (0, 0)) := by rw [← hW1]; exact heap_alloc_new _ _
    have HBX := Aside0.mk hbx
    clear hbx
    obtain ⟨N1, hN1⟩ : ∃ N, bytes.length = N := ⟨_, rfl⟩
    obtain ⟨N2, hN2⟩ : ∃ N, list.length = N := ⟨_, rfl⟩
    rw [hN1, hN2] at hW1 HBX
    have b3 := (blk_cell HBX.out 3).trans (show _ = some (.bool flag) from rfl)
    rw [hN1, hN2]
    subst hW1
    clear hw hw1 hb1 hB hsf hl hr1 hr2 hN1 hN2 hA hA1 hb0 hr hc1 hc2 hlo
    subst e
    go_enter Try.func62, Try.ntmps62
    go_wp2
    go_region_with (go_at_call 54; refine (HC.out _ (below_drew1 HB.out)).mono ?_; rintro e w2 ⟨rfl, hx, hk, hB2⟩; have bx2 := (hk.2 W.heap.size (Nat.lt_of_lt_of_le (blk_lt HBX.out) (Nat.le_refl _)) (Ne.symm (Nat.ne_of_lt hgW)) (by simp)).trans HBX.out; have q := (blk_cell bx2 3).trans (show _ = some (.bool flag) from rfl); clear bx2)
    all_goals go_wp2
    all_goals go_ret
    all_goals (
      exact RPost.behind (below_drew1 HB.out) hgW ⟨by (first | rfl | (simp [Act.put, go_sem]; done)), hx, hk, hB2⟩)
  by_cases k6 : kind = 6
  · subst k6
    have e : (decide ((rTake s bytes.length).1 = bytes), (rTake s bytes.length).2) = sf := by rw [← hsf]; unfold bOp; simp
    have HC := Aside0.mk (fun (w1 : World) (hww : Below W.heap.size W w1) => rBytes_any w1 g A c s (bytes.length : Nat) (hr.belowF hww) (Nat.lt_of_lt_of_le hgW hww.size) hl)
    have hbx : W1.heap[W.heap.size]? = some (.cells #[.int .i64 6, .int .i64 n, .int .i64 wide, .bool flag, .slice A1 bytes.length c1, .slice A2 list.length c2, .int .i64 most] 58 (0, 0)) := by rw [← hW1]; exact heap_alloc_new _ _
    have HBX := Aside0.mk hbx
    clear hbx
    obtain ⟨N1, hN1⟩ : ∃ N, bytes.length = N := ⟨_, rfl⟩
    obtain ⟨N2, hN2⟩ : ∃ N, list.length = N := ⟨_, rfl⟩
    rw [hN1, hN2] at hW1 HBX
    have b4 := (blk_cell HBX.out 4).trans (show _ = some (.slice A1 N1 c1) from rfl)
    have HR1 := Aside0.mk hr1; have HB1 := Aside0.mk hb1; have HC1 := Aside0.mk hc1; have HD := Aside0.mk (same_dec (rTake s bytes.length).1 bytes (by have := (rTake_len s bytes.length).2; omega) _ (Nat.lt_succ_self _)); have HN := Aside0.mk hN1; obtain ⟨T6, hT6⟩ : ∃ T, rTake s bytes.length = T := ⟨_, rfl⟩; rw [hT6] at HC HD e; rw [hN1] at HC; clear hT6
    rw [hN1, hN2]
    subst hW1
    clear hw hw1 hb1 hB hsf hl hr1 hr2 hN1 hN2 hA hA1 hb0 hr hc1 hc2 hlo
    subst e
    go_enter Try.func62, Try.ntmps62
    go_wp2
    go_region_with (first | (go_at_call 55; refine (HC.out _ (below_drew1 HB.out)).mono ?_; rintro e w2 ⟨v6, rfl, hR6, hx, hk, hB2⟩; obtain ⟨A6, c6, rfl⟩ := Kd.R_slice hR6; have h6 := Kd.R_reads' hR6; have HS := Aside0.mk (bulkheadlaw02_same.calls _ A6 c6 _ A1 c1 bytes _ w2 h6.2.2 h6.2.1 (by have h := Kd.C_below HR1.out (((below_drew1 HB1.out)).trans (hB2 _ h0)); exact h) HC1.out HD.out); rw [HN.out] at HS; have bx2 := (hk.2 W.heap.size (Nat.lt_of_lt_of_le (blk_lt HBX.out) (Nat.le_refl _)) (Ne.symm (Nat.ne_of_lt hgW)) (by simp)).trans HBX.out; have q := (blk_cell bx2 4).trans (show _ = some (.slice A1 N1 c1) from rfl); clear bx2; have HX := Aside0.mk hx; have HK := Aside0.mk hk; have HB2 := Aside0.mk hB2; clear hR6 h6 hx hk hB2) | (go_at_call 28; refine HS.out.mono ?_; rintro e w3 ⟨rfl, hd3⟩; have HD3 := Aside0.mk hd3.below; clear hd3))
    all_goals go_wp2
    all_goals go_ret
    all_goals (
      obtain ⟨A9, c9, hx1, hx2⟩ := HX.out; exact RPost.behind (below_drew1 HB.out) hgW ⟨by (first | rfl | (simp [Act.put, go_sem]; done)), ⟨A9, c9, hx1.belowF HD3.out, hx2⟩, HK.out.trans (KeepBut.of_below HD3.out g none) (.inl rfl), fun B hb => (HB2.out B hb).trans (HD3.out.mono (by have := HK.out.1; have := (below_drew1 HB.out).size; omega))⟩)
  by_cases k7 : kind = 7
  · subst k7
    have e : (decide ((rList s most).1 = list), (rList s most).2) = sf := by rw [← hsf]; unfold bOp; simp
    have HC := Aside0.mk (fun (w1 : World) (hww : Below W.heap.size W w1) => getList_back w1 g A c s most (hr.belowF hww) hw (fun ad e => Nat.lt_of_lt_of_le (hA ad e) hww.size) hl)
    have hbx : W1.heap[W.heap.size]? = some (.cells #[.int .i64 7, .int .i64 n, .int .i64 wide, .bool flag, .slice A1 bytes.length c1, .slice A2 list.length c2, .int .i64 most] 58 (0, 0)) := by rw [← hW1]; exact heap_alloc_new _ _
    have HBX := Aside0.mk hbx
    clear hbx
    obtain ⟨N1, hN1⟩ : ∃ N, bytes.length = N := ⟨_, rfl⟩
    obtain ⟨N2, hN2⟩ : ∃ N, list.length = N := ⟨_, rfl⟩
    rw [hN1, hN2] at hW1 HBX
    have b5 := (blk_cell HBX.out 5).trans (show _ = some (.slice A2 N2 c2) from rfl)
    have b6 := (blk_cell HBX.out 6).trans (show _ = some (.int .i64 most) from rfl)
    have HD := Aside0.mk (ints_dec (rList s most).1 list (by have := rList_len s most; omega) _ (Nat.lt_succ_self _)); have HR2 := Aside0.mk hr2; have HB1 := Aside0.mk hb1; have HC2 := Aside0.mk hc2; have HN := Aside0.mk hN2; unfold RLPost at HC
    rw [hN1, hN2]
    subst hW1
    clear hw hw1 hb1 hB hsf hl hr1 hr2 hN1 hN2 hA hA1 hb0 hr hc1 hc2 hlo
    subst e
    go_enter Try.func62, Try.ntmps62
    go_wp2
    go_region_with (first | (go_at_call 56; refine (HC.out _ (below_drew1 HB.out)).mono ?_; rintro e w2 ⟨A6, c6, rfl, hF6, hx, hk, hB2, hle6⟩; have HF6 := Aside0.mk hF6; have HS := Aside0.mk (bulkheadlaw02_sameInts.calls _ A6 c6 _ A2 c2 list _ w2 (Kd.F_now hF6) hle6 (by have h := Kd.C_below HR2.out (((below_drew1 HB1.out)).trans (hB2 _ h0)); exact h) HC2.out HD.out); rw [HN.out] at HS; have bx2 := (hk.2 W.heap.size (Nat.lt_of_lt_of_le (blk_lt HBX.out) (Nat.le_refl _)) (Ne.symm (Nat.ne_of_lt hgW)) (by simp)).trans HBX.out; have q := (blk_cell bx2 5).trans (show _ = some (.slice A2 N2 c2) from rfl); clear bx2; have HX := Aside0.mk hx; have HK := Aside0.mk hk; have HB2 := Aside0.mk hB2; clear hx hk hB2 hF6) | (go_at_call 98; refine HS.out.mono ?_; rintro e w3 ⟨rfl, hd3⟩; have HD3 := Aside0.mk hd3.below; clear hd3))
    all_goals go_wp2
    all_goals go_ret
    all_goals (
      obtain ⟨A9, c9, hx1, hx2⟩ := HX.out; exact RPost.behind (below_drew1 HB.out) hgW ⟨by (first | rfl | (simp [Act.put, go_sem]; done)), ⟨A9, c9, hx1.belowF HD3.out, hx2⟩, HK.out.trans (KeepBut.of_below HD3.out g none) (.inl rfl), fun B hb => (HB2.out B hb).trans (HD3.out.mono (by have := HK.out.1; have := (below_drew1 HB.out).size; omega))⟩)
  have e : (true, s) = sf := by rw [← hsf]; unfold bOp; simp [k1, k2, k3, k4, k5, k6, k7]
  subst e
  have HW := Aside0.mk (show RPost W g A (.bool true) s (.returned (.bool true)) W1 from RPost.behind hB hgW ⟨rfl, ⟨A, c, hw1, BlkOf.refl _⟩, KeepBut.refl _ _ _, fun _ _ => Below.refl _ _⟩)
  obtain ⟨N1, hN1⟩ : ∃ N, bytes.length = N := ⟨_, rfl⟩
  obtain ⟨N2, hN2⟩ : ∃ N, list.length = N := ⟨_, rfl⟩
  rw [hN1, hN2] at hW1
  rw [hN1, hN2]
  have q1 : (kind == 1) = false := by rw [beq_eq_false_iff_ne]; exact k1
  have q2 : (kind == 2) = false := by rw [beq_eq_false_iff_ne]; exact k2
  have q3 : (kind == 3) = false := by rw [beq_eq_false_iff_ne]; exact k3
  have q4 : (kind == 4) = false := by rw [beq_eq_false_iff_ne]; exact k4
  have q5 : (kind == 5) = false := by rw [beq_eq_false_iff_ne]; exact k5
  have q6 : (kind == 6) = false := by rw [beq_eq_false_iff_ne]; exact k6
  have q7 : (kind == 7) = false := by rw [beq_eq_false_iff_ne]; exact k7
  subst hW1
  clear hw hw1 hb1 hB hsf hl hr1 hr2 hN1 hN2 hA hA1 hb0 hr hc1 hc2 hlo
  go_enter Try.func62, Try.ntmps62
  go_wp2
  go_ret
  exact HW.out
end Go.Proofs.Ytceeoifbimlkdaa.B
