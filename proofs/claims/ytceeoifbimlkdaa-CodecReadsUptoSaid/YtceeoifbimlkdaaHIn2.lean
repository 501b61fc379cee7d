/- Proved: the contracts of the reference's In: the numbers, Bool, Count, Done: its state turns as the Reader's does. Conditions: bounds of the lengths; what lies there are bytes. -/
import Derived.Test.YtceeoifbimlkdaaHIn
import Derived.Test.YtceeoifbimlkdaaHGetList
namespace Go.Proofs.Ytceeoifbimlkdaa.B
open Go.RowKit Go.Proofs.YtceeoifbimlkdaaW.PrintWords Go.Proofs.YtceeoifbimlkdaaW.PrintLast Go.Proofs.YtceeoifbimlkdaaW.PrintMore

/-- What an In's call leaves. -/
def IPost (W : World) (g : Nat) (A : Option Addr) (c : Nat) (b : List Int) (val : Value) (s' : List Int × Int) (e : Ending) (w' : World) : Prop :=
  e = .returned val ∧ (∃ a', InAt w' g A c b a' s') ∧ KeepBut W w' g none ∧ ∀ B, B ≤ g → Below B W w'
theorem KeepBut.below {W w w' : World} {g : Nat} {B : Option Nat} (h : KeepBut W w g B) (hb : Below w.heap.size w w') : KeepBut W w' g B := ⟨Nat.le_trans h.1 hb.size, fun k hk h1 h2 => (hb.block k (Nat.lt_of_lt_of_le hk h.1)).trans (h.2 k hk h1 h2)⟩
theorem InAt.ok {W : World} {g : Nat} {A : Option Addr} {c : Nat} {b : List Int} {a : Nat} {s : List Int × Int} (h : InAt W g A c b a s) (hb : BytesOk b) : BytesOk s.1 := fun x hx => hb x (by rw [h.rest] at hx; exact List.mem_of_mem_drop hx)
set_option maxHeartbeats 4000000 in
set_option maxRecDepth 100000 in
theorem inNumber_is (n : Nat) (W : World) (g : Nat) (A : Option Addr) (c : Nat) (b : List Int) (a : Nat) (s : List Int × Int) (h : InAt W g A c b a s) (hl : b.length ≤ 4398046511104) (h8 : n ≤ 8) (hw : BytesOk b) :
    Calls Try.prog 129 #[.pointer (some ⟨g, 0, none⟩), .int .i64 (n : Nat)] W (IPost W g A c b (.int .u64 (rNum s n).1) (rNum s n).2) := by
  have HT := Aside0.mk (inBytes_is (n : Int) W g A c b a s h hl)
  have hyw := (rTake_ok s (n : Int) (h.ok hw)).1
  have hyl : (rTake s (n : Int)).1.length ≤ 8 := by
    unfold rTake
    split
    · rename_i h1
      simp; omega
    · simp
  unfold rNum
  generalize (rTake s (n : Int)).1 = ys at *
  generalize (rTake s (n : Int)).2 = s' at *
  obtain ⟨m, hm⟩ : ∃ m, ys.length = m := ⟨_, rfl⟩
  have HY := Aside0.mk hm
  have hm8 : m ≤ 8 := by omega
  have HYW := Aside0.mk hyw
  clear h hl hw hyl hyw hm
  go_enter Try.func129, Try.ntmps129
  go_wp2_with (go_at_call 95; refine HT.out.mono ?_; rintro e w1 ⟨A', n', c', rfl, hO, hI, hK, hB⟩; have hn' : n' = m := hO.len.trans HY.out; subst hn'; have HC := Aside0.mk hO.reads; have HI := Aside0.mk hI; have HK := Aside0.mk hK; have HB := Aside0.mk hB; clear hO hI hK hB)
  go_loop [6, 7] (fun x i => ∃ k : Nat, k ≤ n' ∧ i = .int .i64 k ∧ x = .int .u64 (numV (ys.take k))) (fun _ i => n' - (intOf i).toNat)
  case atStart => exact ⟨0, Nat.zero_le _, rfl, rfl⟩
  case round =>
    obtain ⟨k, hk, rfl, rfl⟩ := hrel
    by_cases hlt : k < n'
    · have hyl := HY.out
      obtain ⟨ad, e, hx⟩ := Kd.at_int HC.out (k : Int) (by omega) (by omega)
      subst e
      rw [Int.toNat_natCast] at hx
      have hbd := numV_bd ys HYW.out k (by omega)
      have hxb := HYW.out (ys[k]'(by omega)) (List.getElem_mem _)
      have e2 : rd ys (k : Int) = ys[k]'(by omega) := by simp [rd, List.getD_eq_getElem?_getD, show k < ys.length by omega]
      rw [e2] at hx
      have hs : numV (ys.take (k + 1)) = numV (ys.take k) * 256 + ys[k]'(by omega) := by rw [List.take_succ_eq_append_getElem (by omega), numV_snoc]
      have HS := Aside0.mk hs
      generalize numV (ys.take k) = X at *
      generalize (ys[k]'(by omega)) = C at *
      clear hs e2 hyl
      go_wp2
      go_round
      case rel =>
        refine ⟨k + 1, by omega, by go_num, ?_⟩
        rw [HS.out]
        have hp := pow256 k (by omega)
        rw [IntWalk.u64_in (X * 256) (by omega), IntWalk.u64_in (X * 256 + C) (by omega)]
      case measure => simp [intOf]; omega
    · obtain rfl : k = n' := by omega
      go_wp2
      go_ret
      rw [List.take_of_length_le (by have := HY.out; omega)]
      exact ⟨rfl, HI.out, HK.out, HB.out⟩
set_option maxHeartbeats 4000000 in
theorem inU8_is (W : World) (g : Nat) (A : Option Addr) (c : Nat) (b : List Int) (a : Nat) (s : List Int × Int) (h : InAt W g A c b a s) (hl : b.length ≤ 4398046511104) (hw : BytesOk b) :
    Calls Try.prog 90 #[.pointer (some ⟨g, 0, none⟩)] W (IPost W g A c b (.int .i64 (rNum s 1).1) (rNum s 1).2) := by
  have HN := Aside0.mk (inNumber_is 1 W g A c b a s h hl (by omega) hw)
  have hbd := rNum_bd s 1 (h.ok hw)
  have hq : IntKind.i64.wrap (rNum s 1).1 = (rNum s 1).1 := IntWalk.i64_in _ (by omega)
  generalize (rNum s 1).1 = X at *
  generalize (rNum s 1).2 = s' at *
  rw [show ((1 : Nat) : Int) = 1 from rfl] at HN
  clear h hw hl
  go_enter Try.func90, Try.ntmps90
  go_wp2_with (go_at_call 129; refine HN.out.mono ?_; rintro e w' ⟨rfl, h1, h2, h3⟩)
  go_ret
  exact ⟨by first | rfl | (simp [hq]; done), h1, h2, h3⟩
set_option maxHeartbeats 4000000 in
theorem inU16_is (W : World) (g : Nat) (A : Option Addr) (c : Nat) (b : List Int) (a : Nat) (s : List Int × Int) (h : InAt W g A c b a s) (hl : b.length ≤ 4398046511104) (hw : BytesOk b) :
    Calls Try.prog 91 #[.pointer (some ⟨g, 0, none⟩)] W (IPost W g A c b (.int .i64 (rNum s 2).1) (rNum s 2).2) := by
  have HN := Aside0.mk (inNumber_is 2 W g A c b a s h hl (by omega) hw)
  have hbd := rNum_bd s 2 (h.ok hw)
  have hq : IntKind.i64.wrap (rNum s 2).1 = (rNum s 2).1 := IntWalk.i64_in _ (by omega)
  generalize (rNum s 2).1 = X at *
  generalize (rNum s 2).2 = s' at *
  rw [show ((2 : Nat) : Int) = 2 from rfl] at HN
  clear h hw hl
  go_enter Try.func91, Try.ntmps91
  go_wp2_with (go_at_call 129; refine HN.out.mono ?_; rintro e w' ⟨rfl, h1, h2, h3⟩)
  go_ret
  exact ⟨by first | rfl | (simp [hq]; done), h1, h2, h3⟩
set_option maxHeartbeats 4000000 in
theorem inU32_is (W : World) (g : Nat) (A : Option Addr) (c : Nat) (b : List Int) (a : Nat) (s : List Int × Int) (h : InAt W g A c b a s) (hl : b.length ≤ 4398046511104) (hw : BytesOk b) :
    Calls Try.prog 92 #[.pointer (some ⟨g, 0, none⟩)] W (IPost W g A c b (.int .i64 (rNum s 4).1) (rNum s 4).2) := by
  have HN := Aside0.mk (inNumber_is 4 W g A c b a s h hl (by omega) hw)
  have hbd := rNum_bd s 4 (h.ok hw)
  have hq : IntKind.i64.wrap (rNum s 4).1 = (rNum s 4).1 := IntWalk.i64_in _ (by omega)
  generalize (rNum s 4).1 = X at *
  generalize (rNum s 4).2 = s' at *
  rw [show ((4 : Nat) : Int) = 4 from rfl] at HN
  clear h hw hl
  go_enter Try.func92, Try.ntmps92
  go_wp2_with (go_at_call 129; refine HN.out.mono ?_; rintro e w' ⟨rfl, h1, h2, h3⟩)
  go_ret
  exact ⟨by first | rfl | (simp [hq]; done), h1, h2, h3⟩
set_option maxHeartbeats 4000000 in
theorem inI64_is (W : World) (g : Nat) (A : Option Addr) (c : Nat) (b : List Int) (a : Nat) (s : List Int × Int) (h : InAt W g A c b a s) (hl : b.length ≤ 4398046511104) (hw : BytesOk b) :
    Calls Try.prog 93 #[.pointer (some ⟨g, 0, none⟩)] W (IPost W g A c b (.int .i64 (wrap64 (rNum s 8).1)) (rNum s 8).2) := by
  have HN := Aside0.mk (inNumber_is 8 W g A c b a s h hl (by omega) hw)
  obtain ⟨X, hX⟩ : ∃ X, (rNum s 8).1 = X := ⟨_, rfl⟩
  obtain ⟨Y, hY⟩ : ∃ Y, wrap64 X = Y := ⟨_, rfl⟩
  rw [hX] at HN ⊢
  rw [hY]
  generalize (rNum s 8).2 = s' at *
  rw [show ((8 : Nat) : Int) = 8 from rfl] at HN
  clear h hw hX hl
  have HY := Aside0.mk hY
  clear hY
  go_enter Try.func93, Try.ntmps93
  go_wp2_with (go_at_call 129; refine HN.out.mono ?_; rintro e w' ⟨rfl, h1, h2, h3⟩)
  go_ret
  rw [← HY.out]
  exact ⟨by first | rfl | (simp; done), h1, h2, h3⟩
set_option maxHeartbeats 4000000 in
set_option maxRecDepth 100000 in
theorem inDone_is (W : World) (g : Nat) (A : Option Addr) (c : Nat) (b : List Int) (a : Nat) (s : List Int × Int) (h : InAt W g A c b a s) :
    Calls Try.prog 42 #[.pointer (some ⟨g, 0, none⟩)] W fun e w' => e = .returned (.int .i64 (rLeftF s)) ∧ Below W.heap.size W w' := by
  have hu64 := Try.underlying64
  have j0 : W.cell? ⟨g, 0, none⟩ = some (.slice A b.length c) := (blk_cell h.blk 0).trans rfl
  have j1 : W.cell? ⟨g, 1, none⟩ = some (.int .i64 (a : Nat)) := (blk_cell h.blk 1).trans rfl
  have j2 : W.cell? ⟨g, 2, none⟩ = some (.int .i64 s.2) := (blk_cell h.blk 2).trans rfl
  have hle := h.le
  have hsl : s.1.length = b.length - a := by rw [h.rest, List.length_drop]
  obtain ⟨xs, f⟩ := s
  dsimp only at j2 hsl
  have e : rLeftF (xs, f) = if f = 0 ∧ a < b.length then 20 else f := by
    unfold rLeftF
    by_cases h1 : f = 0 ∧ a < b.length
    · rw [if_pos h1, if_pos ⟨h1.1, by dsimp only; omega⟩]
    · rw [if_neg h1, if_neg (fun h2 => h1 ⟨h2.1, by have := h2.2; dsimp only at this; omega⟩)]
  rw [e]
  generalize b.length = N at *
  clear h hsl e
  by_cases h0 : f = 0
  · subst h0
    by_cases hlt : a < N
    · have hd : decide ((a : Int) < (N : Int)) = true := decide_eq_true (by omega)
      rw [if_pos ⟨rfl, hlt⟩]
      go_enter Try.func42, Try.ntmps42
      go_wp2
      repeat (go_quiet (fail); try go_wp2)
      first | go_ret | go_ret2
      exact ⟨rfl, by repeat (first | exact Below.refl _ _ | apply pw_below_drewN | apply below_drew1)⟩
    · have hd : decide ((a : Int) < (N : Int)) = false := decide_eq_false (by omega)
      rw [if_neg (fun h => hlt h.2)]
      go_enter Try.func42, Try.ntmps42
      go_wp2
      repeat (go_quiet (fail); try go_wp2)
      first | go_ret | go_ret2
      exact ⟨rfl, by repeat (first | exact Below.refl _ _ | apply pw_below_drewN | apply below_drew1)⟩
  · have h1 : (f == 0) = false := by rw [beq_eq_false_iff_ne]; exact h0
    rw [if_neg (fun h => h0 h.1)]
    go_enter Try.func42, Try.ntmps42
    go_wp2
    repeat (go_quiet (fail); try go_wp2)
    first | go_ret | go_ret2
    exact ⟨rfl, by repeat (first | exact Below.refl _ _ | apply pw_below_drewN | apply below_drew1)⟩
set_option maxHeartbeats 4000000 in
set_option maxRecDepth 100000 in
theorem inBool_is (W : World) (g : Nat) (A : Option Addr) (c : Nat) (b : List Int) (a : Nat) (s : List Int × Int) (h : InAt W g A c b a s) (hl : b.length ≤ 4398046511104) (hw : BytesOk b) :
    Calls Try.prog 94 #[.pointer (some ⟨g, 0, none⟩)] W (IPost W g A c b (.bool (rBool s).1) (rBool s).2) := by
  have hu64 := Try.underlying64
  have j0 : W.cell? ⟨g, 0, none⟩ = some (.slice A b.length c) := (blk_cell h.blk 0).trans rfl
  have j1 : W.cell? ⟨g, 1, none⟩ = some (.int .i64 (a : Nat)) := (blk_cell h.blk 1).trans rfl
  have j2 : W.cell? ⟨g, 2, none⟩ = some (.int .i64 s.2) := (blk_cell h.blk 2).trans rfl
  have hfr : W.frozen? ⟨g, 1, none⟩ = false := blk_frozen h.blk 1
  have H := Aside0.mk h
  have hle := h.le
  have hrest := h.rest
  obtain ⟨xs, f⟩ := s
  dsimp only at j2 hrest
  obtain ⟨N, hN⟩ : ∃ N, b.length = N := ⟨_, rfl⟩
  rw [hN] at j0 hle hl
  have HN := Aside0.mk hN
  by_cases h0 : f = 0
  · subst h0
    by_cases hlt : a < N
    · obtain ⟨ad, e, hx⟩ := Kd.at_int h.row ((a : Nat) : Int) (by omega) (by omega)
      subst e
      rw [Int.toNat_natCast] at hx
      have hrd : rd b ((a : Nat) : Int) = b[a]'(by omega) := by unfold rd; rw [Int.toNat_natCast]; simp [List.getD_eq_getElem?_getD, show a < b.length by omega]
      have hbd := hw (b[a]'(by omega)) (List.getElem_mem _)
      have hxs : xs = (b[a]'(by omega)) :: b.drop (a + 1) := by rw [hrest]; exact List.drop_eq_getElem_cons (by omega)
      rw [hrd] at hx
      generalize (b[a]'(by omega)) = x at *
      by_cases hb1 : 1 < x
      · have e : rBool (xs, 0) = (false, xs, 20) := by rw [hxs]; simp [rBool, hb1]
        rw [e]
        have HF := Aside0.mk (fun (w' : World) (hb : Below W.heap.size W w') => inFail0 20 w' g (some ad) c b a xs (H.out.below hb))
        have hd1 : decide ((N : Int) ≤ (a : Int)) = false := decide_eq_false (by omega)
        have hd2 : decide (1 < x) = true := decide_eq_true hb1
        have hy1 : (N : Int) ≤ (a : Int) ∨ 1 < x := .inr hb1
        have hy2 : (decide ((N : Int) ≤ (a : Int)) || decide (1 < x)) = true := by rw [hd1, hd2]; rfl
        clear e hxs hrest hN h hrd
        go_enter Try.func94, Try.ntmps94
        go_wp2
        go_quiet (fail)
        go_wp2_with (go_at_call 130; refine (HF.out _ (by repeat (first | exact Below.refl _ _ | apply pw_below_drewN | apply below_drew1))).mono ?_; rintro e w1 ⟨rfl, rfl⟩)
        go_ret
        have hbb : ∀ w1, Below W.heap.size W w1 → IPost W g (some ad) c b (.bool false) (xs, 20) (.returned (.bool false)) (w1.setCell ⟨g, 2, none⟩ (.int .i64 20)) := fun w1 hb => by
          obtain ⟨k1, k2⟩ := in_set hb g 2 (.int .i64 20) (blk_lt H.out.blk)
          have h1 := H.out.below hb
          exact ⟨rfl, ⟨a, ⟨h1.le, h1.rest, blk_set h1.blk 2 (.int .i64 20), h1.room, C_set h1.row h1.off, h1.off⟩⟩, k1, k2⟩
        exact hbb _ (by repeat (first | exact Below.refl _ _ | apply pw_below_drewN | apply below_drew1))
      · have e : rBool (xs, 0) = (x == 1, b.drop (a + 1), 0) := by
          rw [hxs]; unfold rBool
          rw [if_neg (by simp; omega)]
          have : (1 : Int) ≤ ((b.length - (a + 1) : Nat) : Int) + 1 := by omega
          simp [rNum, rTake, numV, this]
        rw [e]
        have hd1 : decide ((N : Int) ≤ (a : Int)) = false := decide_eq_false (by omega)
        have hd2 : decide (1 < x) = false := decide_eq_false hb1
        have hy1 : ¬ ((N : Int) ≤ (a : Int) ∨ 1 < x) := by omega
        have hy2 : (decide ((N : Int) ≤ (a : Int)) || decide (1 < x)) = false := by rw [hd1, hd2]; rfl
        have hw1 : IntKind.i64.wrap ((a : Int) + 1) = (a : Int) + 1 := IntWalk.i64_in _ (by omega)
        have hw2 : IntKind.i64.wrap ((a : Int) + 1 - 1) = (a : Int) := by rw [IntWalk.i64_in _ (by omega)]; omega
        clear e hxs hrest hN h hrd
        go_enter Try.func94, Try.ntmps94
        go_wp2
        go_quiet (fail)
        go_wp2
        generalize hw5 : World.setCell _ ⟨g, 1, none⟩ _ = w5
        have HBq : Below W.heap.size W (W.drewN nq) := by repeat (first | exact Below.refl _ _ | apply pw_below_drewN | apply below_drew1)
        have hI := H.out.below HBq
        have hb5 : w5.heap[g]? = some (.cells #[.slice (some ad) b.length c, .int .i64 ((a : Int) + 1), .int .i64 0] 64 (0, 0)) := by rw [← hw5]; exact blk_set hI.blk 1 _
        have z0 : w5.cell? ⟨g, 0, none⟩ = some (.slice (some ad) N c) := by rw [← HN.out]; exact (blk_cell hb5 0).trans rfl
        have z1 : w5.cell? ⟨g, 1, none⟩ = some (.int .i64 ((a : Int) + 1)) := (blk_cell hb5 1).trans rfl
        have hx5 : w5.cell? (ad.add a) = some (.int .u8 x) := by
          have h1 := Kd.C_below H.out.row HBq
          have h2 : w5.heap[ad.block]? = W.heap[ad.block]? := by
            rw [← hw5, Below.heap_setCell _ _ _ _ (H.out.off (by have := HN.out; omega) ad rfl)]
            rfl
          rw [World.cell?_of_block (w := W) (by rw [add_block]; exact h2)]
          exact hx
        obtain ⟨k1, k2⟩ := in_set HBq g 1 (.int .i64 ((a : Int) + 1)) (blk_lt H.out.blk)
        rw [hw5] at k1 k2
        have HC5 : Kd.C (Kd.int .u8) w5 (some ad) b.length b := by rw [← hw5]; exact C_set hI.row hI.off
        have HK1 := Aside0.mk k1
        have HK2 := Aside0.mk k2
        have HB5 := Aside0.mk hb5
        have HCC := Aside0.mk HC5
        clear hI k1 k2 hb5 HC5 hx j0 j1 j2 HBq
        clear hw5
        go_quiet (fail)
        go_wp2
        go_ret
        exact ⟨rfl, ⟨a + 1, ⟨by have := HN.out; omega, rfl, HB5.out, H.out.room, HCC.out, H.out.off⟩⟩, HK1.out, fun B hB => by have := HK2.out B hB; repeat (first | exact this | apply pw_below_drewN | apply below_drew1)⟩
    · have e : rBool (xs, 0) = (false, xs, 20) := by
        have : xs = [] := by rw [hrest]; exact List.drop_eq_nil_of_le (by omega)
        subst this
        simp [rBool, rNum, rTake, numV]
      rw [e]
      have HF := Aside0.mk (fun (w' : World) (hb : Below W.heap.size W w') => inFail0 20 w' g A c b a xs (H.out.below hb))
      have hd1 : decide ((N : Int) ≤ (a : Int)) = true := decide_eq_true (by omega)
      clear e hrest hN h
      go_enter Try.func94, Try.ntmps94
      go_wp2
      go_quiet (fail)
      go_wp2_with (go_at_call 130; refine (HF.out _ (by repeat (first | exact Below.refl _ _ | apply pw_below_drewN | apply below_drew1))).mono ?_; rintro e w1 ⟨rfl, rfl⟩)
      go_ret
      have hbb : ∀ w1, Below W.heap.size W w1 → IPost W g A c b (.bool false) (xs, 20) (.returned (.bool false)) (w1.setCell ⟨g, 2, none⟩ (.int .i64 20)) := fun w1 hb => by
        obtain ⟨k1, k2⟩ := in_set hb g 2 (.int .i64 20) (blk_lt H.out.blk)
        have h1 := H.out.below hb
        exact ⟨rfl, ⟨a, ⟨h1.le, h1.rest, blk_set h1.blk 2 (.int .i64 20), h1.room, C_set h1.row h1.off, h1.off⟩⟩, k1, k2⟩
      exact hbb _ (by repeat (first | exact Below.refl _ _ | apply pw_below_drewN | apply below_drew1))
  · have h1 : (f == 0) = false := by rw [beq_eq_false_iff_ne]; exact h0
    have h2 : (f != 0) = true := by rw [bne_iff_ne]; exact h0
    have e : rBool (xs, f) = (false, xs, f) := by simp [rBool, rNum, rTake, numV, h0]
    rw [e]
    clear e hrest hN h
    go_enter Try.func94, Try.ntmps94
    go_wp2
    go_ret
    exact ⟨rfl, ⟨a, H.out⟩, KeepBut.refl _ _ _, fun B _ => Below.refl _ _⟩
/-! ### Count, and the list that is read -/
def inCnt (s : List Int × Int) (most : Int) : Int × List Int × Int :=
  if (rNum s 4).2.2 = 0 then (if most < (rNum s 4).1 then (0, s.1, 1) else if ((rNum s 4).2.1.length : Int) < (rNum s 4).1 then (0, s.1, 20) else ((rNum s 4).1, (rNum s 4).2)) else (0, (rNum s 4).2)
def inGets : Nat → List Int × Int → List Int → List Int × List Int × Int
  | 0, s, acc => (acc, s)
  | n + 1, s, acc => if s.2 = 0 then inGets n (rNum s 2).2 (acc ++ [(rNum s 2).1]) else (acc, s)
def inList (s : List Int × Int) (most : Int) : List Int × List Int × Int :=
  let t := inGets (inCnt s most).1.toNat (inCnt s most).2 []
  (if t.2.2 = 0 then t.1 else [], t.2)
theorem inGets_flt (n : Nat) (s : List Int × Int) (acc : List Int) (h : s.2 ≠ 0) : inGets n s acc = (acc, s) := by
  cases n with
  | zero => rfl
  | succ n => unfold inGets; rw [if_neg h]
theorem inGets_is (n : Nat) : ∀ (s : List Int × Int) (acc : List Int), s.2 = 0 → (if (inGets n s acc).2.2 = 0 then (inGets n s acc).1 else [], (inGets n s acc).2) = rGets n s acc := by
  induction n with
  | zero => intro s acc h; unfold inGets rGets; rw [if_pos h]
  | succ n ih =>
    intro s acc h
    unfold inGets rGets
    rw [if_pos h]
    by_cases h1 : (rNum s 2).2.2 = 0
    · rw [if_pos h1]; exact ih _ _ h1
    · rw [if_neg h1, inGets_flt _ _ _ h1, if_neg h1]
theorem rNum_flt (s : List Int × Int) (n : Nat) (h : s.2 ≠ 0) : rNum s n = (0, s) := by
  obtain ⟨xs, f⟩ := s
  dsimp only at h
  simp [rNum, rTake, h, numV]
theorem rNum_same (s : List Int × Int) (n : Nat) (h : (rNum s n).2.2 ≠ 0) : (rNum s n).2.1 = s.1 := by
  have e : (rNum s n).2 = (rTake s n).2 := rfl
  rw [e] at h ⊢
  unfold rTake at h ⊢
  split at h
  · exact absurd rfl h
  · rename_i h1; rw [if_neg h1]
theorem inList_is (s : List Int × Int) (most : Int) : inList s most = rList s most := by
  unfold inList rList inCnt
  by_cases h0 : s.2 = 0
  · rw [if_pos h0]
    by_cases h1 : (rNum s 4).2.2 = 0
    · rw [if_pos h1, if_pos h1]
      by_cases h2 : most < (rNum s 4).1
      · rw [if_pos h2, if_pos h2]; rfl
      · rw [if_neg h2, if_neg h2]
        by_cases h3 : ((rNum s 4).2.1.length : Int) < (rNum s 4).1
        · rw [if_pos h3, if_pos h3]; rfl
        · rw [if_neg h3, if_neg h3]
          exact inGets_is _ _ _ h1
    · rw [if_neg h1, if_neg h1]
      dsimp only
      rw [inGets_flt _ _ _ h1, if_neg h1, ← rNum_same s 4 h1]
  · rw [if_neg h0]
    have h1 : (rNum s 4).2.2 ≠ 0 := by rw [rNum_flt s 4 h0]; exact h0
    rw [if_neg h1]
    dsimp only
    rw [inGets_flt _ _ _ h1, if_neg h1, rNum_flt s 4 h0]
set_option maxHeartbeats 4000000 in
set_option maxRecDepth 100000 in
theorem inCount_is (most : Int) (W : World) (g : Nat) (A : Option Addr) (c : Nat) (b : List Int) (a : Nat) (s : List Int × Int) (h : InAt W g A c b a s) (hl : b.length ≤ 4398046511104) (hw : BytesOk b) :
    Calls Try.prog 97 #[.pointer (some ⟨g, 0, none⟩), .int .i64 most] W (IPost W g A c b (.int .i64 (inCnt s most).1) (inCnt s most).2) := by
  have hu64 := Try.underlying64
  have j1 : W.cell? ⟨g, 1, none⟩ = some (.int .i64 (a : Nat)) := (blk_cell h.blk 1).trans rfl
  have HU := Aside0.mk (inU32_is W g A c b a s h hl hw)
  have H := Aside0.mk h
  have hle := h.le
  obtain ⟨t, ht⟩ : ∃ t, inCnt s most = t := ⟨_, rfl⟩
  rw [ht]
  have HT := Aside0.mk (show (if (rNum s 4).2.2 = 0 then (if most < (rNum s 4).1 then (0, s.1, 1) else if ((rNum s 4).2.1.length : Int) < (rNum s 4).1 then (0, s.1, 20) else ((rNum s 4).1, (rNum s 4).2)) else (0, (rNum s 4).2)) = t from ht)
  have HLX := Aside0.mk h.rest
  generalize (rNum s 4).1 = n at *
  generalize (rNum s 4).2 = s2 at *
  have HL := Aside0.mk hl
  clear h hw hl ht
  go_enter Try.func97, Try.ntmps97
  go_wp2_with fail
  refine HU.out.mono ?_
  rintro e w1 ⟨rfl, ⟨a1, hI⟩, hK, hB⟩
  have HI := Aside0.mk hI
  have HK := Aside0.mk hK
  have HB := Aside0.mk hB
  have hle1 := hI.le
  have y0 : w1.cell? ⟨g, 0, none⟩ = some (.slice A b.length c) := (blk_cell hI.blk 0).trans rfl
  have y1 : w1.cell? ⟨g, 1, none⟩ = some (.int .i64 (a1 : Nat)) := (blk_cell hI.blk 1).trans rfl
  have y2 : w1.cell? ⟨g, 2, none⟩ = some (.int .i64 s2.2) := (blk_cell hI.blk 2).trans rfl
  have hfr : w1.frozen? ⟨g, 1, none⟩ = false := blk_frozen hI.blk 1
  have hsl : s2.1.length = b.length - a1 := by rw [hI.rest, List.length_drop]
  have hl := HL.out
  obtain ⟨N, hN⟩ : ∃ N, b.length = N := ⟨_, rfl⟩
  rw [hN] at y0 hle hle1 hsl hl
  have HN := Aside0.mk hN
  have hbk : ∀ w', Below w1.heap.size w1 w' → InAt (w'.setCell ⟨g, 1, none⟩ (.int .i64 (a : Nat))) g A c b a (s.1, s2.2) := fun w' hb => by
    have h1 := HI.out.below hb
    exact ⟨H.out.le, H.out.rest, blk_set h1.blk 1 _, h1.room, C_set h1.row h1.off, h1.off⟩
  have HBK := Aside0.mk hbk
  have HFL := Aside0.mk (show ∀ (x : Int) w', Below w1.heap.size w1 w' → s2.2 = 0 → IPost W g A c b (.int .i64 0) (s.1, x) (.returned (.int .i64 0)) ((w'.setCell ⟨g, 1, none⟩ (.int .i64 (a : Nat))).setCell ⟨g, 2, none⟩ (.int .i64 x)) from fun x w' hb hz => by
    have h1 := HBK.out w' hb
    refine ⟨rfl, ⟨a, ⟨h1.le, h1.rest, blk_set h1.blk 2 (.int .i64 x), h1.room, C_set h1.row h1.off, h1.off⟩⟩, ?_, fun B hB => ?_⟩
    · have hk1 : KeepBut W w' g none := KeepBut.below HK.out hb
      exact (hk1.set_ 1 _).set_ 2 _
    · exact (((HB.out B hB).trans (hb.mono (by have := blk_lt HI.out.blk; omega))).setCell (p := ⟨g, 1, none⟩) hB _).setCell (p := ⟨g, 2, none⟩) hB _)
  clear hN hI hK hB HU hbk
  by_cases h2 : s2.2 = 0
  · have HT2 := HT.out
    rw [if_pos h2] at HT2
    rw [h2] at y2
    by_cases h3 : most < n
    · rw [if_pos h3] at HT2
      have HF := Aside0.mk (fun (w' : World) (hb : Below w1.heap.size w1 w') => inFail0 1 _ g A c b a s.1 (by have := HBK.out w' hb; rw [h2] at this; exact this))
      have HT3 := Aside0.mk HT2
      clear HT2 HT
      go_wp2_with (go_at_call 130; refine (HF.out _ (by repeat (first | exact Below.refl _ _ | apply pw_below_drewN | apply below_drew1))).mono ?_; rintro e w2 ⟨rfl, rfl⟩)
      go_ret
      rw [← HT3.out]
      exact HFL.out 1 _ (by repeat (first | exact Below.refl _ _ | apply pw_below_drewN | apply below_drew1)) h2
    · rw [if_neg h3] at HT2
      have hs2l := hsl
      by_cases h4 : (s2.1.length : Int) < n
      · rw [if_pos h4] at HT2
        have HF := Aside0.mk (fun (w' : World) (hb : Below w1.heap.size w1 w') => inFail0 20 _ g A c b a s.1 (by have := HBK.out w' hb; rw [h2] at this; exact this))
        have HT3 := Aside0.mk HT2
        have h5 : (N : Int) - (a1 : Int) < n := by omega
        clear HT2 HT hsl hs2l h4
        go_wp2
        go_quiet (fail)
        go_wp2_with (go_at_call 130; refine (HF.out _ (by repeat (first | exact Below.refl _ _ | apply pw_below_drewN | apply below_drew1))).mono ?_; rintro e w2 ⟨rfl, rfl⟩)
        go_ret
        rw [← HT3.out]
        exact HFL.out 20 _ (by repeat (first | exact Below.refl _ _ | apply pw_below_drewN | apply below_drew1)) h2
      · rw [if_neg h4] at HT2
        have HT3 := Aside0.mk HT2
        have h5 : ¬ ((N : Int) - (a1 : Int) < n) := by omega
        clear HT2 HT hsl hs2l h4
        go_wp2
        go_quiet (fail)
        go_wp2
        go_ret
        rw [← HT3.out]
        exact ⟨rfl, ⟨a1, HI.out.below (by repeat (first | exact Below.refl _ _ | apply pw_below_drewN | apply below_drew1))⟩, KeepBut.below HK.out (by repeat (first | exact Below.refl _ _ | apply pw_below_drewN | apply below_drew1)), fun B hB => (HB.out B hB).trans (by repeat (first | exact Below.refl _ _ | apply pw_below_drewN | apply below_drew1))⟩
  · have HT2 := HT.out
    rw [if_neg h2] at HT2
    have HT3 := Aside0.mk HT2
    clear HT2 HT
    have h6 : (s2.2 == 0) = false := by rw [beq_eq_false_iff_ne]; exact h2
    go_wp2
    go_ret
    rw [← HT3.out]
    exact ⟨rfl, ⟨a1, HI.out⟩, HK.out, HB.out⟩
end Go.Proofs.Ytceeoifbimlkdaa.B
