/- Proved: the contracts of a Reader's calls at any fault: what is read is the next bytes, the first fault sticks. Conditions: what lies there are bytes. -/
import Derived.Test.YtceeoifbimlkdaaHReader
import Derived.Test.YtceeoifbimlkdaaHWrF
namespace Go.Proofs.Ytceeoifbimlkdaa.B
open Go.RowKit Go.Proofs.YtceeoifbimlkdaaW.PrintWords Go.Proofs.YtceeoifbimlkdaaW.PrintLast Go.Proofs.YtceeoifbimlkdaaW.PrintMore

/-! ### The Reader's state by itself -/
def rTake (s : List Int × Int) (n : Int) : List Int × List Int × Int := if s.2 = 0 ∧ 0 ≤ n ∧ n ≤ s.1.length then (s.1.take n.toNat, s.1.drop n.toNat, 0) else ([], s.1, if s.2 = 0 then 20 else s.2)
def rNum (s : List Int × Int) (n : Nat) : Int × List Int × Int := (numV (rTake s n).1, (rTake s n).2)
def rBool (s : List Int × Int) : Bool × List Int × Int := if s.2 = 0 ∧ 1 < s.1.headD 0 then (false, s.1, 20) else ((rNum s 1).1 == 1, (rNum s 1).2)
def rLeftF (s : List Int × Int) : Int := if s.2 = 0 ∧ 0 < s.1.length then 20 else s.2
theorem rTake_ok (s : List Int × Int) (n : Int) (hs : BytesOk s.1) : BytesOk (rTake s n).1 ∧ BytesOk (rTake s n).2.1 := by
  unfold rTake
  split
  · exact ⟨fun x h => hs x (List.mem_of_mem_take h), fun x h => hs x (List.mem_of_mem_drop h)⟩
  · exact ⟨fun x h => (by cases h), hs⟩
theorem rTake_len (s : List Int × Int) (n : Int) : (rTake s n).2.1.length ≤ s.1.length ∧ (rTake s n).1.length ≤ s.1.length := by
  unfold rTake
  split
  · simp; omega
  · simp
theorem rNum_bd (s : List Int × Int) (n : Nat) (hs : BytesOk s.1) : 0 ≤ (rNum s n).1 ∧ (rNum s n).1 < 256 ^ n := by
  show 0 ≤ numV (rTake s n).1 ∧ numV (rTake s n).1 < 256 ^ n
  unfold rTake
  split
  · rename_i h
    exact numV_bd s.1 hs n (by omega)
  · exact ⟨Int.le_refl 0, Int.pow_pos (by decide)⟩

/-- A row that is cut lies in the block in which it lay. -/
def BlkOf (A2 A : Option Addr) : Prop := ∀ ad2, A2 = some ad2 → ∃ ad, A = some ad ∧ ad2.block = ad.block
theorem BlkOf.refl (A : Option Addr) : BlkOf A A := fun ad h => ⟨ad, h, rfl⟩
theorem BlkOf.trans {A B C : Option Addr} (h : BlkOf B A) (k : BlkOf C B) : BlkOf C A := fun ad e => by
  obtain ⟨b, e1, e2⟩ := k ad e
  obtain ⟨a, e3, e4⟩ := h b e1
  exact ⟨a, e3, e2.trans e4⟩
/-- What a Reader's call leaves. -/
def RPost (W : World) (g : Nat) (A : Option Addr) (val : Value) (s' : List Int × Int) (e : Ending) (w' : World) : Prop :=
  e = .returned val ∧ (∃ A2 c2, RdAt w' g A2 c2 s'.1 s'.2 ∧ BlkOf A2 A) ∧ KeepBut W w' g none ∧ (∀ B, B ≤ g → Below B W w')

set_option maxHeartbeats 4000000 in
set_option maxRecDepth 100000 in
theorem take_ok (W : World) (g : Nat) (A : Option Addr) (c : Nat) (xs : List Int) (n : Nat) (hr : RdAt W g A c xs 0) (hn : n ≤ xs.length) :
    Calls Try.prog 116 #[.pointer (some ⟨g, 0, none⟩), .int .i64 (n : Nat)] W fun e w' =>
      RPost W g A (.slice A n n) (xs.drop n, 0) e w' ∧ Kd.C (Kd.int .u8) w' A (xs.take n).length (xs.take n) := by
  obtain ⟨A2, hA2⟩ : ∃ A2, (if c = n then A else A.map (·.add (n * 1))) = A2 := ⟨_, rfl⟩
  have hmx : xs.length ≤ 9223372036854775807 := Kd.C_max hr.row
  have HR := Aside0.mk hr
  have j0 := (blk_cell hr.blk 0).trans rfl
  have j1 := (blk_cell hr.blk 1).trans rfl
  have jf := blk_frozen hr.blk 0
  have hu106 := Try.underlying106
  obtain ⟨i0, hi0, _, hsz, _⟩ := info_parts infoU8
  have hcut1 := cut_tom (P := Try.prog) 37 5 .i64 .i64 Try.underlying37 hi0 A xs.length c (n : Int) (by omega) (by omega) hr.room
  have hcut2 := cut_from (P := Try.prog) 37 5 .i64 Try.underlying37 hi0 1 hsz A xs.length c (n : Int) (by omega) (by omega)
  rw [Int.toNat_natCast] at hcut1 hcut2
  rw [hA2] at hcut2
  have HA2 := Aside0.mk hA2
  clear hA2
  have hd1 : decide (xs.length < n) = false := decide_eq_false (by omega)
  have hd0 : decide ((n : Int) < 0) = false := decide_eq_false (by omega)
  have hno : ¬ ((n : Int) < 0 ∨ xs.length < n) := by omega
  have HN := Aside0.mk hn
  clear hr hi0 hsz hn
  go_enter Try.func116, Try.ntmps116
  go_wp2
  go_ret
  have hr := HR.out
  have hn := HN.out
  have hk : KeepBut W (W.setCell ⟨g, 0, none⟩ (.slice A2 (xs.length - n) (c - n))) g none := (KeepBut.refl W g none).set_ 0 _
  have hcd := Kd.C_drop hr.row hn hr.room
  have hA2 := HA2.out
  have hblk : BlkOf A2 A := fun ad h => by
    rw [← hA2] at h
    split at h
    · exact ⟨ad, h, rfl⟩
    · cases A with
      | none => cases h
      | some a => cases h; exact ⟨a, rfl, add_block _ _⟩
  have hoff : ∀ ad, A2 = some ad → ad.block ≠ g := fun ad h => by
    obtain ⟨a, e1, e2⟩ := hblk ad h
    rw [e2]; exact hr.off a e1
  have hcd2 : Kd.C (Kd.int .u8) W A2 (xs.drop n).length (xs.drop n) := by rw [← hA2]; exact hcd
  refine ⟨⟨rfl, ⟨A2, c - n, ⟨?_, ?_, ?_, hoff⟩, hblk⟩, hk, fun B hB => (Below.refl B W).setCell (p := ⟨g, 0, none⟩) hB _⟩, ?_⟩
  · rw [List.length_drop]; exact blk_put hr.blk 0 _ rfl
  · rw [List.length_drop]; have := hr.room; omega
  · exact Kd.C_keep (0 : Int) (h1 := fun _ => rfl) hcd2 hk fun ad h _ => hoff ad h
  · exact Kd.C_keep (0 : Int) (h1 := fun _ => rfl) (Kd.C_take hr.row hn) hk fun ad h _ => hr.off ad h

set_option maxHeartbeats 4000000 in
set_option maxRecDepth 100000 in
theorem take_flt (W : World) (g : Nat) (A : Option Addr) (c : Nat) (s : List Int × Int) (n : Int) (hr : RdAt W g A c s.1 s.2) (hn : ¬ (s.2 = 0 ∧ 0 ≤ n ∧ n ≤ s.1.length)) :
    Calls Try.prog 116 #[.pointer (some ⟨g, 0, none⟩), .int .i64 n] W (RPost W g A (.slice none 0 0) (s.1, if s.2 = 0 then 20 else s.2)) := by
  obtain ⟨xs, f⟩ := s
  dsimp only at hr hn ⊢
  have HR := Aside0.mk hr
  have j0 := (blk_cell hr.blk 0).trans rfl
  have j1 := (blk_cell hr.blk 1).trans rfl
  have jf := blk_frozen hr.blk 1
  have hu106 := Try.underlying106
  clear hr
  by_cases hf : f = 0
  · subst hf
    have fin : ∀ w', w' = W.setCell ⟨g, 1, none⟩ (.int .i64 20) → (∃ A2 c2, RdAt w' g A2 c2 xs 20 ∧ BlkOf A2 A) ∧ KeepBut W w' g none ∧ (∀ B, B ≤ g → Below B W w') := fun w' hw => by
      have hr := HR.out
      have hk : KeepBut W w' g none := by rw [hw]; exact (KeepBut.refl W g none).set_ 1 _
      refine ⟨⟨A, c, ⟨by rw [hw]; exact blk_put hr.blk 1 _ rfl, hr.room, Kd.C_keep (0 : Int) (h1 := fun _ => rfl) hr.row hk fun ad h _ => hr.off ad h, hr.off⟩, BlkOf.refl A⟩, hk, fun B hB => by rw [hw]; exact (Below.refl B W).setCell (p := ⟨g, 1, none⟩) hB _⟩
    have FIN := Aside0.mk fin
    clear fin
    obtain ⟨N, hN⟩ : ∃ N, xs.length = N := ⟨_, rfl⟩
    rw [hN] at hn j0
    clear hN
    by_cases h0 : n < 0
    · have d0 : decide (n < 0) = true := decide_eq_true h0
      clear hn
      go_enter Try.func116, Try.ntmps116
      go_wp2
      repeat (go_quiet (fail); try go_wp2)
      go_ret
      exact ⟨rfl, FIN.out _ rfl⟩
    · have d0 : decide (n < 0) = false := decide_eq_false h0
      have h1 : (N : Int) < n := by omega
      have d1 : decide ((N : Int) < n) = true := decide_eq_true h1
      clear hn
      go_enter Try.func116, Try.ntmps116
      go_wp2
      repeat (go_quiet (fail); try go_wp2)
      go_ret
      exact ⟨rfl, FIN.out _ rfl⟩
  · rw [if_neg hf]
    have h1 : (f == 0) = false := by rw [beq_eq_false_iff_ne]; exact hf
    have h2 : (f != 0) = true := by rw [bne_iff_ne]; exact hf
    clear hn
    go_enter Try.func116, Try.ntmps116
    go_wp2
    repeat (go_quiet (fail); try go_wp2)
    go_ret
    exact ⟨rfl, ⟨A, c, HR.out, BlkOf.refl A⟩, KeepBut.refl _ _ _, fun B _ => Below.refl _ _⟩

set_option maxHeartbeats 4000000 in
set_option maxRecDepth 100000 in
theorem rnumber_ok (W : World) (g : Nat) (A : Option Addr) (c : Nat) (xs : List Int) (n : Nat) (hr : RdAt W g A c xs 0) (hn : n ≤ xs.length) (h8 : n ≤ 8) (hw : BytesOk xs) :
    Calls Try.prog 115 #[.pointer (some ⟨g, 0, none⟩), .int .i64 (n : Nat)] W (RPost W g A (.int .u64 (numV (xs.take n))) (xs.drop n, 0)) := by
  have HT := Aside0.mk (take_ok W g A c xs n hr hn)
  obtain ⟨ys, hys⟩ : ∃ ys, xs.take n = ys := ⟨_, rfl⟩
  have hyl : ys.length = n := by rw [← hys, List.length_take]; omega
  have hyw : ∀ x ∈ ys, 0 ≤ x ∧ x < 256 := fun x hx => hw x (by rw [← hys] at hx; exact List.mem_of_mem_take hx)
  obtain ⟨zs, hzs⟩ : ∃ zs, xs.drop n = zs := ⟨_, rfl⟩
  rw [hys, hzs] at HT
  rw [hys, hzs]
  have HY := Aside0.mk hyl
  have HYW := Aside0.mk hyw
  clear hr hn hw hys hyl hyw hzs
  go_enter Try.func115, Try.ntmps115
  go_wp2_with (go_at_call 116; refine HT.out.mono ?_; rintro e w1 ⟨⟨rfl, hrd, hK, hB⟩, hC⟩; have HRD := Aside0.mk hrd; have HC := Aside0.mk hC; have HK := Aside0.mk hK; have HB := Aside0.mk hB; clear hrd hC hK hB)
  go_loop [5, 12] (fun x i => ∃ k : Nat, k ≤ n ∧ i = .int .i64 k ∧ x = .int .u64 (numV (ys.take k))) (fun _ i => n - (intOf i).toNat)
  case atStart => exact ⟨0, Nat.zero_le _, rfl, rfl⟩
  case round =>
    obtain ⟨k, hk, rfl, rfl⟩ := hrel
    by_cases hlt : k < n
    · have hyl := HY.out
      obtain ⟨ad, e, hx⟩ := Kd.at_int HC.out (k : Int) (by omega) (by omega)
      cases e
      rw [Int.toNat_natCast] at hx
      have hbd := numV_bd ys HYW.out k (by omega)
      have hxb := HYW.out (ys[k]'(by omega)) (List.getElem_mem _)
      have e2 : rd ys (k : Int) = ys[k]'(by omega) := by simp [rd, List.getD_eq_getElem?_getD, show k < ys.length by omega]
      rw [e2] at hx
      have hs : numV (ys.take (k + 1)) = numV (ys.take k) * 256 + ys[k]'(by omega) := by rw [List.take_succ_eq_append_getElem (by omega), numV_snoc]
      have HS := Aside0.mk hs
      generalize numV (ys.take k) = X at *
      generalize (ys[k]'(by omega)) = C at *
      clear hs e2 hyl
      go_wp2
      go_round
      case rel =>
        refine ⟨k + 1, by omega, by go_num, ?_⟩
        rw [HS.out]
        have hp := pow256 k (by omega)
        rw [IntWalk.u64_in (X * 256) (by omega), u64_join X _ hbd.1 (by omega) hxb.1 hxb.2]
      case measure => simp [intOf]; omega
    · obtain rfl : k = n := by omega
      go_wp2
      go_ret
      rw [List.take_of_length_le (by have := HY.out; omega)]
      exact ⟨rfl, HRD.out, HK.out, HB.out⟩

set_option maxHeartbeats 4000000 in
set_option maxRecDepth 100000 in
theorem rnumber_any (W : World) (g : Nat) (A : Option Addr) (c : Nat) (s : List Int × Int) (n : Nat) (hr : RdAt W g A c s.1 s.2) (h8 : n ≤ 8) (hw : BytesOk s.1) :
    Calls Try.prog 115 #[.pointer (some ⟨g, 0, none⟩), .int .i64 (n : Nat)] W (RPost W g A (.int .u64 (rNum s n).1) (rNum s n).2) := by
  by_cases h : s.2 = 0 ∧ 0 ≤ (n : Int) ∧ (n : Int) ≤ s.1.length
  · have e : rTake s n = (s.1.take n, s.1.drop n, 0) := by unfold rTake; rw [if_pos h, Int.toNat_natCast]
    unfold rNum
    rw [e]
    obtain ⟨xs, f⟩ := s
    obtain ⟨hf, h1, h2⟩ := h
    dsimp only at hf h2 hr hw ⊢
    subst hf
    exact rnumber_ok W g A c xs n hr (by omega) h8 hw
  · have e : rTake s n = ([], s.1, if s.2 = 0 then 20 else s.2) := by unfold rTake; rw [if_neg h]
    have HT := Aside0.mk (take_flt W g A c s n hr h)
    unfold rNum
    rw [e]
    clear hr hw e h
    dsimp only
    generalize (s.1, if s.2 = 0 then (20 : Int) else s.2) = s' at *
    show Calls _ _ _ _ (RPost W g A (.int .u64 0) s')
    go_enter Try.func115, Try.ntmps115
    go_wp2_with (go_at_call 116; refine HT.out.mono ?_; rintro e w1 ⟨rfl, hrd, hK, hB⟩; have HRD := Aside0.mk hrd; have HK := Aside0.mk hK; have HB := Aside0.mk hB; clear hrd hK hB)
    go_loop [5, 12] (fun x i => i = .int .i64 0 ∧ x = .int .u64 0) (fun _ i => (intOf i).toNat)
    case atStart => exact ⟨rfl, rfl⟩
    case round =>
      obtain ⟨rfl, rfl⟩ := hrel
      go_wp2
      go_ret
      exact ⟨rfl, HRD.out, HK.out, HB.out⟩

set_option maxHeartbeats 4000000 in
theorem rU8_any (W : World) (g : Nat) (A : Option Addr) (c : Nat) (s : List Int × Int) (hr : RdAt W g A c s.1 s.2) (hw : BytesOk s.1) :
    Calls Try.prog 50 #[.pointer (some ⟨g, 0, none⟩)] W (RPost W g A (.int .i64 (rNum s 1).1) (rNum s 1).2) := by
  have HN := Aside0.mk (rnumber_any W g A c s 1 hr (by omega) hw)
  have hbd := rNum_bd s 1 hw
  have hq : IntKind.i64.wrap (rNum s 1).1 = (rNum s 1).1 := IntWalk.i64_in _ (by omega)
  generalize (rNum s 1).1 = X at *
  generalize (rNum s 1).2 = s' at *
  rw [show ((1 : Nat) : Int) = 1 from rfl] at HN
  clear hr hw
  go_enter Try.func50, Try.ntmps50
  go_wp2_with (go_at_call 115; refine HN.out.mono ?_; rintro e w' ⟨rfl, h1, h2, h3⟩)
  go_ret
  exact ⟨by first | rfl | (simp [hq]; done), h1, h2, h3⟩
set_option maxHeartbeats 4000000 in
theorem rU16_any (W : World) (g : Nat) (A : Option Addr) (c : Nat) (s : List Int × Int) (hr : RdAt W g A c s.1 s.2) (hw : BytesOk s.1) :
    Calls Try.prog 51 #[.pointer (some ⟨g, 0, none⟩)] W (RPost W g A (.int .i64 (rNum s 2).1) (rNum s 2).2) := by
  have HN := Aside0.mk (rnumber_any W g A c s 2 hr (by omega) hw)
  have hbd := rNum_bd s 2 hw
  have hq : IntKind.i64.wrap (rNum s 2).1 = (rNum s 2).1 := IntWalk.i64_in _ (by omega)
  generalize (rNum s 2).1 = X at *
  generalize (rNum s 2).2 = s' at *
  rw [show ((2 : Nat) : Int) = 2 from rfl] at HN
  clear hr hw
  go_enter Try.func51, Try.ntmps51
  go_wp2_with (go_at_call 115; refine HN.out.mono ?_; rintro e w' ⟨rfl, h1, h2, h3⟩)
  go_ret
  exact ⟨by first | rfl | (simp [hq]; done), h1, h2, h3⟩
set_option maxHeartbeats 4000000 in
theorem rU32_any (W : World) (g : Nat) (A : Option Addr) (c : Nat) (s : List Int × Int) (hr : RdAt W g A c s.1 s.2) (hw : BytesOk s.1) :
    Calls Try.prog 52 #[.pointer (some ⟨g, 0, none⟩)] W (RPost W g A (.int .i64 (rNum s 4).1) (rNum s 4).2) := by
  have HN := Aside0.mk (rnumber_any W g A c s 4 hr (by omega) hw)
  have hbd := rNum_bd s 4 hw
  have hq : IntKind.i64.wrap (rNum s 4).1 = (rNum s 4).1 := IntWalk.i64_in _ (by omega)
  generalize (rNum s 4).1 = X at *
  generalize (rNum s 4).2 = s' at *
  rw [show ((4 : Nat) : Int) = 4 from rfl] at HN
  clear hr hw
  go_enter Try.func52, Try.ntmps52
  go_wp2_with (go_at_call 115; refine HN.out.mono ?_; rintro e w' ⟨rfl, h1, h2, h3⟩)
  go_ret
  exact ⟨by first | rfl | (simp [hq]; done), h1, h2, h3⟩
set_option maxHeartbeats 4000000 in
theorem rI64_any (W : World) (g : Nat) (A : Option Addr) (c : Nat) (s : List Int × Int) (hr : RdAt W g A c s.1 s.2) (hw : BytesOk s.1) :
    Calls Try.prog 53 #[.pointer (some ⟨g, 0, none⟩)] W (RPost W g A (.int .i64 (wrap64 (rNum s 8).1)) (rNum s 8).2) := by
  have HN := Aside0.mk (rnumber_any W g A c s 8 hr (by omega) hw)
  obtain ⟨X, hX⟩ : ∃ X, (rNum s 8).1 = X := ⟨_, rfl⟩
  obtain ⟨Y, hY⟩ : ∃ Y, wrap64 X = Y := ⟨_, rfl⟩
  rw [hX] at HN ⊢
  rw [hY]
  generalize (rNum s 8).2 = s' at *
  rw [show ((8 : Nat) : Int) = 8 from rfl] at HN
  clear hr hw hX
  have HY := Aside0.mk hY
  clear hY
  go_enter Try.func53, Try.ntmps53
  go_wp2_with (go_at_call 115; refine HN.out.mono ?_; rintro e w' ⟨rfl, h1, h2, h3⟩)
  go_ret
  rw [← HY.out]
  exact ⟨by first | rfl | (simp; done), h1, h2, h3⟩
set_option maxHeartbeats 4000000 in
theorem rDone_any (W : World) (g : Nat) (A : Option Addr) (c : Nat) (s : List Int × Int) (hr : RdAt W g A c s.1 s.2) :
    Calls Try.prog 41 #[.pointer (some ⟨g, 0, none⟩)] W fun e w' => e = .returned (.int .i64 (rLeftF s)) ∧ W = w' := by
  obtain ⟨xs, f⟩ := s
  by_cases hf : f = 0
  · subst hf
    have h : rLeftF (xs, 0) = if xs = [] then 0 else 20 := by
      unfold rLeftF
      cases xs with
      | nil => simp
      | cons x l => simp
    rw [h]
    exact rDone_is W g A c xs hr
  · have h : rLeftF (xs, f) = f := by unfold rLeftF; rw [if_neg (fun h => hf h.1)]
    rw [h]
    dsimp only at hr
    have j0 := (blk_cell hr.blk 0).trans rfl
    have j1 := (blk_cell hr.blk 1).trans rfl
    have hu106 := Try.underlying106
    have h1 : (f == 0) = false := by rw [beq_eq_false_iff_ne]; exact hf
    have h2 : (f != 0) = true := by rw [bne_iff_ne]; exact hf
    obtain ⟨N, hN⟩ : ∃ N, xs.length = N := ⟨_, rfl⟩
    rw [hN] at j0
    clear hr hN h
    go_enter Try.func41, Try.ntmps41
    go_wp2
    repeat (go_quiet (fail); try go_wp2)
    go_ret
    exact ⟨rfl, rfl⟩
set_option maxHeartbeats 4000000 in
set_option maxRecDepth 100000 in
theorem rBool_any (W : World) (g : Nat) (A : Option Addr) (c : Nat) (s : List Int × Int) (hr : RdAt W g A c s.1 s.2) (hw : BytesOk s.1) :
    Calls Try.prog 54 #[.pointer (some ⟨g, 0, none⟩)] W (RPost W g A (.bool (rBool s).1) (rBool s).2) := by
  obtain ⟨xs, f⟩ := s
  dsimp only at hr hw
  by_cases hf : f = 0
  · subst hf
    cases xs with
    | nil =>
      have HN := Aside0.mk (rnumber_any W g A c ([], 0) 1 hr (by omega) hw)
      have e : rBool (([], 0) : List Int × Int) = (false, [], 20) := by simp [rBool, rNum, rTake, numV]
      have e2 : rNum (([], 0) : List Int × Int) 1 = (0, [], 20) := by simp [rNum, rTake, numV]
      rw [e]
      rw [e2, show ((1 : Nat) : Int) = 1 from rfl] at HN
      have j0 := (blk_cell hr.blk 0).trans rfl
      have j1 := (blk_cell hr.blk 1).trans rfl
      have hu106 := Try.underlying106
      have d1 : decide (0 < ([] : List Int).length) = false := rfl
      clear hr hw e e2
      go_enter Try.func54, Try.ntmps54
      go_wp2_with (go_at_call 115; refine HN.out.mono ?_; rintro e w' ⟨rfl, h1, h2, h3⟩)
      go_ret
      exact ⟨rfl, h1, h2, h3⟩
    | cons x xs =>
      have hx := hw x (List.mem_cons_self ..)
      have j0 := (blk_cell hr.blk 0).trans rfl
      have j1 := (blk_cell hr.blk 1).trans rfl
      have jf := blk_frozen hr.blk 1
      have hu106 := Try.underlying106
      obtain ⟨ad, e, hc⟩ := Kd.at_int hr.row 0 (by omega) (by simp)
      cases e
      have hc0 : W.cell? ad = some (.int .u8 x) := by
        have e0 : ad.add 0 = ad := by cases ad; simp [Addr.add]
        have h : W.cell? (ad.add 0) = some (.int .u8 x) := hc
        rwa [e0] at h
      obtain ⟨n, hn⟩ : ∃ n, (x :: xs).length = n := ⟨_, rfl⟩
      have hn1 : 1 ≤ n := by rw [← hn]; simp
      have hd1 : decide (0 < n) = true := decide_eq_true (by omega)
      by_cases hb : 1 < x
      · have hk : KeepBut W (W.setCell ⟨g, 1, none⟩ (.int .i64 20)) g none := (KeepBut.refl W g none).set_ 1 _
        have HR2 : RdAt (W.setCell ⟨g, 1, none⟩ (.int .i64 20)) g (some ad) c (x :: xs) 20 := ⟨blk_put hr.blk 1 _ rfl, hr.room, Kd.C_keep (0 : Int) (h1 := fun _ => rfl) hr.row hk fun ad h _ => hr.off ad h, hr.off⟩
        have HN := Aside0.mk (rnumber_any (W.setCell ⟨g, 1, none⟩ (.int .i64 20)) g (some ad) c (x :: xs, 20) 1 HR2 (by omega) hw)
        have e : rBool ((x :: xs, 0) : List Int × Int) = (false, x :: xs, 20) := by simp [rBool, hb]
        have e2 : rNum ((x :: xs, 20) : List Int × Int) 1 = (0, x :: xs, 20) := by simp [rNum, rTake, numV]
        rw [e]
        rw [e2, show ((1 : Nat) : Int) = 1 from rfl] at HN
        rw [hn] at j0
        have hd2 : decide (1 < x) = true := decide_eq_true hb
        have HK := Aside0.mk hk
        clear hr hw e e2 hc hn HR2 hk
        go_enter Try.func54, Try.ntmps54
        go_wp2_with (go_at_call 115; refine HN.out.mono ?_; rintro e w' ⟨rfl, h1, h2, h3⟩)
        go_ret
        exact ⟨rfl, h1, HK.out.trans h2 (.inl rfl), fun B hB => ((Below.refl B W).setCell (p := ⟨g, 1, none⟩) hB _).trans (h3 B hB)⟩
      · have HN := Aside0.mk (rnumber_any W g (some ad) c (x :: xs, 0) 1 hr (by omega) hw)
        have e : rBool ((x :: xs, 0) : List Int × Int) = ((rNum (x :: xs, 0) 1).1 == 1, (rNum (x :: xs, 0) 1).2) := by unfold rBool; rw [if_neg (fun h => hb h.2)]
        rw [e]
        rw [show ((1 : Nat) : Int) = 1 from rfl] at HN
        generalize (rNum (x :: xs, 0) 1).1 = X at *
        generalize (rNum (x :: xs, 0) 1).2 = s' at *
        rw [hn] at j0
        have hd2 : decide (1 < x) = false := decide_eq_false hb
        clear hr hw e hc hn
        go_enter Try.func54, Try.ntmps54
        go_wp2_with (go_at_call 115; refine HN.out.mono ?_; rintro e w' ⟨rfl, h1, h2, h3⟩)
        go_ret
        exact ⟨rfl, h1, h2, h3⟩
  · have HN := Aside0.mk (rnumber_any W g A c (xs, f) 1 hr (by omega) hw)
    have e : rBool (xs, f) = ((rNum (xs, f) 1).1 == 1, (rNum (xs, f) 1).2) := by unfold rBool; rw [if_neg (fun h => hf h.1)]
    rw [e]
    rw [show ((1 : Nat) : Int) = 1 from rfl] at HN
    have j0 := (blk_cell hr.blk 0).trans rfl
    have j1 := (blk_cell hr.blk 1).trans rfl
    have hu106 := Try.underlying106
    have h1 : (f == 0) = false := by rw [beq_eq_false_iff_ne]; exact hf
    generalize (rNum (xs, f) 1).1 = X at *
    generalize (rNum (xs, f) 1).2 = s' at *
    obtain ⟨N, hN⟩ : ∃ N, xs.length = N := ⟨_, rfl⟩
    rw [hN] at j0
    clear hr hN e
    go_enter Try.func54, Try.ntmps54
    go_wp2_with (go_at_call 115; refine HN.out.mono ?_; rintro e w' ⟨rfl, h1, h2, h3⟩)
    go_ret
    exact ⟨rfl, h1, h2, h3⟩
/-- What Bytes reads is a new row. -/
def RBPost (W : World) (g : Nat) (A : Option Addr) (bs : List Int) (s' : List Int × Int) (e : Ending) (w' : World) : Prop :=
  ∃ v, e = .returned v ∧ Kd.R (Kd.int .u8) 5 w' W.heap.size (fun _ => True) v bs ∧ (∃ A2 c2, RdAt w' g A2 c2 s'.1 s'.2 ∧ BlkOf A2 A) ∧ KeepBut W w' g none ∧ (∀ B, B ≤ g → Below B W w')
theorem RdAt.belowF {W W' : World} {g : Nat} {A : Option Addr} {c : Nat} {xs : List Int} {f : Int} (h : RdAt W g A c xs f) (hb : Below W.heap.size W W') : RdAt W' g A c xs f :=
  ⟨(hb.block g (blk_lt h.blk)).trans h.blk, h.room, Kd.C_below h.row hb, h.off⟩
set_option maxHeartbeats 4000000 in
theorem rBytes_any (W : World) (g : Nat) (A : Option Addr) (c : Nat) (s : List Int × Int) (n : Int) (hr : RdAt W g A c s.1 s.2) (hg : g < W.heap.size) (hl : s.1.length < 140737488355328) :
    Calls Try.prog 55 #[.pointer (some ⟨g, 0, none⟩), .int .i64 n] W (RBPost W g A (rTake s n).1 (rTake s n).2) := by
  by_cases h : s.2 = 0 ∧ 0 ≤ n ∧ n ≤ s.1.length
  · have e : rTake s n = (s.1.take n.toNat, s.1.drop n.toNat, 0) := by unfold rTake; rw [if_pos h]
    rw [e]
    obtain ⟨xs, f⟩ := s
    obtain ⟨hf, h1, h2⟩ := h
    dsimp only at hf h2 hr hl ⊢
    subst hf
    obtain ⟨N, rfl⟩ : ∃ N : Nat, n = (N : Int) := ⟨n.toNat, by omega⟩
    rw [Int.toNat_natCast]
    have HT := Aside0.mk (take_ok W g A c xs N hr (by omega))
    obtain ⟨ys, hys⟩ : ∃ ys, xs.take N = ys := ⟨_, rfl⟩
    have hyl : ys.length = N := by rw [← hys, List.length_take]; omega
    have hyb : ys.length < 140737488355328 := by omega
    rw [hys] at HT ⊢
    have HYB := Aside0.mk hyb
    have HYL := Aside0.mk hyl
    clear hr hys hyl hyb e hl h2 h1
    go_enter Try.func55, Try.ntmps55
    go_wp2_with (first
      | (go_at_call 116; refine HT.out.mono ?_; rintro e w1 ⟨⟨rfl, ⟨A2, c2, hrd, hbk⟩, hK, hB⟩, hC⟩; have HBK := Aside0.mk hbk; have HRD := Aside0.mk hrd; have HC := Aside0.mk hC; have HK := Aside0.mk hK; have HB := Aside0.mk hB; clear hrd hC hK hB hbk)
      | (go_at_call 66; refine (show Calls Try.prog 66 #[.slice A N N] w1 (fun e w' => ∃ v0_ : Value, e = .returned v0_ ∧ Kd.R (Kd.int .u8) 5 w' w1.heap.size (fun _ => True) v0_ ys ∧ Below w1.heap.size w1 w') from by rw [← HYL.out]; exact bytes_Clone.calls A _ ys ys w1 HC.out (Nat.le_refl _) (by unfold bytes_Clone.f; rw [if_pos (by simpa using HYB.out)])).mono ?_; rintro e w2 ⟨v2, rfl, hR, hB2⟩; have HR2 := Aside0.mk hR; have HB2 := Aside0.mk hB2; clear hR hB2))
    go_ret
    exact ⟨v2, rfl, Kd.R_lower HR2.out HK.out.1, ⟨A2, _, HRD.out.belowF HB2.out, HBK.out⟩, HK.out.trans (KeepBut.of_below HB2.out g none) (.inl rfl), fun B hB => (HB.out B hB).trans (HB2.out.mono (by have := HK.out.1; omega))⟩
  · have e : rTake s n = ([], s.1, if s.2 = 0 then 20 else s.2) := by unfold rTake; rw [if_neg h]
    have HT := Aside0.mk (take_flt W g A c s n hr h)
    rw [e]
    clear hr e h hl
    dsimp only
    generalize (s.1, if s.2 = 0 then (20 : Int) else s.2) = s' at *
    go_enter Try.func55, Try.ntmps55
    go_wp2_with (first
      | (go_at_call 116; refine HT.out.mono ?_; rintro e w1 ⟨rfl, ⟨A2, c2, hrd, hbk⟩, hK, hB⟩; have HBK := Aside0.mk hbk; have HRD := Aside0.mk hrd; have HK := Aside0.mk hK; have HB := Aside0.mk hB; clear hrd hK hB hbk)
      | (go_at_call 66; refine (bytes_Clone.calls none 0 [] [] w1 (Kd.C_nil _ _) (Nat.le_refl _) (by unfold bytes_Clone.f; rw [if_pos (by simp)])).mono ?_; rintro e w2 ⟨v2, rfl, hR, hB2⟩; have HR2 := Aside0.mk hR; have HB2 := Aside0.mk hB2; clear hR hB2))
    go_ret
    exact ⟨v2, rfl, Kd.R_lower HR2.out HK.out.1, ⟨A2, c2, HRD.out.belowF HB2.out, HBK.out⟩, HK.out.trans (KeepBut.of_below HB2.out g none) (.inl rfl), fun B hB => (HB.out B hB).trans (HB2.out.mono (by have := HK.out.1; omega))⟩
end Go.Proofs.Ytceeoifbimlkdaa.B
