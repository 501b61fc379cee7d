/- Proved: the contract of codec.GetList of numbers of two bytes, at any state of the Reader. Conditions: what lies there are bytes; the Reader's row lies below the heap's end. -/
import Derived.Test.YtceeoifbimlkdaaHRdF
namespace Go.Proofs.Ytceeoifbimlkdaa.B
open Go.RowKit Go.Proofs.YtceeoifbimlkdaaW.PrintWords Go.Proofs.YtceeoifbimlkdaaW.PrintLast Go.Proofs.YtceeoifbimlkdaaW.PrintMore

theorem infoInt : (Try.prog.info? 3).map (fun i => (i.zero, i.size, i.bytes)) = some (some (.int .i64 0), 1, 8) := by kernel_rfl
theorem c_blk {k : IntKind} {W W' : World} {A : Option Addr} {n : Nat} {xs : List Int} (h : (Kd.int k).C W A n xs) (hb : ∀ ad, A = some ad → W'.heap[ad.block]? = W.heap[ad.block]?) : (Kd.int k).C W' A n xs := by
  have h1 := Kd.reads_of_C (d := (0 : Int)) h
  refine Kd.C_of_reads (d := (0 : Int)) ⟨h1.1, h1.2.1, fun hn => ?_⟩
  obtain ⟨ad, e, hc⟩ := h1.2.2 hn
  exact ⟨ad, e, fun j hj => (World.cell?_of_block (w := W) (by rw [add_block]; exact hb ad e)).trans (hc j hj)⟩
theorem RdAt.lowF {W W' : World} {g : Nat} {A : Option Addr} {c : Nat} {xs : List Int} {f : Int} (h : RdAt W g A c xs f) (hk : ∀ k, (k = g ∨ ∃ ad, A = some ad ∧ ad.block = k) → W'.heap[k]? = W.heap[k]?) : RdAt W' g A c xs f :=
  ⟨(hk g (.inl rfl)).trans h.blk, h.room, c_blk h.row fun ad e => hk _ (.inr ⟨ad, e, rfl⟩), h.off⟩
/-- A row of numbers lies on where its block does. -/
theorem rowI_kept {W W2 : World} {base e : Nat} {v : Value} {xs : List Int} (h : Kd.R (Kd.int .i64) e W base (fun _ => True) v xs) (hk : ∀ k, v.ownBlock = some k → W2.heap[k]? = W.heap[k]?) : Kd.R (Kd.int .i64) e W2 base (fun _ => True) v xs := by
  refine Kd.R_of_own (h1 := fun _ => rfl) ?_ (fun _ _ => trivial)
  obtain ⟨h0, h1 | ⟨b, cap, cur, e1, e2, e3, e4⟩⟩ := Kd.own_of_R h
  · exact ⟨h0, .inl h1⟩
  · exact ⟨h0, .inr ⟨b, cap, cur, e1, e2, (hk b (by rw [e1]; rfl)).trans e3, e4⟩⟩
theorem rowI_lt {W : World} {base e k : Nat} {v : Value} {xs : List Int} (h : Kd.R (Kd.int .i64) e W base (fun _ => True) v xs) (hk : v.ownBlock = some k) : base ≤ k ∧ k < W.heap.size := by
  obtain ⟨h0, ⟨h1, h2⟩ | ⟨b, cap, cur, e1, e2, e3, e4⟩⟩ := Kd.own_of_R h
  · rw [h1] at hk; cases hk
  · rw [e1] at hk
    cases hk
    exact ⟨e2, blk_lt e3⟩
/-- What is read of a row of the call's own, wherever it is cut at its length. -/
theorem rowI_F {W : World} {base e n c : Nat} {A : Option Addr} {xs : List Int} (h : Kd.R (Kd.int .i64) e W base (fun _ => True) (.slice A n c) xs) : Kd.F (Kd.int .i64) W (fun k => base ≤ k) A n xs :=
  Kd.F_mono (Kd.R_F (Kd.R_bound h)) (fun k hk => hk.2.1)

/-! ### The state by itself -/
def rGets : Nat → List Int × Int → List Int → List Int × List Int × Int
  | 0, s, acc => (acc, s)
  | n + 1, s, acc => if (rNum s 2).2.2 = 0 then rGets n (rNum s 2).2 (acc ++ [(rNum s 2).1]) else ([], (rNum s 2).2)
def rList (s : List Int × Int) (most : Int) : List Int × List Int × Int :=
  if s.2 = 0 then
    (if (rNum s 4).2.2 = 0 then
      (if most < (rNum s 4).1 then ([], s.1, 1) else if ((rNum s 4).2.1.length : Int) < (rNum s 4).1 then ([], s.1, 20) else rGets (rNum s 4).1.toNat (rNum s 4).2 [])
    else ([], s.1, (rNum s 4).2.2))
  else ([], s)
theorem rNum_len (s : List Int × Int) (n : Nat) : (rNum s n).2.1.length ≤ s.1.length := (rTake_len s n).1
theorem rNum_ok (s : List Int × Int) (n : Nat) (h : BytesOk s.1) : BytesOk (rNum s n).2.1 := (rTake_ok s n h).2
/-- What GetList leaves: a list that lies in new memory. -/
def RLPost (W : World) (g : Nat) (A : Option Addr) (t : List Int × List Int × Int) (e : Ending) (w' : World) : Prop :=
  ∃ A0 c0, e = .returned (.slice A0 t.1.length c0) ∧ Kd.F (Kd.int .i64) w' (fun k => W.heap.size ≤ k) A0 t.1.length t.1 ∧ (∃ A2 c2, RdAt w' g A2 c2 t.2.1 t.2.2 ∧ BlkOf A2 A) ∧ KeepBut W w' g none ∧ (∀ B, B ≤ g → Below B W w') ∧ t.1.length ≤ c0
theorem RLPost.nil {W w' : World} {g : Nat} {A A2 : Option Addr} {c2 : Nat} {s : List Int × Int} {e : Ending} (he : e = .returned (.slice none 0 0)) (hr : RdAt w' g A2 c2 s.1 s.2) (hb : BlkOf A2 A) (hk : KeepBut W w' g none) (hB : ∀ B, B ≤ g → Below B W w') : RLPost W g A ([], s) e w' :=
  ⟨none, 0, he, Kd.F_nil _ _ _, ⟨A2, c2, hr, hb⟩, hk, hB, Nat.le_refl _⟩

theorem clip_is (A : Option Addr) (n c : Nat) (hc : n ≤ c) (W : World) : Calls Try.prog 117 #[.slice A n c] W fun e w' => e = .returned (.slice A n n) ∧ W = w' := by
  obtain ⟨i0, hi0, _, hsz, _⟩ := info_parts infoInt
  have hcut1 := cut_tom (P := Try.prog) 56 3 .i64 .i64 Try.underlying56 hi0 A n c (n : Int) (by omega) (by omega) hc
  rw [Int.toNat_natCast] at hcut1
  clear hi0 hsz
  go_enter Try.func117, Try.ntmps117
  go_wp2
  go_ret
  exact ⟨rfl, rfl⟩
theorem RdAt.fault {W : World} {g : Nat} {A : Option Addr} {c : Nat} {xs : List Int} {f : Int} (h : RdAt W g A c xs f) (e : Int) : RdAt (W.setCell ⟨g, 1, none⟩ (.int .i64 e)) g A c xs e :=
  ⟨blk_put h.blk 1 _ rfl, h.room, c_blk h.row fun ad he => Below.heap_setCell _ _ _ _ (h.off ad he), h.off⟩
/-- A Reader's record copied over another one's. -/
theorem RdAt.copied {W : World} {g g2 : Nat} {A A2 : Option Addr} {c c2 : Nat} {xs ys : List Int} {f f2 : Int} (h : RdAt W g A c xs f) (k : RdAt W g2 A2 c2 ys f2) (ho : ∀ ad, A2 = some ad → ad.block ≠ g) :
    RdAt ((W.setCell ⟨g, 0, none⟩ (.slice A2 ys.length c2)).setCell ⟨g, 1, none⟩ (.int .i64 f2)) g A2 c2 ys f2 :=
  ⟨blk_put (blk_put h.blk 0 _ rfl) 1 _ rfl, k.room, c_blk k.row fun ad he => (Below.heap_setCell _ _ _ _ (ho ad he)).trans (Below.heap_setCell _ _ _ _ (ho ad he)), ho⟩
theorem off_blk {A2 A : Option Addr} {g : Nat} (h : BlkOf A2 A) (ho : ∀ ad, A = some ad → ad.block ≠ g) : ∀ ad, A2 = some ad → ad.block ≠ g := fun ad e => by
  obtain ⟨a, e1, e2⟩ := h ad e
  rw [e2]; exact ho a e1

set_option maxHeartbeats 4000000 in
theorem rcl_again (W : World) (g : Nat) (A : Option Addr) (c : Nat) (s : List Int × Int) (hr : RdAt W g A c s.1 s.2) (hw : BytesOk s.1) :
    Calls Try.prog 57 #[.pointer (some ⟨g, 0, none⟩)] W (RPost W g A (.int .i64 (rNum s 2).1) (rNum s 2).2) := by
  have HN := Aside0.mk (rU16_any W g A c s hr hw)
  generalize (rNum s 2).1 = X at *
  generalize (rNum s 2).2 = s' at *
  clear hr hw
  go_enter Try.func57, Try.ntmps57
  go_wp2_with (go_at_call 51; refine HN.out.mono ?_; rintro e w' ⟨rfl, h1, h2, h3⟩)
  go_ret
  exact ⟨rfl, h1, h2, h3⟩

set_option maxHeartbeats 8000000 in
set_option maxRecDepth 100000 in
theorem getList_again (W : World) (g : Nat) (A : Option Addr) (c : Nat) (s : List Int × Int) (most : Int) (hr : RdAt W g A c s.1 s.2) (hw : BytesOk s.1) (hA : ∀ ad, A = some ad → ad.block < W.heap.size) (hl : s.1.length < 140737488355328) :
    Calls Try.prog 56 #[.pointer (some ⟨g, 0, none⟩), .int .i64 most, .func (.func 57) #[] #[]] W (RLPost W g A (rList s most)) := by
  have hu106 := Try.underlying106
  obtain ⟨xs, f⟩ := s
  dsimp only at hr hw hl
  have j0 := (blk_cell hr.blk 0).trans rfl
  have j1 := (blk_cell hr.blk 1).trans rfl
  have hg := blk_lt hr.blk
  obtain ⟨t, ht⟩ : ∃ t, rList (xs, f) most = t := ⟨_, rfl⟩
  rw [ht]
  by_cases hf : f = 0
  · subst hf
    have HT := Aside0.mk (show (if (rNum (xs, 0) 4).2.2 = 0 then (if most < (rNum (xs, 0) 4).1 then ([], xs, 1) else if ((rNum (xs, 0) 4).2.1.length : Int) < (rNum (xs, 0) 4).1 then ([], xs, 20) else rGets (rNum (xs, 0) 4).1.toNat (rNum (xs, 0) 4).2 []) else ([], xs, (rNum (xs, 0) 4).2.2)) = t by rw [← ht]; unfold rList; rw [if_pos rfl])
    obtain ⟨W1, hW1⟩ : ∃ W1, W.alloc (.cells #[.slice A xs.length c, .int .i64 0] 106) = W1 := ⟨_, rfl⟩
    have hB1 : Below W.heap.size W W1 := by rw [← hW1]; exact (Below.refl _ _).alloc (Nat.le_refl _) _
    have hb1 : W1.heap[W.heap.size]? = some (.cells #[.slice A xs.length c, .int .i64 0] 106 (0, 0)) := by rw [← hW1]; exact heap_alloc_new _ _
    have hr1 : RdAt W1 W.heap.size A c xs 0 := ⟨hb1, hr.room, Kd.C_below hr.row hB1, fun ad e => Nat.ne_of_lt (hA ad e)⟩
    have HU := Aside0.mk (rU32_any W1 W.heap.size A c (xs, 0) hr1 hw)
    have HNB := Aside0.mk (rNum_bd (xs, 0) 4 hw)
    have HNL := Aside0.mk (rNum_len (xs, 0) 4)
    have HNO := Aside0.mk (rNum_ok (xs, 0) 4 hw)
    generalize (rNum (xs, 0) 4).1 = N at *
    generalize (rNum (xs, 0) 4).2 = s2 at *
    obtain ⟨ys, f2⟩ := s2
    dsimp only at HT HNL HNO
    have HR := Aside0.mk hr
    have HB1 := Aside0.mk hB1
    have HA := Aside0.mk hA
    have HLX := Aside0.mk hl
    have hNb : 0 ≤ N ∧ N < 4294967296 := by have := HNB.out; simpa using this
    obtain ⟨hN0, hN1⟩ := hNb
    have hgz : W1.heap.size = W.heap.size + 1 := by rw [← hW1]; simp
    clear ht hr hw hb1 hr1 hB1 hA hl HNB
    subst hW1
    go_enter Try.func56, Try.ntmps56
    go_wp2_with fail
    refine HU.out.mono ?_
    rintro e w2 ⟨rfl, ⟨A2, c2, hr2, hbk2⟩, hk2, hB2⟩
    have hold : ∀ k, k < W.heap.size → w2.heap[k]? = W.heap[k]? := fun k hk => (hk2.2 k (by simp; omega) (by omega) (by simp)).trans (HB1.out.block k hk)
    have HR2 := Aside0.mk (HR.out.lowF (W' := w2) (by rintro k (rfl | ⟨ad, e1, rfl⟩); exact hold _ hg; exact hold _ (HA.out ad e1)))
    have HRN := Aside0.mk hr2
    have HBK := Aside0.mk hbk2
    have HK2 := Aside0.mk (show KeepBut W w2 g none from ⟨Nat.le_trans HB1.out.size hk2.1, fun k hk _ _ => hold k hk⟩)
    have HBL := Aside0.mk (show ∀ B, B ≤ g → Below B W w2 from fun B hB => (HB1.out.mono (by omega)).trans (hB2 B (by omega)))
    have HSZ := Aside0.mk (show W.heap.size + 1 ≤ w2.heap.size by have := hk2.1; simp at this; omega)
    have z0 := (blk_cell hr2.blk 0).trans rfl
    have z1 := (blk_cell hr2.blk 1).trans rfl
    have gf := blk_frozen HR2.out.blk 1
    have gf0 := blk_frozen HR2.out.blk 0
    have g1 := (blk_cell HR2.out.blk 1).trans rfl
    have g0 := (blk_cell HR2.out.blk 0).trans rfl
    clear hk2 hB2 hold hr2 hbk2 HU j0 j1
    dsimp only at z0 z1 HRN
    by_cases hf2 : f2 = 0
    · subst hf2
      obtain ⟨Y, hY⟩ : ∃ Y, ys.length = Y := ⟨_, rfl⟩
      rw [hY] at z0
      have HY := Aside0.mk hY
      clear hY
      by_cases hm : most < N
      · have HV := Aside0.mk (show ([], xs, 1) = t by rw [← HT.out, if_pos rfl, if_pos hm])
        clear HT
        go_wp2
        go_ret
        rw [← HV.out]
        exact RLPost.nil (s := (xs, 1)) rfl (HR2.out.fault 1) (BlkOf.refl A) (HK2.out.set_ 1 _) (fun B hB => (HBL.out B hB).setCell (p := ⟨g, 1, none⟩) hB _)
      · by_cases hy : (Y : Int) < N
        · have HV := Aside0.mk (show ([], xs, 20) = t by rw [← HT.out, if_pos rfl, if_neg hm, if_pos (by rw [HY.out]; exact hy)])
          clear HT
          go_wp2
          go_ret
          rw [← HV.out]
          exact RLPost.nil (s := (xs, 20)) rfl (HR2.out.fault 20) (BlkOf.refl A) (HK2.out.set_ 1 _) (fun B hB => (HBL.out B hB).setCell (p := ⟨g, 1, none⟩) hB _)
        · have HV := Aside0.mk (show rGets N.toNat (ys, 0) [] = t by rw [← HT.out, if_pos rfl, if_neg hm, if_neg (by rw [HY.out]; exact hy)])
          have HRC := Aside0.mk (HR2.out.copied HRN.out (off_blk HBK.out HR.out.off))
          rw [HY.out] at HRC
          have HKC := Aside0.mk ((HK2.out.set_ 0 (.slice A2 Y c2)).set_ 1 (.int .i64 0))
          have HBC := Aside0.mk (show ∀ B, B ≤ g → Below B W ((w2.setCell ⟨g, 0, none⟩ (.slice A2 Y c2)).setCell ⟨g, 1, none⟩ (.int .i64 0)) from fun B hB => ((HBL.out B hB).setCell (p := ⟨g, 0, none⟩) hB _).setCell (p := ⟨g, 1, none⟩) hB _)
          obtain ⟨n, rfl⟩ : ∃ n : Nat, N = (n : Int) := ⟨N.toNat, by omega⟩
          rw [Int.toNat_natCast] at HV
          have hnb : n < 4294967296 := by omega
          have hm' : ¬ (most < (n : Int)) := hm
          have hmd : decide (most < (n : Int)) = false := decide_eq_false hm
          have hyd : decide (Y < n) = false := decide_eq_false (by omega)
          clear HT HR2 HRN hN0 hN1 hm
          go_wp2
          go_loopw [6, 9, 48] (fun v6 vo vi wr => v6 = .slice none 0 0 ∧ ∃ (k : Nat) (s' : List Int × Int) (acc : List Int) (A' : Option Addr) (c' : Nat), vi = .int .i64 (k : Nat) ∧ k ≤ n ∧ Aside0 (RdAt wr g A' c' s'.1 0 ∧ s'.2 = 0 ∧ BytesOk s'.1 ∧ BlkOf A' A) ∧ Aside0 (rGets (n - k) s' acc = t ∧ acc.length = k) ∧
            Aside0 (Kd.R (Kd.int .i64) 3 wr W.heap.size (fun _ => True) vo acc) ∧ Aside0 (KeepBut W wr g none) ∧ Aside0 (∀ B, B ≤ g → Below B W wr)) (fun _ _ vi _ => n - (intOf vi).toNat)
          case atStart => exact ⟨rfl, 0, (ys, 0), [], A2, c2, rfl, Nat.zero_le _, ⟨HRC.out, rfl, HNO.out, HBK.out⟩, ⟨HV.out, rfl⟩, ⟨Kd.R_nil _ _ _ _ _⟩, HKC, HBC⟩
          case round =>
            clear HRC HKC HBC HV
            obtain ⟨rfl, k, s', acc, A', c', rfl, hk, HD, HG, HO, HK, HB⟩ := hrel
            by_cases hlt : k < n
            · obtain ⟨xs', f'⟩ := s'
              have hf' : f' = 0 := HD.out.2.1
              subst hf'
              have HC := Aside0.mk (rcl_again wr g A' c' (xs', 0) HD.out.1 HD.out.2.2.1)
              have HNO2 := Aside0.mk (rNum_ok (xs', 0) 2 HD.out.2.2.1)
              have HG2 := Aside0.mk (show (if (rNum (xs', 0) 2).2.2 = 0 then rGets (n - (k + 1)) (rNum (xs', 0) 2).2 (acc ++ [(rNum (xs', 0) 2).1]) else ([], (rNum (xs', 0) 2).2)) = t by
                have := HG.out.1
                rw [show n - k = n - (k + 1) + 1 by omega] at this
                exact this)
              generalize (rNum (xs', 0) 2).1 = X at *
              generalize (rNum (xs', 0) 2).2 = s3 at *
              obtain ⟨zs, f3⟩ := s3
              dsimp only at HG2 HNO2
              obtain ⟨y, hy⟩ : ∃ y : List Int, y = acc ++ [X] := ⟨_, rfl⟩
              have Ny := Aside0.mk hy
              have Ly := Aside0.mk (show y.length = k + 1 by rw [hy, List.length_append, HG.out.2]; rfl)
              have LA := Aside0.mk HG.out.2
              have HDB := Aside0.mk HD.out.2.2.2
              clear hy HG HD
              by_cases hf3 : f3 = 0
              · subst hf3
                have HG3 := Aside0.mk (show rGets (n - (k + 1)) (zs, 0) (acc ++ [X]) = t by rw [← HG2.out, if_pos rfl])
                clear HG2
                go_wp2_with (first
                  | (go_at_call 57; refine HC.out.mono ?_; rintro e w4 ⟨rfl, ⟨A4, c4, hr4, hb4⟩, hk4, hB4⟩; have HR4 := Aside0.mk hr4; have HBK4 := Aside0.mk (HDB.out.trans hb4); have HK4 := Aside0.mk (HK.out.trans hk4 (.inl rfl)); have HB4 := Aside0.mk (show ∀ B, B ≤ g → Below B W w4 from fun B hB => (HB.out B hB).trans (hB4 B hB)); have HO4 := Aside0.mk (rowI_kept HO.out fun b hb => hk4.2 b (rowI_lt HO.out hb).2 (by have := (rowI_lt HO.out hb).1; omega) (by simp)); have HZ4 := Aside0.mk (Nat.le_trans HK.out.1 hk4.1); clear hr4 hb4 hk4 hB4 HK HB HO)
                  | ((with_reducible refine gate_builtin (b := .append) (xs := #[.tmp 50, .tmp 54]) rfl ?_); at_builtin; refine Kd.R_append (Kd.int .i64) (w0 := w4) W.heap.size rfl (.tmp 50) (.tmp 54) 56 3 (.int .i64 0) 8 rfl Try.underlying56 infoInt rfl (by decide) (by omega) _ acc X [.int .i64 X] (fun _ => True) (fun _ => False) rfl ?aX ?aP (fun _ hk => hk.elim) ?aF ?aO ?aB ?aS ?aL ?_; (case aX => first | rfl | (rw [World.size_alloc]; rfl)); (case aP => exact rfl); (case aB => exact Below.refl _ _); (case aF => exact (fun _ _ => trivial)); (case aO => exact HO4.out); (case aS => exact HZ4.out); (case aL => have := LA.out; omega); intro v5 w5 ho hb hg5 hat; rw [← Ny.out] at ho; have HO5 := Aside0.mk ho; have HR5 := Aside0.mk (HR4.out.lowF (W' := w5) (by rintro k5 (rfl | ⟨ad, e1, rfl⟩); exact hb.block _ (by omega); exact hb.block _ (by obtain ⟨a, q1, q2⟩ := HBK4.out ad e1; rw [q2]; exact HA.out a q1))); have HK5 := Aside0.mk (show KeepBut W w5 g none from ⟨Nat.le_trans HZ4.out hb.size, fun i hi h1 h2 => (hb.block i hi).trans (HK4.out.2 i hi h1 h2)⟩); have HB5 := Aside0.mk (show ∀ B, B ≤ g → Below B W w5 from fun B hB => (HB4.out B hB).trans (hb.mono (by omega))); have q1 := (blk_cell HR5.out.blk 1).trans rfl; clear ho hb hg5 hat))
                go_roundw
                case rel => exact ⟨rfl, k + 1, (zs, 0), y, A4, c4, by go_num, by omega, ⟨HR5.out, rfl, HNO2.out, HBK4.out⟩, ⟨by rw [Ny.out]; exact HG3.out, Ly.out⟩, HO5, HK5, HB5⟩
                case measure => simp [intOf]; omega
              · have HG3 := Aside0.mk (show ([], zs, f3) = t by rw [← HG2.out, if_neg hf3])
                have h1 : (f3 == 0) = false := by rw [beq_eq_false_iff_ne]; exact hf3
                have h2 : (f3 != 0) = true := by rw [bne_iff_ne]; exact hf3
                clear HG2
                go_wp2_with (first
                  | (go_at_call 57; refine HC.out.mono ?_; rintro e w4 ⟨rfl, ⟨A4, c4, hr4, hb4⟩, hk4, hB4⟩; have HR4 := Aside0.mk hr4; have HBK4 := Aside0.mk (HDB.out.trans hb4); have HK4 := Aside0.mk (HK.out.trans hk4 (.inl rfl)); have HB4 := Aside0.mk (show ∀ B, B ≤ g → Below B W w4 from fun B hB => (HB.out B hB).trans (hB4 B hB)); have HO4 := Aside0.mk (rowI_kept HO.out fun b hb => hk4.2 b (rowI_lt HO.out hb).2 (by have := (rowI_lt HO.out hb).1; omega) (by simp)); have HZ4 := Aside0.mk (Nat.le_trans HK.out.1 hk4.1); clear hr4 hb4 hk4 hB4 HK HB HO)
                  | ((with_reducible refine gate_builtin (b := .append) (xs := #[.tmp 50, .tmp 54]) rfl ?_); at_builtin; refine Kd.R_append (Kd.int .i64) (w0 := w4) W.heap.size rfl (.tmp 50) (.tmp 54) 56 3 (.int .i64 0) 8 rfl Try.underlying56 infoInt rfl (by decide) (by omega) _ acc X [.int .i64 X] (fun _ => True) (fun _ => False) rfl ?aX ?aP (fun _ hk => hk.elim) ?aF ?aO ?aB ?aS ?aL ?_; (case aX => first | rfl | (rw [World.size_alloc]; rfl)); (case aP => exact rfl); (case aB => exact Below.refl _ _); (case aF => exact (fun _ _ => trivial)); (case aO => exact HO4.out); (case aS => exact HZ4.out); (case aL => have := LA.out; omega); intro v5 w5 ho hb hg5 hat; rw [← Ny.out] at ho; have HO5 := Aside0.mk ho; have HR5 := Aside0.mk (HR4.out.lowF (W' := w5) (by rintro k5 (rfl | ⟨ad, e1, rfl⟩); exact hb.block _ (by omega); exact hb.block _ (by obtain ⟨a, q1, q2⟩ := HBK4.out ad e1; rw [q2]; exact HA.out a q1))); have HK5 := Aside0.mk (show KeepBut W w5 g none from ⟨Nat.le_trans HZ4.out hb.size, fun i hi h1 h2 => (hb.block i hi).trans (HK4.out.2 i hi h1 h2)⟩); have HB5 := Aside0.mk (show ∀ B, B ≤ g → Below B W w5 from fun B hB => (HB4.out B hB).trans (hb.mono (by omega))); have q1 := (blk_cell HR5.out.blk 1).trans rfl; clear ho hb hg5 hat))
                go_ret
                rw [← HG3.out]
                exact RLPost.nil (s := (zs, f3)) rfl HR5.out HBK4.out HK5.out HB5.out
            · obtain rfl : k = n := by omega
              obtain ⟨A9, c9, e9⟩ := Kd.R_slice HO.out
              subst e9
              have HRR := Aside0.mk (Kd.R_reads' HO.out)
              have HE := Aside0.mk (show (acc, s') = t by rw [← HG.out.1, Nat.sub_self]; rfl)
              have HL := Aside0.mk HG.out.2
              obtain ⟨M, hM⟩ : ∃ M, acc.length = M := ⟨_, rfl⟩
              rw [hM] at HO HRR
              rw [hM]
              have hMk := Aside0.mk hM
              clear hM
              go_wp2_with (go_at_call 117; refine (clip_is A9 M c9 (by have := HRR.out.2.1; have := hMk.out; omega) wr).mono ?_; rintro e w9 ⟨rfl, rfl⟩)
              go_ret
              rw [← HE.out]
              have hf := HD.out
              refine ⟨A9, M, by rw [show (acc, s').1.length = M from hMk.out]; rfl, ?_, ⟨A', c', by rw [hf.2.1]; exact hf.1, hf.2.2.2⟩, HK.out, HB.out, Nat.le_of_eq hMk.out⟩
              dsimp only
              rw [hMk.out]
              exact rowI_F HO.out
    · have HV := Aside0.mk (show ([], xs, f2) = t by rw [← HT.out, if_neg hf2])
      have h1 : (f2 == 0) = false := by rw [beq_eq_false_iff_ne]; exact hf2
      have h2 : (f2 != 0) = true := by rw [bne_iff_ne]; exact hf2
      clear HT
      go_wp2
      go_ret
      rw [← HV.out]
      exact RLPost.nil (s := (xs, f2)) rfl (HR2.out.fault f2) (BlkOf.refl A) (HK2.out.set_ 1 _) (fun B hB => (HBL.out B hB).setCell (p := ⟨g, 1, none⟩) hB _)
  · have h1 : (f == 0) = false := by rw [beq_eq_false_iff_ne]; exact hf
    have h2 : (f != 0) = true := by rw [bne_iff_ne]; exact hf
    have HT := Aside0.mk (show ([], xs, f) = t by rw [← ht]; unfold rList; rw [if_neg hf])
    have HR := Aside0.mk hr
    clear ht hr hA hl hw
    go_enter Try.func56, Try.ntmps56
    go_wp2
    go_ret
    rw [← HT.out]
    exact RLPost.nil (s := (xs, f)) rfl HR.out (BlkOf.refl A) (KeepBut.refl _ _ _) (fun B _ => Below.refl _ _)

set_option maxHeartbeats 4000000 in
theorem rcl_back (W : World) (g : Nat) (A : Option Addr) (c : Nat) (s : List Int × Int) (hr : RdAt W g A c s.1 s.2) (hw : BytesOk s.1) :
    Calls Try.prog 119 #[.pointer (some ⟨g, 0, none⟩)] W (RPost W g A (.int .i64 (rNum s 2).1) (rNum s 2).2) := by
  have HN := Aside0.mk (rU16_any W g A c s hr hw)
  generalize (rNum s 2).1 = X at *
  generalize (rNum s 2).2 = s' at *
  clear hr hw
  go_enter Try.func119, Try.ntmps119
  go_wp2_with (go_at_call 51; refine HN.out.mono ?_; rintro e w' ⟨rfl, h1, h2, h3⟩)
  go_ret
  exact ⟨rfl, h1, h2, h3⟩

set_option maxHeartbeats 8000000 in
set_option maxRecDepth 100000 in
theorem getList_back (W : World) (g : Nat) (A : Option Addr) (c : Nat) (s : List Int × Int) (most : Int) (hr : RdAt W g A c s.1 s.2) (hw : BytesOk s.1) (hA : ∀ ad, A = some ad → ad.block < W.heap.size) (hl : s.1.length < 140737488355328) :
    Calls Try.prog 56 #[.pointer (some ⟨g, 0, none⟩), .int .i64 most, .func (.func 119) #[] #[]] W (RLPost W g A (rList s most)) := by
  have hu106 := Try.underlying106
  obtain ⟨xs, f⟩ := s
  dsimp only at hr hw hl
  have j0 := (blk_cell hr.blk 0).trans rfl
  have j1 := (blk_cell hr.blk 1).trans rfl
  have hg := blk_lt hr.blk
  obtain ⟨t, ht⟩ : ∃ t, rList (xs, f) most = t := ⟨_, rfl⟩
  rw [ht]
  by_cases hf : f = 0
  · subst hf
    have HT := Aside0.mk (show (if (rNum (xs, 0) 4).2.2 = 0 then (if most < (rNum (xs, 0) 4).1 then ([], xs, 1) else if ((rNum (xs, 0) 4).2.1.length : Int) < (rNum (xs, 0) 4).1 then ([], xs, 20) else rGets (rNum (xs, 0) 4).1.toNat (rNum (xs, 0) 4).2 []) else ([], xs, (rNum (xs, 0) 4).2.2)) = t by rw [← ht]; unfold rList; rw [if_pos rfl])
    obtain ⟨W1, hW1⟩ : ∃ W1, W.alloc (.cells #[.slice A xs.length c, .int .i64 0] 106) = W1 := ⟨_, rfl⟩
    have hB1 : Below W.heap.size W W1 := by rw [← hW1]; exact (Below.refl _ _).alloc (Nat.le_refl _) _
    have hb1 : W1.heap[W.heap.size]? = some (.cells #[.slice A xs.length c, .int .i64 0] 106 (0, 0)) := by rw [← hW1]; exact heap_alloc_new _ _
    have hr1 : RdAt W1 W.heap.size A c xs 0 := ⟨hb1, hr.room, Kd.C_below hr.row hB1, fun ad e => Nat.ne_of_lt (hA ad e)⟩
    have HU := Aside0.mk (rU32_any W1 W.heap.size A c (xs, 0) hr1 hw)
    have HNB := Aside0.mk (rNum_bd (xs, 0) 4 hw)
    have HNL := Aside0.mk (rNum_len (xs, 0) 4)
    have HNO := Aside0.mk (rNum_ok (xs, 0) 4 hw)
    generalize (rNum (xs, 0) 4).1 = N at *
    generalize (rNum (xs, 0) 4).2 = s2 at *
    obtain ⟨ys, f2⟩ := s2
    dsimp only at HT HNL HNO
    have HR := Aside0.mk hr
    have HB1 := Aside0.mk hB1
    have HA := Aside0.mk hA
    have HLX := Aside0.mk hl
    have hNb : 0 ≤ N ∧ N < 4294967296 := by have := HNB.out; simpa using this
    obtain ⟨hN0, hN1⟩ := hNb
    have hgz : W1.heap.size = W.heap.size + 1 := by rw [← hW1]; simp
    clear ht hr hw hb1 hr1 hB1 hA hl HNB
    subst hW1
    go_enter Try.func56, Try.ntmps56
    go_wp2_with fail
    refine HU.out.mono ?_
    rintro e w2 ⟨rfl, ⟨A2, c2, hr2, hbk2⟩, hk2, hB2⟩
    have hold : ∀ k, k < W.heap.size → w2.heap[k]? = W.heap[k]? := fun k hk => (hk2.2 k (by simp; omega) (by omega) (by simp)).trans (HB1.out.block k hk)
    have HR2 := Aside0.mk (HR.out.lowF (W' := w2) (by rintro k (rfl | ⟨ad, e1, rfl⟩); exact hold _ hg; exact hold _ (HA.out ad e1)))
    have HRN := Aside0.mk hr2
    have HBK := Aside0.mk hbk2
    have HK2 := Aside0.mk (show KeepBut W w2 g none from ⟨Nat.le_trans HB1.out.size hk2.1, fun k hk _ _ => hold k hk⟩)
    have HBL := Aside0.mk (show ∀ B, B ≤ g → Below B W w2 from fun B hB => (HB1.out.mono (by omega)).trans (hB2 B (by omega)))
    have HSZ := Aside0.mk (show W.heap.size + 1 ≤ w2.heap.size by have := hk2.1; simp at this; omega)
    have z0 := (blk_cell hr2.blk 0).trans rfl
    have z1 := (blk_cell hr2.blk 1).trans rfl
    have gf := blk_frozen HR2.out.blk 1
    have gf0 := blk_frozen HR2.out.blk 0
    have g1 := (blk_cell HR2.out.blk 1).trans rfl
    have g0 := (blk_cell HR2.out.blk 0).trans rfl
    clear hk2 hB2 hold hr2 hbk2 HU j0 j1
    dsimp only at z0 z1 HRN
    by_cases hf2 : f2 = 0
    · subst hf2
      obtain ⟨Y, hY⟩ : ∃ Y, ys.length = Y := ⟨_, rfl⟩
      rw [hY] at z0
      have HY := Aside0.mk hY
      clear hY
      by_cases hm : most < N
      · have HV := Aside0.mk (show ([], xs, 1) = t by rw [← HT.out, if_pos rfl, if_pos hm])
        clear HT
        go_wp2
        go_ret
        rw [← HV.out]
        exact RLPost.nil (s := (xs, 1)) rfl (HR2.out.fault 1) (BlkOf.refl A) (HK2.out.set_ 1 _) (fun B hB => (HBL.out B hB).setCell (p := ⟨g, 1, none⟩) hB _)
      · by_cases hy : (Y : Int) < N
        · have HV := Aside0.mk (show ([], xs, 20) = t by rw [← HT.out, if_pos rfl, if_neg hm, if_pos (by rw [HY.out]; exact hy)])
          clear HT
          go_wp2
          go_ret
          rw [← HV.out]
          exact RLPost.nil (s := (xs, 20)) rfl (HR2.out.fault 20) (BlkOf.refl A) (HK2.out.set_ 1 _) (fun B hB => (HBL.out B hB).setCell (p := ⟨g, 1, none⟩) hB _)
        · have HV := Aside0.mk (show rGets N.toNat (ys, 0) [] = t by rw [← HT.out, if_pos rfl, if_neg hm, if_neg (by rw [HY.out]; exact hy)])
          have HRC := Aside0.mk (HR2.out.copied HRN.out (off_blk HBK.out HR.out.off))
          rw [HY.out] at HRC
          have HKC := Aside0.mk ((HK2.out.set_ 0 (.slice A2 Y c2)).set_ 1 (.int .i64 0))
          have HBC := Aside0.mk (show ∀ B, B ≤ g → Below B W ((w2.setCell ⟨g, 0, none⟩ (.slice A2 Y c2)).setCell ⟨g, 1, none⟩ (.int .i64 0)) from fun B hB => ((HBL.out B hB).setCell (p := ⟨g, 0, none⟩) hB _).setCell (p := ⟨g, 1, none⟩) hB _)
          obtain ⟨n, rfl⟩ : ∃ n : Nat, N = (n : Int) := ⟨N.toNat, by omega⟩
          rw [Int.toNat_natCast] at HV
          have hnb : n < 4294967296 := by omega
          have hm' : ¬ (most < (n : Int)) := hm
          have hmd : decide (most < (n : Int)) = false := decide_eq_false hm
          have hyd : decide (Y < n) = false := decide_eq_false (by omega)
          clear HT HR2 HRN hN0 hN1 hm
          go_wp2
          go_loopw [6, 9, 48] (fun v6 vo vi wr => v6 = .slice none 0 0 ∧ ∃ (k : Nat) (s' : List Int × Int) (acc : List Int) (A' : Option Addr) (c' : Nat), vi = .int .i64 (k : Nat) ∧ k ≤ n ∧ Aside0 (RdAt wr g A' c' s'.1 0 ∧ s'.2 = 0 ∧ BytesOk s'.1 ∧ BlkOf A' A) ∧ Aside0 (rGets (n - k) s' acc = t ∧ acc.length = k) ∧
            Aside0 (Kd.R (Kd.int .i64) 3 wr W.heap.size (fun _ => True) vo acc) ∧ Aside0 (KeepBut W wr g none) ∧ Aside0 (∀ B, B ≤ g → Below B W wr)) (fun _ _ vi _ => n - (intOf vi).toNat)
          case atStart => exact ⟨rfl, 0, (ys, 0), [], A2, c2, rfl, Nat.zero_le _, ⟨HRC.out, rfl, HNO.out, HBK.out⟩, ⟨HV.out, rfl⟩, ⟨Kd.R_nil _ _ _ _ _⟩, HKC, HBC⟩
          case round =>
            clear HRC HKC HBC HV
            obtain ⟨rfl, k, s', acc, A', c', rfl, hk, HD, HG, HO, HK, HB⟩ := hrel
            by_cases hlt : k < n
            · obtain ⟨xs', f'⟩ := s'
              have hf' : f' = 0 := HD.out.2.1
              subst hf'
              have HC := Aside0.mk (rcl_back wr g A' c' (xs', 0) HD.out.1 HD.out.2.2.1)
              have HNO2 := Aside0.mk (rNum_ok (xs', 0) 2 HD.out.2.2.1)
              have HG2 := Aside0.mk (show (if (rNum (xs', 0) 2).2.2 = 0 then rGets (n - (k + 1)) (rNum (xs', 0) 2).2 (acc ++ [(rNum (xs', 0) 2).1]) else ([], (rNum (xs', 0) 2).2)) = t by
                have := HG.out.1
                rw [show n - k = n - (k + 1) + 1 by omega] at this
                exact this)
              generalize (rNum (xs', 0) 2).1 = X at *
              generalize (rNum (xs', 0) 2).2 = s3 at *
              obtain ⟨zs, f3⟩ := s3
              dsimp only at HG2 HNO2
              obtain ⟨y, hy⟩ : ∃ y : List Int, y = acc ++ [X] := ⟨_, rfl⟩
              have Ny := Aside0.mk hy
              have Ly := Aside0.mk (show y.length = k + 1 by rw [hy, List.length_append, HG.out.2]; rfl)
              have LA := Aside0.mk HG.out.2
              have HDB := Aside0.mk HD.out.2.2.2
              clear hy HG HD
              by_cases hf3 : f3 = 0
              · subst hf3
                have HG3 := Aside0.mk (show rGets (n - (k + 1)) (zs, 0) (acc ++ [X]) = t by rw [← HG2.out, if_pos rfl])
                clear HG2
                go_wp2_with (first
                  | (go_at_call 119; refine HC.out.mono ?_; rintro e w4 ⟨rfl, ⟨A4, c4, hr4, hb4⟩, hk4, hB4⟩; have HR4 := Aside0.mk hr4; have HBK4 := Aside0.mk (HDB.out.trans hb4); have HK4 := Aside0.mk (HK.out.trans hk4 (.inl rfl)); have HB4 := Aside0.mk (show ∀ B, B ≤ g → Below B W w4 from fun B hB => (HB.out B hB).trans (hB4 B hB)); have HO4 := Aside0.mk (rowI_kept HO.out fun b hb => hk4.2 b (rowI_lt HO.out hb).2 (by have := (rowI_lt HO.out hb).1; omega) (by simp)); have HZ4 := Aside0.mk (Nat.le_trans HK.out.1 hk4.1); clear hr4 hb4 hk4 hB4 HK HB HO)
                  | ((with_reducible refine gate_builtin (b := .append) (xs := #[.tmp 50, .tmp 54]) rfl ?_); at_builtin; refine Kd.R_append (Kd.int .i64) (w0 := w4) W.heap.size rfl (.tmp 50) (.tmp 54) 56 3 (.int .i64 0) 8 rfl Try.underlying56 infoInt rfl (by decide) (by omega) _ acc X [.int .i64 X] (fun _ => True) (fun _ => False) rfl ?aX ?aP (fun _ hk => hk.elim) ?aF ?aO ?aB ?aS ?aL ?_; (case aX => first | rfl | (rw [World.size_alloc]; rfl)); (case aP => exact rfl); (case aB => exact Below.refl _ _); (case aF => exact (fun _ _ => trivial)); (case aO => exact HO4.out); (case aS => exact HZ4.out); (case aL => have := LA.out; omega); intro v5 w5 ho hb hg5 hat; rw [← Ny.out] at ho; have HO5 := Aside0.mk ho; have HR5 := Aside0.mk (HR4.out.lowF (W' := w5) (by rintro k5 (rfl | ⟨ad, e1, rfl⟩); exact hb.block _ (by omega); exact hb.block _ (by obtain ⟨a, q1, q2⟩ := HBK4.out ad e1; rw [q2]; exact HA.out a q1))); have HK5 := Aside0.mk (show KeepBut W w5 g none from ⟨Nat.le_trans HZ4.out hb.size, fun i hi h1 h2 => (hb.block i hi).trans (HK4.out.2 i hi h1 h2)⟩); have HB5 := Aside0.mk (show ∀ B, B ≤ g → Below B W w5 from fun B hB => (HB4.out B hB).trans (hb.mono (by omega))); have q1 := (blk_cell HR5.out.blk 1).trans rfl; clear ho hb hg5 hat))
                go_roundw
                case rel => exact ⟨rfl, k + 1, (zs, 0), y, A4, c4, by go_num, by omega, ⟨HR5.out, rfl, HNO2.out, HBK4.out⟩, ⟨by rw [Ny.out]; exact HG3.out, Ly.out⟩, HO5, HK5, HB5⟩
                case measure => simp [intOf]; omega
              · have HG3 := Aside0.mk (show ([], zs, f3) = t by rw [← HG2.out, if_neg hf3])
                have h1 : (f3 == 0) = false := by rw [beq_eq_false_iff_ne]; exact hf3
                have h2 : (f3 != 0) = true := by rw [bne_iff_ne]; exact hf3
                clear HG2
                go_wp2_with (first
                  | (go_at_call 119; refine HC.out.mono ?_; rintro e w4 ⟨rfl, ⟨A4, c4, hr4, hb4⟩, hk4, hB4⟩; have HR4 := Aside0.mk hr4; have HBK4 := Aside0.mk (HDB.out.trans hb4); have HK4 := Aside0.mk (HK.out.trans hk4 (.inl rfl)); have HB4 := Aside0.mk (show ∀ B, B ≤ g → Below B W w4 from fun B hB => (HB.out B hB).trans (hB4 B hB)); have HO4 := Aside0.mk (rowI_kept HO.out fun b hb => hk4.2 b (rowI_lt HO.out hb).2 (by have := (rowI_lt HO.out hb).1; omega) (by simp)); have HZ4 := Aside0.mk (Nat.le_trans HK.out.1 hk4.1); clear hr4 hb4 hk4 hB4 HK HB HO)
                  | ((with_reducible refine gate_builtin (b := .append) (xs := #[.tmp 50, .tmp 54]) rfl ?_); at_builtin; refine Kd.R_append (Kd.int .i64) (w0 := w4) W.heap.size rfl (.tmp 50) (.tmp 54) 56 3 (.int .i64 0) 8 rfl Try.underlying56 infoInt rfl (by decide) (by omega) _ acc X [.int .i64 X] (fun _ => True) (fun _ => False) rfl ?aX ?aP (fun _ hk => hk.elim) ?aF ?aO ?aB ?aS ?aL ?_; (case aX => first | rfl | (rw [World.size_alloc]; rfl)); (case aP => exact rfl); (case aB => exact Below.refl _ _); (case aF => exact (fun _ _ => trivial)); (case aO => exact HO4.out); (case aS => exact HZ4.out); (case aL => have := LA.out; omega); intro v5 w5 ho hb hg5 hat; rw [← Ny.out] at ho; have HO5 := Aside0.mk ho; have HR5 := Aside0.mk (HR4.out.lowF (W' := w5) (by rintro k5 (rfl | ⟨ad, e1, rfl⟩); exact hb.block _ (by omega); exact hb.block _ (by obtain ⟨a, q1, q2⟩ := HBK4.out ad e1; rw [q2]; exact HA.out a q1))); have HK5 := Aside0.mk (show KeepBut W w5 g none from ⟨Nat.le_trans HZ4.out hb.size, fun i hi h1 h2 => (hb.block i hi).trans (HK4.out.2 i hi h1 h2)⟩); have HB5 := Aside0.mk (show ∀ B, B ≤ g → Below B W w5 from fun B hB => (HB4.out B hB).trans (hb.mono (by omega))); have q1 := (blk_cell HR5.out.blk 1).trans rfl; clear ho hb hg5 hat))
                go_ret
                rw [← HG3.out]
                exact RLPost.nil (s := (zs, f3)) rfl HR5.out HBK4.out HK5.out HB5.out
            · obtain rfl : k = n := by omega
              obtain ⟨A9, c9, e9⟩ := Kd.R_slice HO.out
              subst e9
              have HRR := Aside0.mk (Kd.R_reads' HO.out)
              have HE := Aside0.mk (show (acc, s') = t by rw [← HG.out.1, Nat.sub_self]; rfl)
              have HL := Aside0.mk HG.out.2
              obtain ⟨M, hM⟩ : ∃ M, acc.length = M := ⟨_, rfl⟩
              rw [hM] at HO HRR
              rw [hM]
              have hMk := Aside0.mk hM
              clear hM
              go_wp2_with (go_at_call 117; refine (clip_is A9 M c9 (by have := HRR.out.2.1; have := hMk.out; omega) wr).mono ?_; rintro e w9 ⟨rfl, rfl⟩)
              go_ret
              rw [← HE.out]
              have hf := HD.out
              refine ⟨A9, M, by rw [show (acc, s').1.length = M from hMk.out]; rfl, ?_, ⟨A', c', by rw [hf.2.1]; exact hf.1, hf.2.2.2⟩, HK.out, HB.out, Nat.le_of_eq hMk.out⟩
              dsimp only
              rw [hMk.out]
              exact rowI_F HO.out
    · have HV := Aside0.mk (show ([], xs, f2) = t by rw [← HT.out, if_neg hf2])
      have h1 : (f2 == 0) = false := by rw [beq_eq_false_iff_ne]; exact hf2
      have h2 : (f2 != 0) = true := by rw [bne_iff_ne]; exact hf2
      clear HT
      go_wp2
      go_ret
      rw [← HV.out]
      exact RLPost.nil (s := (xs, f2)) rfl (HR2.out.fault f2) (BlkOf.refl A) (HK2.out.set_ 1 _) (fun B hB => (HBL.out B hB).setCell (p := ⟨g, 1, none⟩) hB _)
  · have h1 : (f == 0) = false := by rw [beq_eq_false_iff_ne]; exact hf
    have h2 : (f != 0) = true := by rw [bne_iff_ne]; exact hf
    have HT := Aside0.mk (show ([], xs, f) = t by rw [← ht]; unfold rList; rw [if_neg hf])
    have HR := Aside0.mk hr
    clear ht hr hA hl hw
    go_enter Try.func56, Try.ntmps56
    go_wp2
    go_ret
    rw [← HT.out]
    exact RLPost.nil (s := (xs, f)) rfl HR.out (BlkOf.refl A) (KeepBut.refl _ _ _) (fun B _ => Below.refl _ _)
end Go.Proofs.Ytceeoifbimlkdaa.B
