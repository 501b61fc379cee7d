/- Proved: the contract of codec.PutList of numbers of two bytes. Conditions: bounds of the length; the list lies apart from the Writer. -/
import Derived.Test.YtceeoifbimlkdaaHWrF
namespace Go.Proofs.Ytceeoifbimlkdaa.B
open Go.RowKit Go.Proofs.YtceeoifbimlkdaaW.PrintWords Go.Proofs.YtceeoifbimlkdaaW.PrintLast Go.Proofs.YtceeoifbimlkdaaW.PrintMore

theorem wNum_stick (s : List Int × Int) (x : Int) (n : Nat) (h : s.2 ≠ 0) : wNum s x n = s := by
  unfold wNum
  split
  · unfold wPut; exact if_neg h
  · unfold wFail; exact if_neg h
theorem wNums_stick : ∀ (l : List Int) (s : List Int × Int), s.2 ≠ 0 → l.foldl (fun s x => wNum s x 2) s = s
  | [], _, _ => rfl
  | x :: l, s, h => by
    show l.foldl (fun s x => wNum s x 2) (wNum s x 2) = s
    rw [wNum_stick s x 2 h]; exact wNums_stick l s h
def wHead (s : List Int × Int) (n : Nat) (most : Int) : List Int × Int := if most < (n : Int) then wFail s 1 else wPut s (bigL n 4)
def wAt (s : List Int × Int) (l : List Int) (most : Int) (k : Nat) : List Int × Int := (l.take k).foldl (fun s x => wNum s x 2) (wHead s l.length most)
theorem wAt_zero (s : List Int × Int) (l : List Int) (most : Int) : wAt s l most 0 = wHead s l.length most := rfl
theorem wAt_succ (s : List Int × Int) (l : List Int) (most : Int) (k : Nat) (hk : k < l.length) : wAt s l most (k + 1) = wNum (wAt s l most k) (l[k]) 2 := by
  unfold wAt
  rw [List.take_succ_eq_append_getElem hk, List.foldl_append]; rfl
theorem wAt_end (s : List Int × Int) (l : List Int) (most : Int) : wAt s l most l.length = wList s l most := by
  unfold wAt; rw [List.take_length]; rfl
theorem wAt_stop (s : List Int × Int) (l : List Int) (most : Int) (k : Nat) (h : (wAt s l most k).2 ≠ 0) : wAt s l most k = wList s l most := by
  have e : wList s l most = (l.drop k).foldl (fun s x => wNum s x 2) (wAt s l most k) := by
    unfold wAt; rw [← List.foldl_append, List.take_append_drop]; rfl
  rw [e, wNums_stick _ _ h]
theorem wAt_len (s : List Int × Int) (l : List Int) (most : Int) (k : Nat) (hk : k ≤ l.length) : (wAt s l most k).1.length ≤ s.1.length + 4 + 2 * k := by
  unfold wAt
  refine Nat.le_trans (wNums_len _ _) ?_
  have : (wHead s l.length most).1.length ≤ s.1.length + 4 := by
    unfold wHead
    split
    · rw [wFail_len]; omega
    · have := wPut_len s (bigL l.length 4); rw [bigL_length] at this; omega
  rw [List.length_take]; omega

set_option maxHeartbeats 4000000 in
theorem wcl_is (x : Int) (W : World) (base g : Nat) (v : Value) (s : List Int × Int) (hw : WrAt W base g v s.1 s.2) (hbase : base ≤ W.heap.size) (hl : s.1.length + 2 < 140737488355328) :
    Calls Try.prog 118 #[.pointer (some ⟨g, 0, none⟩), .int .i64 x] W (WPost W base g v (wNum s x 2)) := by
  have HN := Aside0.mk (wU16_any x W base g v s hw hbase hl)
  clear hw hl
  go_enter Try.func118, Try.ntmps118
  go_wp2_with (go_at_call 73; refine HN.out.mono ?_; rintro e w' ⟨⟨vr, rfl⟩, v', hw', hk⟩)
  go_end0
  exact ⟨⟨_, rfl⟩, v', hw', hk⟩

set_option maxHeartbeats 4000000 in
theorem lstcl_any (A : Option Addr) (c n : Nat) (most : Int) (g1 g2 : Nat) (w : World) (hn : n < 140737488355328) (c1 : w.cell? ⟨g1, 0, none⟩ = some (.slice A n c)) (c2 : w.cell? ⟨g2, 0, none⟩ = some (.int .i64 most)) :
    Calls Try.prog 126 #[.pointer (some ⟨g1, 0, none⟩), .pointer (some ⟨g2, 0, none⟩)] w (Tells w (if most < (n : Int) then [] else bigL n 4) (if most < (n : Int) then 1 else 0)) := by
  by_cases h : most < (n : Int)
  · rw [if_pos h, if_pos h]
    go_enter Try.func126, Try.ntmps126
    go_wp2
    repeat (go_quiet (fail); try go_wp2)
    go_ret2
    exact tells_none ⟨rfl, by repeat (first | exact Below.refl _ _ | apply pw_below_drewN | apply below_drew1)⟩
  · rw [if_neg h, if_neg h]
    have hq : IntKind.u64.wrap (n : Int) = (n : Int) := IntWalk.u64_in _ (by omega)
    obtain ⟨k, hk⟩ := big_is (n : Int) 4 (by omega) (by omega) (by omega)
    rw [show (4 : Int).toNat = 4 from rfl] at hk
    have HK := Aside0.mk (fun w => codec_big.calls k (n : Int) 4 _ w hk)
    clear hk
    go_enter Try.func126, Try.ntmps126
    go_wp2_with (go_at_call 63; refine (HK.out _).mono ?_; rintro e w' ⟨v0, rfl, hR, hB⟩)
    go_ret2
    exact tells_of_R ⟨_, rfl, hR, by first | exact hB | exact below_drewN_back hB⟩

set_option maxHeartbeats 4000000 in
set_option maxRecDepth 100000 in
theorem putList_is (A : Option Addr) (c : Nat) (l : List Int) (most : Int) (W : World) (base g : Nat) (v : Value) (s : List Int × Int) (hF : Kd.F (Kd.int .i64) W (fun k => k ≠ g ∧ some k ≠ v.ownBlock) A l.length l)
    (hw : WrAt W base g v s.1 s.2) (hbase : base ≤ W.heap.size) (hl : s.1.length + 4 + 2 * l.length < 140737488355328) :
    Calls Try.prog 84 #[.pointer (some ⟨g, 0, none⟩), .slice A l.length c, .int .i64 most, .func (.func 118) #[] #[]] W (WPost W base g v (wList s l most)) := by
  have hu93 := Try.underlying93
  obtain ⟨W2, hW2⟩ : ∃ W2, (W.alloc (.cells #[.slice A l.length c] 56)).alloc (.cells #[.int .i64 most] 3) = W2 := ⟨_, rfl⟩
  have hB : Below W.heap.size W W2 := by rw [← hW2]; exact ((Below.refl _ _).alloc (Nat.le_refl _) _).alloc (by simp) _
  have b1 : W2.heap[W.heap.size]? = some (.cells #[.slice A l.length c] 56 (0, 0)) := by rw [← hW2]; exact blk_alloc (heap_alloc_new _ _) _
  have b2 : W2.heap[W.heap.size + 1]? = some (.cells #[.int .i64 most] 3 (0, 0)) := by
    rw [← hW2]
    have := heap_alloc_new (W.alloc (.cells #[.slice A l.length c] 56)) (.cells #[.int .i64 most] 3)
    rwa [World.size_alloc] at this
  have hg := blk_lt hw.blk
  have hro : some W.heap.size ≠ v.ownBlock := fun e => by have := (row_lt hw.row e.symm).2; omega
  have hd := doF_lst W.heap.size (W.heap.size + 1) W2 base g v s (if most < (l.length : Int) then [] else bigL l.length 4) (if most < (l.length : Int) then 1 else 0) (hw.below hB) (Nat.le_trans hbase hB.size)
    (by split; simp; omega; rw [bigL_length]; omega) (lstcl_any A c l.length most _ _ W2 (by omega) ((blk_cell b1 0).trans rfl) ((blk_cell b2 0).trans rfl)) (by intro h; split at h; rw [if_pos (by assumption)]; exact absurd rfl h)
  have e : (if (if most < (l.length : Int) then (1 : Int) else 0) = 0 then wPut s (if most < (l.length : Int) then [] else bigL l.length 4) else wFail s (if most < (l.length : Int) then 1 else 0)) = wHead s l.length most := by
    unfold wHead
    by_cases h : most < (l.length : Int)
    · rw [if_pos h, if_neg (by decide), if_pos h]
    · rw [if_neg h, if_pos rfl, if_neg h, if_neg h]
  rw [e] at hd
  have hl0 := Aside0.mk (fun k (hk : k ≤ l.length) => wAt_len s l most k hk)
  have HD := Aside0.mk hd
  have HB := Aside0.mk hB
  have HF := Aside0.mk hF
  have HLB := Aside0.mk hl
  have hlen : l.length < 140737488355328 := by omega
  have HB1 := Aside0.mk b1
  have HG := Aside0.mk hg
  have HRO := Aside0.mk hro
  subst hW2
  clear hd hB hF hl b1 b2 hw hg hro e
  obtain ⟨n, hn⟩ : ∃ n, l.length = n := ⟨_, rfl⟩
  have HNL := Aside0.mk hn
  rw [hn] at hlen HD HB HB1 ⊢
  clear hn
  go_enter Try.func84, Try.ntmps84
  go_wp2_with (go_at_call 123; refine HD.out.mono ?_; rintro e w1 ⟨⟨vr, rfl⟩, v1, hw1, hk1⟩; have y1 := (blk_cell ((hk1.block W.heap.size (by simp; omega) (by have := HG.out; omega) HRO.out).trans HB1.out) 0).trans rfl; have HW1 := Aside0.mk hw1; have HK1 := Aside0.mk (hk1.behind HB.out); clear hw1 hk1)
  clear y1
  go_loopw [15] (fun vi wr => ∃ (k : Nat) (v' : Value), vi = .int .i64 (k : Nat) ∧ k ≤ n ∧ Aside0 (WrAt wr base g v' (wAt s l most k).1 (wAt s l most k).2) ∧ Aside0 (WrKeeps W wr g v v')) (fun vi _ => n - (intOf vi).toNat)
  case atStart => exact ⟨0, v1, rfl, Nat.zero_le _, ⟨by rw [wAt_zero, HNL.out]; exact HW1.out⟩, HK1⟩
  case round =>
    obtain ⟨k, v', rfl, hk, HW, HK⟩ := hrel
    by_cases hlt : k < n
    · have hC := Kd.F_now (Kd.F_step HF.out (fun b hb hlt => HK.out.block b hlt hb.1 hb.2))
      obtain ⟨ad, e, hx⟩ := Kd.at_int hC (k : Int) (by omega) (by have := HNL.out; omega)
      cases e
      have hxe : rd l (k : Int) = l[k]'(by have := HNL.out; omega) := by simp [rd, List.getD_eq_getElem?_getD, show k < l.length by have := HNL.out; omega]
      have HS := Aside0.mk (wAt_succ s l most k (by have := HNL.out; omega))
      have hlenk := hl0.out k (by have := HNL.out; omega)
      have hbd : (wAt s l most k).1.length + 2 < 140737488355328 := by have := HLB.out; have := HNL.out; omega
      have HCL := Aside0.mk (wcl_is (l[k]'(by have := HNL.out; omega)) wr base g v' (wAt s l most k) HW.out (Nat.le_trans hbase HK.out.size) hbd)
      have HST := Aside0.mk (fun h => wAt_stop s l most k h)
      rw [hxe] at hx
      rw [Int.toNat_natCast] at hx
      have j1 := (blk_cell HW.out.blk 1).trans rfl
      generalize (l[k]'(by have := HNL.out; omega)) = x at *
      obtain ⟨f, hf⟩ : ∃ f, (wAt s l most k).2 = f := ⟨_, rfl⟩
      rw [hf] at j1
      have HFE := Aside0.mk hf
      clear hf hC hxe hlenk hbd
      by_cases h0 : f = 0
      · subst h0
        go_wp2_with (go_at_call 118; refine HCL.out.mono ?_; rintro e w2 ⟨⟨vr2, rfl⟩, v2, hw2, hk2⟩; have HW2 := Aside0.mk hw2; have HK2 := Aside0.mk (HK.out.trans hk2); clear hw2 hk2)
        go_roundw
        case rel => exact ⟨k + 1, v2, by go_num, by omega, ⟨by rw [HS.out]; exact HW2.out⟩, HK2⟩
        case measure => simp [intOf]; omega
      · have h1 : (f == 0) = false := by rw [beq_eq_false_iff_ne]; exact h0
        have h2 : (f != 0) = true := by rw [bne_iff_ne]; exact h0
        go_wp2
        go_end0
        refine ⟨⟨_, rfl⟩, v', ?_, HK.out⟩
        rw [← HST.out (by rw [HFE.out]; exact h0)]
        exact HW.out
    · obtain rfl : k = n := by omega
      have HE := Aside0.mk (show wAt s l most k = wList s l most by rw [← HNL.out]; exact wAt_end s l most)
      go_wp2
      go_end0
      refine ⟨⟨_, rfl⟩, v', ?_, HK.out⟩
      rw [← HE.out]
      exact HW.out
end Go.Proofs.Ytceeoifbimlkdaa.B
