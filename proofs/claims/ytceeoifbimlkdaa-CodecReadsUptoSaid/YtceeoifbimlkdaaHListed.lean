/- Proved: the contract of the law's listed: a list of numbers of two bytes by the document. Conditions: bounds of the lengths; what lies there are bytes. -/
import Derived.Test.YtceeoifbimlkdaaHRI
namespace Go.Proofs.Ytceeoifbimlkdaa.B
open Go.RowKit Go.Proofs.YtceeoifbimlkdaaW.PrintWords Go.Proofs.YtceeoifbimlkdaaW.PrintLast Go.Proofs.YtceeoifbimlkdaaW.PrintMore

/-- What listed leaves. -/
def LsPost (W : World) (q : Nat) (Ab : Option Addr) (cb : Nat) (b : List Int) (xs : List Int) (t' : List Int × Int) (e : Ending) (w' : World) : Prop :=
  ∃ l : Sl, e = .returned (.slice l.A l.n l.c) ∧ Own .i64 3 w' W.heap.size l xs ∧ (∃ a', InAt w' q Ab cb b a' t') ∧ KeepBut W w' q none ∧ ∀ B, B ≤ q → Below B W w'
theorem InGrow.post {W W1 w' : World} {q : Nat} {Ab : Option Addr} {cb : Nat} {b : List Int} {st : List Int × Int} {t : Sl} {acc : List Int} (h : InGrow W1 w' q Ab cb b st t acc) (hk : KeepBut W W1 q none) (hb : ∀ B, B ≤ q → Below B W W1) (hq : q < W.heap.size) : KeepBut W w' q none ∧ ∀ B, B ≤ q → Below B W w' := by
  refine ⟨⟨Nat.le_trans hk.1 h.size, fun k h1 h2 h3 => (h.block k (Nat.lt_of_lt_of_le h1 hk.1) h2).trans (hk.2 k h1 h2 h3)⟩, fun B hB => ?_⟩
  have h0 := hb B hB
  exact ⟨h.os.trans h0.os, h.tape.trans h0.tape, h.out.trans h0.output, Nat.le_trans h0.size h.size, fun k h1 => (h.block k (by have := h0.size; omega) (by omega)).trans (h0.block k h1)⟩
theorem inList_of {t : List Int × Int} {most : Int} {m : Nat} (h : (inCnt t most).1 = (m : Int)) {acc : List Int} {st : List Int × Int} (hT : inGets m (inCnt t most).2 [] = (acc, st)) : inList t most = (if st.2 = 0 then acc else [], st) := by
  unfold inList
  rw [h, Int.toNat_natCast, hT]
set_option maxHeartbeats 8000000 in
set_option maxRecDepth 100000 in
theorem listed_is (most : Int) (W : World) (q : Nat) (Ab : Option Addr) (cb : Nat) (b : List Int) (a : Nat) (t : List Int × Int) (h : InAt W q Ab cb b a t) (hab : 0 < b.length → ∀ ad, Ab = some ad → ad.block < W.heap.size) (hl : b.length ≤ 4398046511104) (hw : BytesOk b) :
    Calls Try.prog 99 #[.pointer (some ⟨q, 0, none⟩), .int .i64 most] W (LsPost W q Ab cb b (inList t most).1 (inList t most).2) := by
  have hu64 := Try.underlying64
  have HC := Aside0.mk (inCount_is most W q Ab cb b a t h hl hw)
  have hbd := inCnt_bd t most (h.ok hw)
  have htl : t.1.length ≤ b.length := by rw [h.rest, List.length_drop]; omega
  obtain ⟨T, hT⟩ : ∃ T, inList t most = T := ⟨_, rfl⟩
  rw [hT]
  obtain ⟨m, hm⟩ : ∃ m : Nat, (inCnt t most).1 = (m : Int) := ⟨(inCnt t most).1.toNat, by omega⟩
  have hmb : m ≤ 4398046511104 := by omega
  have HE := Aside0.mk (fun acc st (h1 : inGets m (inCnt t most).2 [] = (acc, st)) => (inList_of hm h1).symm.trans hT)
  rw [hm] at HC
  generalize (inCnt t most).2 = st0 at *
  have HQ := Aside0.mk (blk_lt h.blk)
  have HAB := Aside0.mk hab
  have HLB := Aside0.mk hl
  have HWB := Aside0.mk hw
  clear h hab hl hw hbd htl hT hm
  go_enter Try.func99, Try.ntmps99
  go_wp2_with (go_at_call 97; have HCC := HC.out; (with_reducible refine HCC.mono ?_); rintro e w1 ⟨rfl, hI, hK, hB⟩; have HK := Aside0.mk hK; have HB := Aside0.mk hB; have HG0 := Aside0.mk (show InGrow w1 w1 q Ab cb b st0 ⟨none, 0, 0⟩ [] from ⟨hI, Own.nil, rfl, rfl, rfl, Nat.le_refl _, fun _ _ _ => rfl⟩); have HQ1 := Aside0.mk (Nat.lt_of_lt_of_le HQ.out hK.1); have HAB1 := Aside0.mk (show 0 < b.length → ∀ ad, Ab = some ad → ad.block < w1.heap.size from fun hb ad e => Nat.lt_of_lt_of_le (HAB.out hb ad e) hK.1); clear hI hK hB HCC HC)
  go_loopw [5, 7] (fun v5 v7 wr => ∃ (k : Nat) (tt : Sl) (acc : List Int) (st : List Int × Int), v7 = .int .i64 (k : Nat) ∧ k ≤ m ∧ v5 = .slice tt.A tt.n tt.c ∧ Aside0 (InGrow w1 wr q Ab cb b st tt acc) ∧ Aside0 (inGets (m - k) st acc = inGets m st0 [] ∧ acc.length = k)) (fun _ v7 _ => m - (intOf v7).toNat)
  case atStart => exact ⟨0, ⟨none, 0, 0⟩, [], st0, rfl, Nat.zero_le _, rfl, HG0, ⟨by rw [Nat.sub_zero], rfl⟩⟩
  case round =>
    clear HG0
    obtain ⟨k, tt, acc, st, rfl, hk, rfl, HG, HI⟩ := hrel
    obtain ⟨f6, hf6⟩ : ∃ f, st.2 = f := ⟨_, rfl⟩
    have j1 : wr.cell? ⟨q, 2, none⟩ = some (.int .i64 f6) := by rw [← hf6]; obtain ⟨a, h1⟩ := HG.out.io; exact (blk_cell h1.blk 2).trans rfl
    by_cases h0 : f6 = 0
    · subst h0
      by_cases hlt : k < m
      · have hii : (k : Int) < (m : Int) := by omega
        have HU := Aside0.mk (show Calls Try.prog 91 #[.pointer (some ⟨q, 0, none⟩)] wr (IPost wr q Ab cb b (.int .i64 (rNum st 2).1) (rNum st 2).2) from by
          obtain ⟨a, h1⟩ := HG.out.io
          exact inU16_is wr q Ab cb b a st h1 HLB.out HWB.out)
        have HS := Aside0.mk (show inGets (m - (k + 1)) (rNum st 2).2 (acc ++ [(rNum st 2).1]) = inGets m st0 [] by
          rw [← HI.out.1, show m - k = (m - (k + 1)) + 1 by omega]
          unfold inGets
          rw [if_pos hf6]
          cases m - (k + 1) <;> rfl)
        generalize (rNum st 2).1 = X at *
        generalize (rNum st 2).2 = st2 at *
        have HLL := Aside0.mk (show (acc.length + 1) * 8 ≤ 140737488355328 by have := HI.out.2; omega)
        clear hf6
        go_wp2_with (first
          | (go_at_call 91; have HCC := HU.out; (with_reducible refine HCC.mono ?_); rintro e w7 hp; have he := hp.1; subst he; have HG7 := Aside0.mk (HG.out.call HQ1.out hp); clear hp HCC HU)
          | ((with_reducible refine gate_builtin (b := .append) (xs := #[.tmp 23, .tmp 26]) rfl ?_); at_builtin; refine print_append_both (w0 := w7) w1.heap.size rfl (.tmp 23) (.tmp 26) 56 3 (.int .i64 0) 8 rfl Try.underlying56 infoInt rfl (by decide) (.slice tt.A tt.n tt.c) (nums .i64 acc) (.int .i64 X) rfl rfl rfl ?aO ?aB ?aS ?aL ?_; (case aO => rw [nums_length]; exact HG7.out.lo); (case aB => exact Below.refl _ _); (case aS => exact HG7.out.size); (case aL => rw [nums_length]; exact HLL.out); intro v1 w8 ho _ hb hg hat; obtain ⟨t1, rfl, hsn⟩ := own_more_sl ho; have HG8 := Aside0.mk (HG7.out.push HQ1.out HAB1.out (own_more ho rfl) hg); clear ho hb hg hat hsn))
        go_roundw
        case rel => exact ⟨k + 1, t1, _, st2, by go_num, by omega, rfl, HG8, ⟨HS.out, by rw [List.length_append, HI.out.2]; rfl⟩⟩
        case measure => simp [intOf]; omega
      · have hne : ¬ ((k : Int) < (m : Int)) := by omega
        have HF := Aside0.mk (HE.out acc st (by rw [← HI.out.1, show m - k = 0 by omega]; rfl))
        have HF0 := Aside0.mk hf6
        clear hlt hk hf6
        go_wp2
        go_ret
        have h9 := HF.out
        rw [HF0.out, if_pos rfl] at h9
        rw [← h9]
        obtain ⟨p1, p2⟩ := HG.out.post HK.out HB.out HQ.out
        exact ⟨tt, rfl, HG.out.lo.lower HK.out.1, HG.out.io, p1, p2⟩
    · have HF := Aside0.mk (HE.out acc st (by rw [← HI.out.1]; exact inGets_flt _ _ _ (by rw [hf6]; exact h0)))
      have hq1 : (f6 == 0) = false := by rw [beq_eq_false_iff_ne]; exact h0
      have hq2 : (f6 != 0) = true := by rw [bne_iff_ne]; exact h0
      have HF0 := Aside0.mk hf6
      clear hf6
      by_cases hlt : k < m
      · have hii : (k : Int) < (m : Int) := by omega
        go_wp2
        go_ret
        have h9 := HF.out
        rw [HF0.out, if_neg h0] at h9
        rw [← h9]
        obtain ⟨p1, p2⟩ := HG.out.post HK.out HB.out HQ.out
        exact ⟨⟨none, 0, 0⟩, rfl, Own.nil, HG.out.io, p1, p2⟩
      · have hne : ¬ ((k : Int) < (m : Int)) := by omega
        go_wp2
        go_ret
        have h9 := HF.out
        rw [HF0.out, if_neg h0] at h9
        rw [← h9]
        obtain ⟨p1, p2⟩ := HG.out.post HK.out HB.out HQ.out
        exact ⟨⟨none, 0, 0⟩, rfl, Own.nil, HG.out.io, p1, p2⟩
end Go.Proofs.Ytceeoifbimlkdaa.B
