/- Proved: a Reader beside an In: what each call leaves; the law's listed. Conditions: bounds of the lengths; what lies there are bytes. -/
import Derived.Test.YtceeoifbimlkdaaHIn2
import Derived.Test.YtceeoifbimlkdaaHGetC
namespace Go.Proofs.Ytceeoifbimlkdaa.B
open Go.RowKit Go.Proofs.YtceeoifbimlkdaaW.PrintWords Go.Proofs.YtceeoifbimlkdaaW.PrintLast Go.Proofs.YtceeoifbimlkdaaW.PrintMore

/-- A step that keeps all but two blocks. -/
structure RK (W w' : World) (g q : Nat) : Prop where
  os : w'.os = W.os
  tape : w'.tape = W.tape
  out : w'.output = W.output
  size : W.heap.size ≤ w'.heap.size
  block : ∀ k, k < W.heap.size → k ≠ g → k ≠ q → w'.heap[k]? = W.heap[k]?
section
variable {W w w' : World} {g q : Nat}
theorem RK.refl : RK W W g q := ⟨rfl, rfl, rfl, Nat.le_refl _, fun _ _ _ _ => rfl⟩
theorem RK.trans (h : RK W w g q) (k : RK w w' g q) : RK W w' g q := ⟨k.os.trans h.os, k.tape.trans h.tape, k.out.trans h.out, Nat.le_trans h.size k.size, fun b hb h1 h2 => (k.block b (Nat.lt_of_lt_of_le hb h.size) h1 h2).trans (h.block b hb h1 h2)⟩
theorem RK.of_below (h : Below W.heap.size W w') : RK W w' g q := ⟨h.os, h.tape, h.output, h.size, fun b hb _ _ => h.block b hb⟩
theorem RK.below {base : Nat} (h : RK W w' g q) (h1 : base ≤ g) (h2 : base ≤ q) (h3 : base ≤ W.heap.size) : Below base W w' := ⟨h.os, h.tape, h.out, h.size, fun k hk => h.block k (by omega) (by omega) (by omega)⟩
theorem RK.ofR (h : KeepBut W w' g none) (hb : ∀ B, B ≤ g → Below B W w') : RK W w' g q := ⟨(hb 0 (Nat.zero_le _)).os, (hb 0 (Nat.zero_le _)).tape, (hb 0 (Nat.zero_le _)).output, h.1, fun k hk h1 _ => h.2 k hk h1 (by simp)⟩
theorem RK.ofI (h : KeepBut W w' q none) (hb : ∀ B, B ≤ q → Below B W w') : RK W w' g q := ⟨(hb 0 (Nat.zero_le _)).os, (hb 0 (Nat.zero_le _)).tape, (hb 0 (Nat.zero_le _)).output, h.1, fun k hk _ h2 => h.2 k hk h2 (by simp)⟩
theorem RK.grown {row : Option Nat} (hg : W.grownBy w' row) (hr : ∀ b, row = some b → W.heap.size ≤ b) : RK W w' g q := ⟨hg.os, hg.tape, hg.output, hg.size, fun k hk _ _ => hg.block k hk fun e => by have := hr k e.symm; omega⟩
end
/-- A Reader and an In over the same bytes. -/
structure RI (W : World) (g : Nat) (A : Option Addr) (q : Nat) (Ab : Option Addr) (cb : Nat) (b : List Int) (s t : List Int × Int) : Prop where
  rd : ∃ A2 c2, RdAt W g A2 c2 s.1 s.2 ∧ BlkOf A2 A
  io : ∃ a, InAt W q Ab cb b a t
  ne : g ≠ q
  offA : ∀ ad, A = some ad → ad.block ≠ g ∧ ad.block ≠ q ∧ ad.block < W.heap.size
  offB : 0 < b.length → ∀ ad, Ab = some ad → ad.block ≠ g ∧ ad.block ≠ q ∧ ad.block < W.heap.size
/-- The blocks that they stand on. -/
def RFoot (g : Nat) (A : Option Addr) (q : Nat) (Ab : Option Addr) (b : List Int) (k : Nat) : Prop := k = g ∨ k = q ∨ (∃ ad, A = some ad ∧ ad.block = k) ∨ (0 < b.length ∧ ∃ ad, Ab = some ad ∧ ad.block = k)
theorem InAt.move {W W' : World} {g : Nat} {A : Option Addr} {c : Nat} {b : List Int} {a : Nat} {s : List Int × Int} (h : InAt W g A c b a s) (h1 : W'.heap[g]? = W.heap[g]?) (h2 : 0 < b.length → ∀ ad, A = some ad → W'.heap[ad.block]? = W.heap[ad.block]?) : InAt W' g A c b a s :=
  ⟨h.le, h.rest, h1.trans h.blk, h.room, c_blk2 h.row h2, h.off⟩
section
variable {W w' : World} {g : Nat} {A : Option Addr} {q : Nat} {Ab : Option Addr} {cb : Nat} {b : List Int} {s t s' t' : List Int × Int} {e : Ending} {val : Value}
theorem RI.g_lt (h : RI W g A q Ab cb b s t) : g < W.heap.size := by obtain ⟨A2, c2, h1, _⟩ := h.rd; exact blk_lt h1.blk
theorem RI.q_lt (h : RI W g A q Ab cb b s t) : q < W.heap.size := by obtain ⟨a, h1⟩ := h.io; exact blk_lt h1.blk
theorem RI.foot_lt (h : RI W g A q Ab cb b s t) (k : Nat) (hk : RFoot g A q Ab b k) : k < W.heap.size := by
  rcases hk with rfl | rfl | ⟨ad, e, rfl⟩ | ⟨hb, ad, e, rfl⟩
  · exact h.g_lt
  · exact h.q_lt
  · exact (h.offA ad e).2.2
  · exact (h.offB hb ad e).2.2
theorem RI.move (h : RI W g A q Ab cb b s t) (hs : W.heap.size ≤ w'.heap.size) (hk : ∀ k, RFoot g A q Ab b k → w'.heap[k]? = W.heap[k]?) : RI w' g A q Ab cb b s t := by
  refine ⟨?_, ?_, h.ne, fun ad e => ⟨(h.offA ad e).1, (h.offA ad e).2.1, Nat.lt_of_lt_of_le (h.offA ad e).2.2 hs⟩, fun hb ad e => ⟨(h.offB hb ad e).1, (h.offB hb ad e).2.1, Nat.lt_of_lt_of_le (h.offB hb ad e).2.2 hs⟩⟩
  · obtain ⟨A2, c2, h1, h2⟩ := h.rd
    refine ⟨A2, c2, h1.lowF ?_, h2⟩
    rintro k (rfl | ⟨ad, e, rfl⟩)
    · exact hk _ (.inl rfl)
    · obtain ⟨a1, e1, e2⟩ := h2 ad e
      rw [e2]
      exact hk _ (.inr (.inr (.inl ⟨a1, e1, rfl⟩)))
  · obtain ⟨a, h1⟩ := h.io
    exact ⟨a, h1.move (hk _ (.inr (.inl rfl))) fun hb ad e => hk _ (.inr (.inr (.inr ⟨hb, ad, e, rfl⟩)))⟩
theorem RI.below (h : RI W g A q Ab cb b s t) (hb : Below W.heap.size W w') : RI w' g A q Ab cb b s t := h.move hb.size fun k hk => hb.block k (h.foot_lt k hk)
theorem RI.grown {row : Option Nat} (h : RI W g A q Ab cb b s t) (hg : W.grownBy w' row) (hr : ∀ b, row = some b → W.heap.size ≤ b) : RI w' g A q Ab cb b s t := h.move hg.size fun k hk => hg.block k (h.foot_lt k hk) fun e => by have := hr k e.symm; have := h.foot_lt k hk; omega
/-- Behind a step of the Reader alone. -/
theorem RI.stepR (h : RI W g A q Ab cb b s t) {A2 : Option Addr} (hb2 : BlkOf A2 A) (hr : ∃ A3 c3, RdAt w' g A3 c3 s'.1 s'.2 ∧ BlkOf A3 A2) (hk : KeepBut W w' g none) : RI w' g A q Ab cb b s' t := by
  obtain ⟨A3, c3, h1, h2⟩ := hr
  refine ⟨⟨A3, c3, h1, hb2.trans h2⟩, ?_, h.ne, fun ad e => ⟨(h.offA ad e).1, (h.offA ad e).2.1, Nat.lt_of_lt_of_le (h.offA ad e).2.2 hk.1⟩, fun hb ad e => ⟨(h.offB hb ad e).1, (h.offB hb ad e).2.1, Nat.lt_of_lt_of_le (h.offB hb ad e).2.2 hk.1⟩⟩
  obtain ⟨a, h3⟩ := h.io
  exact ⟨a, h3.move (hk.2 q h.q_lt h.ne.symm (by simp)) fun hb ad e => hk.2 _ (h.offB hb ad e).2.2 (h.offB hb ad e).1 (by simp)⟩
/-- Behind a step of the In alone. -/
theorem RI.stepI (h : RI W g A q Ab cb b s t) (hi : ∃ a', InAt w' q Ab cb b a' t') (hk : KeepBut W w' q none) : RI w' g A q Ab cb b s t' := by
  refine ⟨?_, hi, h.ne, fun ad e => ⟨(h.offA ad e).1, (h.offA ad e).2.1, Nat.lt_of_lt_of_le (h.offA ad e).2.2 hk.1⟩, fun hb ad e => ⟨(h.offB hb ad e).1, (h.offB hb ad e).2.1, Nat.lt_of_lt_of_le (h.offB hb ad e).2.2 hk.1⟩⟩
  obtain ⟨A2, c2, h1, h2⟩ := h.rd
  refine ⟨A2, c2, h1.lowF ?_, h2⟩
  rintro k (rfl | ⟨ad, e, rfl⟩)
  · exact hk.2 _ h.g_lt h.ne (by simp)
  · obtain ⟨a1, e1, e2⟩ := h2 ad e
    rw [e2]
    exact hk.2 _ (h.offA a1 e1).2.2 (h.offA a1 e1).2.1 (by simp)
/-- What a call leaves. -/
def RIPost (W : World) (g : Nat) (A : Option Addr) (q : Nat) (Ab : Option Addr) (cb : Nat) (b : List Int) (val : Value) (s' t' : List Int × Int) (e : Ending) (w' : World) : Prop := e = .returned val ∧ RI w' g A q Ab cb b s' t' ∧ RK W w' g q
theorem RI.ofR (h : RI W g A q Ab cb b s t) {A2 : Option Addr} (hb2 : BlkOf A2 A) (hp : RPost W g A2 val s' e w') : RIPost W g A q Ab cb b val s' t e w' := ⟨hp.1, h.stepR hb2 hp.2.1 hp.2.2.1, RK.ofR hp.2.2.1 hp.2.2.2⟩
theorem RI.ofI (h : RI W g A q Ab cb b s t) (hp : IPost W q Ab cb b val t' e w') : RIPost W g A q Ab cb b val s t' e w' := ⟨hp.1, h.stepI hp.2.1 hp.2.2.1, RK.ofI hp.2.2.1 hp.2.2.2⟩
end
section
variable (W : World) (g : Nat) (A : Option Addr) (q : Nat) (Ab : Option Addr) (cb : Nat) (b : List Int) (s t : List Int × Int)
theorem riU8 (h : RI W g A q Ab cb b s t) (hw : BytesOk s.1) : Calls Try.prog 50 #[.pointer (some ⟨g, 0, none⟩)] W (RIPost W g A q Ab cb b (.int .i64 (rNum s 1).1) (rNum s 1).2 t) := by
  obtain ⟨A2, c2, h1, h2⟩ := h.rd
  exact (rU8_any W g A2 c2 s h1 hw).mono fun e w' hp => h.ofR h2 hp
theorem riU16 (h : RI W g A q Ab cb b s t) (hw : BytesOk s.1) : Calls Try.prog 51 #[.pointer (some ⟨g, 0, none⟩)] W (RIPost W g A q Ab cb b (.int .i64 (rNum s 2).1) (rNum s 2).2 t) := by
  obtain ⟨A2, c2, h1, h2⟩ := h.rd
  exact (rU16_any W g A2 c2 s h1 hw).mono fun e w' hp => h.ofR h2 hp
theorem riU32 (h : RI W g A q Ab cb b s t) (hw : BytesOk s.1) : Calls Try.prog 52 #[.pointer (some ⟨g, 0, none⟩)] W (RIPost W g A q Ab cb b (.int .i64 (rNum s 4).1) (rNum s 4).2 t) := by
  obtain ⟨A2, c2, h1, h2⟩ := h.rd
  exact (rU32_any W g A2 c2 s h1 hw).mono fun e w' hp => h.ofR h2 hp
theorem riI64 (h : RI W g A q Ab cb b s t) (hw : BytesOk s.1) : Calls Try.prog 53 #[.pointer (some ⟨g, 0, none⟩)] W (RIPost W g A q Ab cb b (.int .i64 (wrap64 (rNum s 8).1)) (rNum s 8).2 t) := by
  obtain ⟨A2, c2, h1, h2⟩ := h.rd
  exact (rI64_any W g A2 c2 s h1 hw).mono fun e w' hp => h.ofR h2 hp
theorem riBool (h : RI W g A q Ab cb b s t) (hw : BytesOk s.1) : Calls Try.prog 54 #[.pointer (some ⟨g, 0, none⟩)] W (RIPost W g A q Ab cb b (.bool (rBool s).1) (rBool s).2 t) := by
  obtain ⟨A2, c2, h1, h2⟩ := h.rd
  exact (rBool_any W g A2 c2 s h1 hw).mono fun e w' hp => h.ofR h2 hp
theorem riDone (h : RI W g A q Ab cb b s t) : Calls Try.prog 41 #[.pointer (some ⟨g, 0, none⟩)] W fun e w' => e = .returned (.int .i64 (rLeftF s)) ∧ W = w' := by
  obtain ⟨A2, c2, h1, h2⟩ := h.rd
  exact rDone_any W g A2 c2 s h1
theorem riLeft (h : RI W g A q Ab cb b s t) : Calls Try.prog 43 #[.pointer (some ⟨g, 0, none⟩)] W fun e w' => e = .returned (.int .i64 (s.1.length : Nat)) ∧ W = w' := by
  obtain ⟨A2, c2, h1, h2⟩ := h.rd
  exact rLeft_is W g A2 c2 s.1 s.2 h1
/-- Behind Bytes: a row of the call's own. -/
theorem riBytes (n : Int) (h : RI W g A q Ab cb b s t) (hl : s.1.length < 140737488355328) : Calls Try.prog 55 #[.pointer (some ⟨g, 0, none⟩), .int .i64 n] W fun e w' => ∃ l : Sl, e = .returned (.slice l.A l.n l.c) ∧ Own .u8 5 w' W.heap.size l (rTake s n).1 ∧ RI w' g A q Ab cb b (rTake s n).2 t ∧ RK W w' g q := by
  obtain ⟨A2, c2, h1, h2⟩ := h.rd
  refine (rBytes_any W g A2 c2 s n h1 (blk_lt h1.blk) hl).mono fun e w' hp => ?_
  obtain ⟨v, rfl, hv, h3, h4, h5⟩ := hp
  obtain ⟨l, rfl, hl⟩ := Own.of_R hv
  exact ⟨l, rfl, hl, h.stepR h2 h3 h4, RK.ofR h4 h5⟩
theorem iiBytes (n : Int) (h : RI W g A q Ab cb b s t) (hl : b.length ≤ 4398046511104) : Calls Try.prog 95 #[.pointer (some ⟨q, 0, none⟩), .int .i64 n] W fun e w' => ∃ l : Sl, e = .returned (.slice l.A l.n l.c) ∧ Own .u8 5 w' W.heap.size l (rTake t n).1 ∧ RI w' g A q Ab cb b s (rTake t n).2 ∧ RK W w' g q := by
  obtain ⟨a, h1⟩ := h.io
  refine (inBytes_is n W q Ab cb b a t h1 hl).mono fun e w' hp => ?_
  obtain ⟨A', n', c', rfl, hv, h3, h4, h5⟩ := hp
  exact ⟨⟨A', n', c'⟩, rfl, hv, h.stepI h3 h4, RK.ofI h4 h5⟩
theorem iiU8 (h : RI W g A q Ab cb b s t) (hl : b.length ≤ 4398046511104) (hw : BytesOk b) : Calls Try.prog 90 #[.pointer (some ⟨q, 0, none⟩)] W (RIPost W g A q Ab cb b (.int .i64 (rNum t 1).1) s (rNum t 1).2) := by
  obtain ⟨a, h1⟩ := h.io
  exact (inU8_is W q Ab cb b a t h1 hl hw).mono fun e w' hp => h.ofI hp
theorem iiU16 (h : RI W g A q Ab cb b s t) (hl : b.length ≤ 4398046511104) (hw : BytesOk b) : Calls Try.prog 91 #[.pointer (some ⟨q, 0, none⟩)] W (RIPost W g A q Ab cb b (.int .i64 (rNum t 2).1) s (rNum t 2).2) := by
  obtain ⟨a, h1⟩ := h.io
  exact (inU16_is W q Ab cb b a t h1 hl hw).mono fun e w' hp => h.ofI hp
theorem iiU32 (h : RI W g A q Ab cb b s t) (hl : b.length ≤ 4398046511104) (hw : BytesOk b) : Calls Try.prog 92 #[.pointer (some ⟨q, 0, none⟩)] W (RIPost W g A q Ab cb b (.int .i64 (rNum t 4).1) s (rNum t 4).2) := by
  obtain ⟨a, h1⟩ := h.io
  exact (inU32_is W q Ab cb b a t h1 hl hw).mono fun e w' hp => h.ofI hp
theorem iiI64 (h : RI W g A q Ab cb b s t) (hl : b.length ≤ 4398046511104) (hw : BytesOk b) : Calls Try.prog 93 #[.pointer (some ⟨q, 0, none⟩)] W (RIPost W g A q Ab cb b (.int .i64 (wrap64 (rNum t 8).1)) s (rNum t 8).2) := by
  obtain ⟨a, h1⟩ := h.io
  exact (inI64_is W q Ab cb b a t h1 hl hw).mono fun e w' hp => h.ofI hp
theorem iiBool (h : RI W g A q Ab cb b s t) (hl : b.length ≤ 4398046511104) (hw : BytesOk b) : Calls Try.prog 94 #[.pointer (some ⟨q, 0, none⟩)] W (RIPost W g A q Ab cb b (.bool (rBool t).1) s (rBool t).2) := by
  obtain ⟨a, h1⟩ := h.io
  exact (inBool_is W q Ab cb b a t h1 hl hw).mono fun e w' hp => h.ofI hp
theorem iiCount (most : Int) (h : RI W g A q Ab cb b s t) (hl : b.length ≤ 4398046511104) (hw : BytesOk b) : Calls Try.prog 97 #[.pointer (some ⟨q, 0, none⟩), .int .i64 most] W (RIPost W g A q Ab cb b (.int .i64 (inCnt t most).1) s (inCnt t most).2) := by
  obtain ⟨a, h1⟩ := h.io
  exact (inCount_is most W q Ab cb b a t h1 hl hw).mono fun e w' hp => h.ofI hp
theorem iiDone (h : RI W g A q Ab cb b s t) : Calls Try.prog 42 #[.pointer (some ⟨q, 0, none⟩)] W fun e w' => e = .returned (.int .i64 (rLeftF t)) ∧ Below W.heap.size W w' := by
  obtain ⟨a, h1⟩ := h.io
  exact inDone_is W q Ab cb b a t h1
theorem iiLeft (h : RI W g A q Ab cb b s t) (hl : b.length < 140737488355328) : Calls Try.prog 44 #[.pointer (some ⟨q, 0, none⟩)] W fun e w' => e = .returned (.int .i64 (t.1.length : Nat)) ∧ Below W.heap.size W w' := by
  obtain ⟨a, h1⟩ := h.io
  exact inLeft_is W q Ab cb b a t h1 hl
def RGPost (W : World) (g : Nat) (A : Option Addr) (q : Nat) (Ab : Option Addr) (cb : Nat) (b : List Int) (xs : List Int) (s' t' : List Int × Int) (e : Ending) (w' : World) : Prop :=
  ∃ l : Sl, e = .returned (.slice l.A l.n l.c) ∧ OwnC .i64 3 w' W.heap.size l xs ∧ RI w' g A q Ab cb b s' t' ∧ RK W w' g q
theorem riListR (most : Int) (h : RI W g A q Ab cb b s t) (hw : BytesOk s.1) (hl : s.1.length < 140737488355328) : Calls Try.prog 56 #[.pointer (some ⟨g, 0, none⟩), .int .i64 most, .func (.func 96) #[] #[]] W (RGPost W g A q Ab cb b (rList s most).1 (rList s most).2 t) := by
  obtain ⟨A2, c2, h1, h2⟩ := h.rd
  exact (getListR_is W g A2 c2 s most h1 hw (fun ad e => by obtain ⟨a, e1, e2⟩ := h2 ad e; rw [e2]; exact (h.offA a e1).2.2) hl).mono fun e w' ⟨l, h3, h4, h5, h6, h7⟩ => ⟨l, h3, h4, h.stepR h2 h5 h6, RK.ofR h6 h7⟩
theorem riListU1 (most : Int) (h : RI W g A q Ab cb b s t) (hw : BytesOk s.1) (hl : s.1.length < 140737488355328) : Calls Try.prog 56 #[.pointer (some ⟨g, 0, none⟩), .int .i64 most, .func (.func 101) #[] #[]] W (RGPost W g A q Ab cb b (rList s most).1 (rList s most).2 t) := by
  obtain ⟨A2, c2, h1, h2⟩ := h.rd
  exact (getListU1_is W g A2 c2 s most h1 hw (fun ad e => by obtain ⟨a, e1, e2⟩ := h2 ad e; rw [e2]; exact (h.offA a e1).2.2) hl).mono fun e w' ⟨l, h3, h4, h5, h6, h7⟩ => ⟨l, h3, h4, h.stepR h2 h5 h6, RK.ofR h6 h7⟩
theorem riListU2 (most : Int) (h : RI W g A q Ab cb b s t) (hw : BytesOk s.1) (hl : s.1.length < 140737488355328) : Calls Try.prog 56 #[.pointer (some ⟨g, 0, none⟩), .int .i64 most, .func (.func 102) #[] #[]] W (RGPost W g A q Ab cb b (rList s most).1 (rList s most).2 t) := by
  obtain ⟨A2, c2, h1, h2⟩ := h.rd
  exact (getListU2_is W g A2 c2 s most h1 hw (fun ad e => by obtain ⟨a, e1, e2⟩ := h2 ad e; rw [e2]; exact (h.offA a e1).2.2) hl).mono fun e w' ⟨l, h3, h4, h5, h6, h7⟩ => ⟨l, h3, h4, h.stepR h2 h5 h6, RK.ofR h6 h7⟩
end
theorem inCnt_bd (s : List Int × Int) (most : Int) (hs : BytesOk s.1) : 0 ≤ (inCnt s most).1 ∧ (inCnt s most).1 ≤ s.1.length ∧ (inCnt s most).2.1.length ≤ s.1.length ∧ BytesOk (inCnt s most).2.1 := by
  have h1 := rNum_bd s 4 hs
  have h2 := rNum_len s 4
  have h3 := rNum_ok s 4 hs
  unfold inCnt
  split
  · split
    · exact ⟨Int.le_refl 0, by dsimp only; omega, Nat.le_refl _, hs⟩
    · split
      · exact ⟨Int.le_refl 0, by dsimp only; omega, Nat.le_refl _, hs⟩
      · exact ⟨h1.1, by dsimp only; omega, h2, h3⟩
  · exact ⟨Int.le_refl 0, by dsimp only; omega, h2, h3⟩
/-- The list that grows beside the In. -/
structure InGrow (W0 wr : World) (q : Nat) (Ab : Option Addr) (cb : Nat) (b : List Int) (st : List Int × Int) (t : Sl) (acc : List Int) : Prop where
  io : ∃ a, InAt wr q Ab cb b a st
  lo : Own .i64 3 wr W0.heap.size t acc
  os : wr.os = W0.os
  tape : wr.tape = W0.tape
  out : wr.output = W0.output
  size : W0.heap.size ≤ wr.heap.size
  block : ∀ k, k < W0.heap.size → k ≠ q → wr.heap[k]? = W0.heap[k]?
section
variable {W0 W W1 w' : World} {q : Nat} {Ab : Option Addr} {cb : Nat} {b : List Int} {st st' : List Int × Int} {t t1 : Sl} {acc : List Int} {x : Int} {val : Value} {e : Ending}
theorem InGrow.call (h : InGrow W0 W q Ab cb b st t acc) (hq : q < W0.heap.size) (hp : IPost W q Ab cb b val st' e w') : InGrow W0 w' q Ab cb b st' t acc := by
  obtain ⟨_, h1, h2, h3⟩ := hp
  have h0 := h3 0 (Nat.zero_le _)
  exact ⟨h1, h.lo.move fun k hk => h2.2 k (h.lo.lt k hk).2 (by have := (h.lo.lt k hk).1; omega) (by simp), h0.os.trans h.os, h0.tape.trans h.tape, h0.output.trans h.out, Nat.le_trans h.size h2.1, fun k hk hne => (h2.2 k (Nat.lt_of_lt_of_le hk h.size) hne (by simp)).trans (h.block k hk hne)⟩
theorem InGrow.bel (h : InGrow W0 W q Ab cb b st t acc) : Below q W0 W ∨ True := .inr trivial
theorem InGrow.push (h : InGrow W0 W q Ab cb b st t acc) (hq : q < W0.heap.size) (hab : 0 < b.length → ∀ ad, Ab = some ad → ad.block < W0.heap.size) (ho : Own .i64 3 w' W0.heap.size t1 (acc ++ [x])) (hg : W.grownBy w' t.v.ownBlock) : InGrow W0 w' q Ab cb b st t1 (acc ++ [x]) := by
  have hk : ∀ k, k < W0.heap.size → w'.heap[k]? = W.heap[k]? := fun k hk => hg.block k (Nat.lt_of_lt_of_le hk h.size) fun e1 => by have := (h.lo.lt k e1.symm).1; omega
  obtain ⟨a, h1⟩ := h.io
  exact ⟨⟨a, h1.move (hk q hq) fun hb ad e1 => hk _ (hab hb ad e1)⟩, ho, hg.os.trans h.os, hg.tape.trans h.tape, hg.output.trans h.out, Nat.le_trans h.size hg.size, fun k h2 h3 => (hk k h2).trans (h.block k h2 h3)⟩
end
end Go.Proofs.Ytceeoifbimlkdaa.B
