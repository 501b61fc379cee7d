/- Proved: the Shelf of the codec law with its lists of bytes and of ints, and the contracts of its keep and keepInts. Conditions: bounds of the lengths. -/
import Derived.Test.YtceeoifbimlkdaaHHalf
namespace Go.Proofs.Ytceeoifbimlkdaa.B
open Go.RowKit Go.Proofs.YtceeoifbimlkdaaW.PrintWords Go.Proofs.YtceeoifbimlkdaaW.PrintLast Go.Proofs.YtceeoifbimlkdaaW.PrintMore

/-- The shelf. -/
structure Sh2 (W : World) (base g : Nat) (B : HD) (fb fh : Nat → List Int) (I : HD) (fi ft : Nat → List Int) : Prop where
  low : base ≤ g
  blk : W.heap[g]? = some (.cells #[.slice B.A B.N B.c, .slice B.B B.M B.d, .slice I.A I.N I.c, .slice I.B I.M I.d] 91 (0, 0))
  b : Half .u8 5 37 W base B fb fh
  i : Half .i64 3 56 W base I fi ft
section
variable {W W' : World} {base g : Nat} {B : HD} {fb fh : Nat → List Int} {I : HD} {fi ft : Nat → List Int}
theorem Sh2.foot_lt (k : Sh2 W base g B fb fh I fi ft) (b : Nat) (h : b = g ∨ HFoot B b ∨ HFoot I b) : base ≤ b ∧ b < W.heap.size := by
  rcases h with rfl | h | h
  · exact ⟨k.low, blk_lt k.blk⟩
  · exact k.b.foot_lt b h
  · exact k.i.foot_lt b h
theorem Sh2.below (k : Sh2 W base g B fb fh I fi ft) (hb : Below W.heap.size W W') : Sh2 W' base g B fb fh I fi ft := ⟨k.low, (hb.block g (blk_lt k.blk)).trans k.blk, k.b.below hb, k.i.below hb⟩
theorem Sh2.c0 (k : Sh2 W base g B fb fh I fi ft) : W.cell? ⟨g, 0, none⟩ = some (.slice B.A B.N B.c) := (blk_cell k.blk 0).trans rfl
theorem Sh2.c1 (k : Sh2 W base g B fb fh I fi ft) : W.cell? ⟨g, 1, none⟩ = some (.slice B.B B.M B.d) := (blk_cell k.blk 1).trans rfl
theorem Sh2.c2 (k : Sh2 W base g B fb fh I fi ft) : W.cell? ⟨g, 2, none⟩ = some (.slice I.A I.N I.c) := (blk_cell k.blk 2).trans rfl
theorem Sh2.c3 (k : Sh2 W base g B fb fh I fi ft) : W.cell? ⟨g, 3, none⟩ = some (.slice I.B I.M I.d) := (blk_cell k.blk 3).trans rfl
theorem Sh2.g_b (k : Sh2 W base g B fb fh I fi ft) : ¬ HFoot B g := fun h => by
  obtain ⟨cs, ty, h1, h2⟩ := k.b.foot_ty g h
  have := ty_eq h1 k.blk
  subst this
  rcases h2 with h2 | h2 <;> exact absurd h2 (by decide)
theorem Sh2.g_i (k : Sh2 W base g B fb fh I fi ft) : ¬ HFoot I g := fun h => by
  obtain ⟨cs, ty, h1, h2⟩ := k.i.foot_ty g h
  have := ty_eq h1 k.blk
  subst this
  rcases h2 with h2 | h2 <;> exact absurd h2 (by decide)
theorem Sh2.pushB (k : Sh2 W base g B fb fh I fi ft) {A' : Option Addr} {c' : Nat} {l : Sl} {xs : List Int} (ho : W'.ownsRow base 37 1 (.slice A' (B.N + 1) c') (B.N + 1) (sls B.N B.bs ++ [l.v]))
    (hg : W.grownBy W' B.v.ownBlock) (hat : (Value.slice A' (B.N + 1) c').ownBlock = B.v.ownBlock ∨ ∃ b, (Value.slice A' (B.N + 1) c').ownBlock = some b ∧ W.heap.size ≤ b)
    (hl : OwnC .u8 5 W base l xs) (hf : ∀ b, l.v.ownBlock = some b → ¬ HFoot B b) :
    Sh2 (W'.setCell ⟨g, 0, none⟩ (.slice A' (B.N + 1) c')) base g { B with A := A', c := c', N := B.N + 1, bs := fun i => if i = B.N then l else B.bs i } (fun i => if i = B.N then xs else fb i) fh I fi ft := by
  have hty : ∀ b, B.v.ownBlock = some b → ∃ cs, W.heap[b]? = some (.cells cs 37 (0, 0)) := fun b e => own_typed k.b.rb b e
  have hgne : B.v.ownBlock ≠ some g := fun e => by
    obtain ⟨c2, hc2⟩ := hty g e
    exact absurd (ty_eq hc2 k.blk) (by decide)
  have bg := (hg.block g (blk_lt k.blk) fun e => hgne e.symm).trans k.blk
  have kt : ∀ e t, e ≠ 91 → t ≠ 91 → KeepTy W' (W'.setCell ⟨g, 0, none⟩ (.slice A' (B.N + 1) c')) e t := fun e t h1 h2 =>
    KeepTy.set_ (KeepTy.below (Below.refl _ _)) ⟨_, _, bg, h1.symm, h2.symm⟩ _
  exact ⟨k.low, blk_set bg 0 _, (k.b.pushB (by decide) ho hg hat hl hf).ty (kt _ _ (by decide) (by decide)), (k.i.ty (KeepTy.grown hg fun b hb => (by obtain ⟨cs, hc⟩ := hty b hb; exact ⟨cs, _, hc, by decide, by decide⟩))).ty (kt _ _ (by decide) (by decide))⟩
theorem Sh2.pushH (k : Sh2 W base g B fb fh I fi ft) {A' : Option Addr} {c' : Nat} {l : Sl} {xs : List Int} (ho : W'.ownsRow base 37 1 (.slice A' (B.M + 1) c') (B.M + 1) (sls B.M B.hs ++ [l.v]))
    (hg : W.grownBy W' B.u.ownBlock) (hat : (Value.slice A' (B.M + 1) c').ownBlock = B.u.ownBlock ∨ ∃ b, (Value.slice A' (B.M + 1) c').ownBlock = some b ∧ W.heap.size ≤ b)
    (hl : OwnC .u8 5 W base l xs) (hf : ∀ b, l.v.ownBlock = some b → ¬ HFoot B b) :
    Sh2 (W'.setCell ⟨g, 1, none⟩ (.slice A' (B.M + 1) c')) base g { B with B := A', d := c', M := B.M + 1, hs := fun i => if i = B.M then l else B.hs i } fb (fun i => if i = B.M then xs else fh i) I fi ft := by
  have hty : ∀ b, B.u.ownBlock = some b → ∃ cs, W.heap[b]? = some (.cells cs 37 (0, 0)) := fun b e => own_typed k.b.rh b e
  have hgne : B.u.ownBlock ≠ some g := fun e => by
    obtain ⟨c2, hc2⟩ := hty g e
    exact absurd (ty_eq hc2 k.blk) (by decide)
  have bg := (hg.block g (blk_lt k.blk) fun e => hgne e.symm).trans k.blk
  have kt : ∀ e t, e ≠ 91 → t ≠ 91 → KeepTy W' (W'.setCell ⟨g, 1, none⟩ (.slice A' (B.M + 1) c')) e t := fun e t h1 h2 =>
    KeepTy.set_ (KeepTy.below (Below.refl _ _)) ⟨_, _, bg, h1.symm, h2.symm⟩ _
  exact ⟨k.low, blk_set bg 1 _, (k.b.pushH (by decide) ho hg hat hl hf).ty (kt _ _ (by decide) (by decide)), (k.i.ty (KeepTy.grown hg fun b hb => (by obtain ⟨cs, hc⟩ := hty b hb; exact ⟨cs, _, hc, by decide, by decide⟩))).ty (kt _ _ (by decide) (by decide))⟩
theorem Sh2.pushI (k : Sh2 W base g B fb fh I fi ft) {A' : Option Addr} {c' : Nat} {l : Sl} {xs : List Int} (ho : W'.ownsRow base 56 1 (.slice A' (I.N + 1) c') (I.N + 1) (sls I.N I.bs ++ [l.v]))
    (hg : W.grownBy W' I.v.ownBlock) (hat : (Value.slice A' (I.N + 1) c').ownBlock = I.v.ownBlock ∨ ∃ b, (Value.slice A' (I.N + 1) c').ownBlock = some b ∧ W.heap.size ≤ b)
    (hl : OwnC .i64 3 W base l xs) (hf : ∀ b, l.v.ownBlock = some b → ¬ HFoot I b) :
    Sh2 (W'.setCell ⟨g, 2, none⟩ (.slice A' (I.N + 1) c')) base g B fb fh { I with A := A', c := c', N := I.N + 1, bs := fun i => if i = I.N then l else I.bs i } (fun i => if i = I.N then xs else fi i) ft := by
  have hty : ∀ b, I.v.ownBlock = some b → ∃ cs, W.heap[b]? = some (.cells cs 56 (0, 0)) := fun b e => own_typed k.i.rb b e
  have hgne : I.v.ownBlock ≠ some g := fun e => by
    obtain ⟨c2, hc2⟩ := hty g e
    exact absurd (ty_eq hc2 k.blk) (by decide)
  have bg := (hg.block g (blk_lt k.blk) fun e => hgne e.symm).trans k.blk
  have kt : ∀ e t, e ≠ 91 → t ≠ 91 → KeepTy W' (W'.setCell ⟨g, 2, none⟩ (.slice A' (I.N + 1) c')) e t := fun e t h1 h2 =>
    KeepTy.set_ (KeepTy.below (Below.refl _ _)) ⟨_, _, bg, h1.symm, h2.symm⟩ _
  exact ⟨k.low, blk_set bg 2 _, (k.b.ty (KeepTy.grown hg fun b hb => (by obtain ⟨cs, hc⟩ := hty b hb; exact ⟨cs, _, hc, by decide, by decide⟩))).ty (kt _ _ (by decide) (by decide)), (k.i.pushB (by decide) ho hg hat hl hf).ty (kt _ _ (by decide) (by decide))⟩
theorem Sh2.pushT (k : Sh2 W base g B fb fh I fi ft) {A' : Option Addr} {c' : Nat} {l : Sl} {xs : List Int} (ho : W'.ownsRow base 56 1 (.slice A' (I.M + 1) c') (I.M + 1) (sls I.M I.hs ++ [l.v]))
    (hg : W.grownBy W' I.u.ownBlock) (hat : (Value.slice A' (I.M + 1) c').ownBlock = I.u.ownBlock ∨ ∃ b, (Value.slice A' (I.M + 1) c').ownBlock = some b ∧ W.heap.size ≤ b)
    (hl : OwnC .i64 3 W base l xs) (hf : ∀ b, l.v.ownBlock = some b → ¬ HFoot I b) :
    Sh2 (W'.setCell ⟨g, 3, none⟩ (.slice A' (I.M + 1) c')) base g B fb fh { I with B := A', d := c', M := I.M + 1, hs := fun i => if i = I.M then l else I.hs i } fi (fun i => if i = I.M then xs else ft i) := by
  have hty : ∀ b, I.u.ownBlock = some b → ∃ cs, W.heap[b]? = some (.cells cs 56 (0, 0)) := fun b e => own_typed k.i.rh b e
  have hgne : I.u.ownBlock ≠ some g := fun e => by
    obtain ⟨c2, hc2⟩ := hty g e
    exact absurd (ty_eq hc2 k.blk) (by decide)
  have bg := (hg.block g (blk_lt k.blk) fun e => hgne e.symm).trans k.blk
  have kt : ∀ e t, e ≠ 91 → t ≠ 91 → KeepTy W' (W'.setCell ⟨g, 3, none⟩ (.slice A' (I.M + 1) c')) e t := fun e t h1 h2 =>
    KeepTy.set_ (KeepTy.below (Below.refl _ _)) ⟨_, _, bg, h1.symm, h2.symm⟩ _
  exact ⟨k.low, blk_set bg 3 _, (k.b.ty (KeepTy.grown hg fun b hb => (by obtain ⟨cs, hc⟩ := hty b hb; exact ⟨cs, _, hc, by decide, by decide⟩))).ty (kt _ _ (by decide) (by decide)), (k.i.pushH (by decide) ho hg hat hl hf).ty (kt _ _ (by decide) (by decide))⟩
end
theorem half_mid {k : IntKind} {e t : Nat} {W w1 w2 : World} {base g j : Nat} {D : HD} {fb fh : Nat → List Int} {l s : Sl} {xs ys : List Int} {A' : Option Addr} {c' : Nat} (h : Half k e t W base D fb fh) (hb1 : Below W.heap.size W w1) (ht : Own k e w1 W.heap.size s ys) (hl : OwnC k e W base l xs) (hbs : base ≤ W.heap.size) (hgl : g < W.heap.size)
    (hg : w1.grownBy w2 D.v.ownBlock) (hat : (Value.slice A' (D.N + 1) c').ownBlock = D.v.ownBlock ∨ ∃ b, (Value.slice A' (D.N + 1) c').ownBlock = some b ∧ w1.heap.size ≤ b) (u : Value) :
    OwnC k e (w2.setCell ⟨g, j, none⟩ u) base s ys ∧ ∀ b, s.v.ownBlock = some b → ¬ HFoot { D with A := A', c := c', N := D.N + 1, bs := fun i => if i = D.N then l else D.bs i } b := by
  refine ⟨(ht.toC.lower hbs).move fun b hb => ?_, fun b hb hsf => ?_⟩
  · have h1 := ht.lt b hb
    refine (Below.heap_setCell w2 _ _ b (by dsimp only; omega)).trans (hg.block b h1.2 fun e => ?_)
    have := (World.ownsRow.lt h.rb b e.symm).2
    omega
  · have h1 := ht.lt b hb
    rcases hsf with h2 | h2 | ⟨i, hi, h2⟩ | ⟨i, hi, h2⟩
    · rcases hat with h3 | ⟨b2, h3, hb2⟩
      · have := (World.ownsRow.lt h.rb b (h3.symm.trans h2)).2; omega
      · have : b2 = b := Option.some.inj (h3.symm.trans h2); omega
    · have := (World.ownsRow.lt h.rh b h2).2; omega
    · dsimp only at hi h2
      by_cases e : i = D.N
      · rw [if_pos e] at h2
        have := (hl.lt b h2).2; omega
      · rw [if_neg e] at h2
        have := ((h.ob i (by omega)).lt b h2).2; omega
    · have := ((h.oh i hi).lt b h2).2; omega
def HGood (D : HD) (fb fh : Nat → List Int) : Prop := D.M = D.N ∧ D.N ≤ 400 ∧ ∀ i, i < D.N → fb i = fh i ∧ (fb i).length ≤ 4398046511104
theorem HGood.more {D : HD} {fb fh : Nat → List Int} (h : HGood D fb fh) (hN : D.N < 400) {A B : Option Addr} {c d : Nat} {l s : Sl} {xs : List Int} (hx : xs.length ≤ 4398046511104) :
    HGood ⟨A, c, B, d, D.N + 1, D.M + 1, fun i => if i = D.N then l else D.bs i, fun i => if i = D.M then s else D.hs i⟩ (fun i => if i = D.N then xs else fb i) (fun i => if i = D.M then xs else fh i) := by
  obtain ⟨h1, h2, h3⟩ := h
  refine ⟨by dsimp only; omega, by dsimp only; omega, fun i hi => ?_⟩
  dsimp only at hi ⊢
  rw [h1]
  by_cases e : i = D.N
  · rw [if_pos e, if_pos e]; exact ⟨rfl, hx⟩
  · rw [if_neg e, if_neg e]; exact h3 i (by omega)
/-- A shelf on which all lists hold what they should; all its memory lies below H. -/
def ShOk (W : World) (base g H : Nat) : Prop := ∃ (B : HD) (fb fh : Nat → List Int) (I : HD) (fi ft : Nat → List Int), Sh2 W base g B fb fh I fi ft ∧ HGood B fb fh ∧ HGood I fi ft ∧ ∀ b, b = g ∨ HFoot B b ∨ HFoot I b → b < H
theorem ShOk.below {W W' : World} {base g H : Nat} (h : ShOk W base g H) (hb : Below W.heap.size W W') : ShOk W' base g H := by
  obtain ⟨B, fb, fh, I, fi, ft, k, h1, h2, h3⟩ := h
  exact ⟨B, fb, fh, I, fi, ft, k.below hb, h1, h2, h3⟩
theorem ShOk.up {W : World} {base g H : Nat} (h : ShOk W base g H) : ShOk W base g W.heap.size := by
  obtain ⟨B, fb, fh, I, fi, ft, k, h1, h2, h3⟩ := h
  exact ⟨B, fb, fh, I, fi, ft, k, h1, h2, fun b hb => (k.foot_lt b hb).2⟩
theorem ShOk.low {W : World} {base g H : Nat} (h : ShOk W base g H) : base ≤ W.heap.size := by
  obtain ⟨B, fb, fh, I, fi, ft, k, h1, h2, h3⟩ := h
  have := k.foot_lt g (.inl rfl)
  omega
/-- A step that keeps all blocks of the shelf's types. -/
def KeepSh (W W' : World) : Prop := W.heap.size ≤ W'.heap.size ∧ ∀ (b : Nat) cs ty, W.heap[b]? = some (.cells cs ty (0, 0)) → (ty = 91 ∨ ty = 37 ∨ ty = 56 ∨ ty = 5 ∨ ty = 3) → W'.heap[b]? = W.heap[b]?
theorem ShOk.move {W W' : World} {base g H : Nat} (h : ShOk W base g H) (hk : ∀ b, b < H → (∀ cs ty, W.heap[b]? = some (.cells cs ty (0, 0)) → ty = 91 ∨ ty = 37 ∨ ty = 56 ∨ ty = 5 ∨ ty = 3) → W'.heap[b]? = W.heap[b]?) : ShOk W' base g H := by
  obtain ⟨B, fb, fh, I, fi, ft, k, h1, h2, h3⟩ := h
  refine ⟨B, fb, fh, I, fi, ft, ⟨k.low, (hk g (h3 g (.inl rfl)) fun cs ty hc => .inl (ty_eq hc k.blk)).trans k.blk, k.b.move fun b hb => hk b (h3 b (.inr (.inl hb))) fun cs ty hc => ?_, k.i.move fun b hb => hk b (h3 b (.inr (.inr hb))) fun cs ty hc => ?_⟩, h1, h2, h3⟩
  · obtain ⟨c2, t2, h4, h5⟩ := k.b.foot_ty b hb
    have := ty_eq hc h4
    subst this
    rcases h5 with h5 | h5
    · exact .inr (.inr (.inr (.inl h5)))
    · exact .inr (.inl h5)
  · obtain ⟨c2, t2, h4, h5⟩ := k.i.foot_ty b hb
    have := ty_eq hc h4
    subst this
    rcases h5 with h5 | h5
    · exact .inr (.inr (.inr (.inr h5)))
    · exact .inr (.inr (.inl h5))
/-- What keep leaves as it was: all but the shelf and its rows of lists. -/
def KeepT (W W' : World) : Prop := ∀ b, b < W.heap.size → (∀ cs ty, W.heap[b]? = some (.cells cs ty (0, 0)) → ty ≠ 91 ∧ ty ≠ 37 ∧ ty ≠ 56) → W'.heap[b]? = W.heap[b]?
theorem KeepT.below {W W' : World} (h : Below W.heap.size W W') : KeepT W W' := fun b hb _ => h.block b hb
/-- What keep leaves. -/
def KPost (W : World) (base g : Nat) (e : Ending) (w' : World) : Prop := e = .returned (.tuple #[]) ∧ ShOk w' base g w'.heap.size ∧ Below base W w' ∧ KeepT W w'
set_option maxHeartbeats 4000000 in
set_option maxRecDepth 100000 in
theorem keepR_is (W : World) (base g H : Nat) (hs : ShOk W base g H) (hH : base ≤ H) (l : Sl) (xs : List Int) (hl : OwnC .u8 5 W H l xs) (Bw : Option Addr) (m d : Nat) (hy : Kd.C (Kd.int .u8) W Bw m xs) (hyl : xs.length ≤ 4398046511104) :
    Calls Try.prog 69 #[.pointer (some ⟨g, 0, none⟩), .slice l.A l.n l.c, .slice Bw m d] W (KPost W base g) := by
  have hu91 := Try.underlying91
  obtain ⟨B, fb, fh, I, fi, ft, k, gb, gi, hft⟩ := hs
  have hbs : base ≤ W.heap.size := by have := k.low; have := blk_lt k.blk; omega
  have HBS := Aside0.mk hbs
  have HK := Aside0.mk k
  have HL := Aside0.mk (hl.lower hH)
  have HF := Aside0.mk (show ∀ b, l.v.ownBlock = some b → ¬ HFoot B b from fun b hb hf => by have := (hl.lt b hb).1; have := hft b (.inr (.inl hf)); omega)
  have HY := Aside0.mk hy
  have HYL := Aside0.mk hyl
  have HGB := Aside0.mk gb
  have HGI := Aside0.mk gi
  have c0 := k.c0
  by_cases hN : B.N < 400
  · have hN1 : (B.N : Int) < 400 := by omega
    have hM : B.M < 400 := by have := gb.1; omega
    clear k hl hy hyl hbs gb gi hft
    go_enter Try.func69, Try.ntmps69
    go_wp2_with (first
      | ((with_reducible refine gate_builtin (b := .append) (xs := #[.tmp 13, .tmp 14]) rfl ?_); at_builtin; refine Kd.R_append_rows (Kd.int .u8) (w0 := W) W.heap.size rfl (.tmp 13) (.tmp 14) 37 5 (.int .u8 0) 1 rfl Try.underlying37 infoU8 rfl (by decide) (by omega) (.slice none 0 0) ([] : List Int) xs _ _ _ (fun _ => True) (fun _ => False) rfl rfl ?aO ?aR (fun _ _ h => h) (fun _ h => h.elim) ?aF ?aB ?aS ?aL ?_; (case aR => exact HY.out); (case aB => exact Below.refl _ _); (case aF => exact (fun _ _ => trivial)); (case aO => exact (Kd.R_nil _ _ _ _ (fun _ => True))); (case aS => exact Nat.le_refl _); (case aL => have := HYL.out; have := HY.out.1; simp; omega); intro v1 w1 ho hb hg hat; obtain ⟨A', n', c', rfl, hown⟩ := Own.of_R3 ho; have HT0 := Aside0.mk hown; have HB1 := Aside0.mk hb; have HK1 := Aside0.mk (HK.out.below hb); have HL1 := Aside0.mk (HL.out.below hb); have d0 := HK1.out.c0; clear ho hb hg hat hown c0)
      | ((with_reducible refine gate_builtin (b := .append) (xs := #[.tmp 20, .tmp 22]) rfl ?_); at_builtin; refine print_append_both (w0 := w1) base rfl (.tmp 20) (.tmp 22) 88 37 (.slice none 0 0) 24 rfl Try.underlying88 infoSl rfl (by decide) (.slice B.A B.N B.c) (sls B.N B.bs) (.slice l.A l.n l.c) rfl rfl rfl ?aO ?aB ?aS ?aL ?_; (case aO => rw [sls_len]; exact HK1.out.b.rb); (case aB => exact Below.refl _ _); (case aS => exact Nat.le_trans HBS.out HB1.out.size); (case aL => rw [sls_len]; omega); intro v2 w2 ho _ hb hg hat; obtain ⟨AB', cB', rfl, ho2⟩ := sl_of ho (show _ = B.N + 1 by simp [sls_len]); have HK3 := Aside0.mk (HK1.out.pushB ho2 hg hat HL1.out HF.out); have b2 := (hg.block g (blk_lt HK1.out.blk) fun e => HK1.out.g_b (.inl e.symm)).trans HK1.out.blk; have e0 := (blk_cell b2 0).trans rfl; have f0 := blk_frozen b2 0; have d1 := HK3.out.c1; have HM := Aside0.mk (half_mid (g := g) (j := 0) HK.out.b HB1.out HT0.out HL.out HBS.out (blk_lt HK.out.blk) hg hat (.slice AB' (B.N + 1) cB')); have HB3 := Aside0.mk (show Below base W (w2.setCell ⟨g, 0, none⟩ (.slice AB' (B.N + 1) cB')) from ((HB1.out.mono HBS.out).trans hb).setCell (p := ⟨g, 0, none⟩) HK.out.low _); have HP3 := Aside0.mk (show ∀ b, b < W.heap.size → b ≠ g → B.v.ownBlock ≠ some b → (w2.setCell ⟨g, 0, none⟩ (.slice AB' (B.N + 1) cB')).heap[b]? = W.heap[b]? from fun b h1 h2 h3 => (Below.heap_setCell w2 _ _ b h2).trans ((hg.block b (Nat.lt_of_lt_of_le h1 HB1.out.size) fun e => h3 e.symm).trans (HB1.out.block b h1))); clear ho hb hg hat ho2 b2 d0)
      | ((with_reducible refine gate_builtin (b := .append) (xs := #[.tmp 30, .tmp 32]) rfl ?_); at_builtin; refine print_append_both (w0 := w2.setCell ⟨g, 0, none⟩ (.slice AB' (B.N + 1) cB')) base rfl (.tmp 30) (.tmp 32) 88 37 (.slice none 0 0) 24 rfl Try.underlying88 infoSl rfl (by decide) (.slice B.B B.M B.d) (sls B.M B.hs) (.slice A' n' c') rfl ?aX rfl ?aO ?aB ?aS ?aL ?_; (case aX => (first | rfl | (rw [World.size_setCell]; rfl) | (simp; done) | (simp; rfl))); (case aO => rw [sls_len]; exact HK3.out.b.rh); (case aB => exact Below.refl _ _); (case aS => exact Nat.le_trans HBS.out HB3.out.size); (case aL => rw [sls_len]; omega); intro v4 w4 ho _ hb hg hat; obtain ⟨AH', cH', rfl, ho2⟩ := sl_of ho (show _ = B.M + 1 by simp [sls_len]); have HK5 := Aside0.mk (HK3.out.pushH ho2 hg hat HM.out.1 HM.out.2); have b2 := (hg.block g (blk_lt HK3.out.blk) fun e => HK3.out.g_b (.inr (.inl e.symm))).trans HK3.out.blk; have e1 := (blk_cell b2 1).trans rfl; have f1 := blk_frozen b2 1; have HB5 := Aside0.mk (show Below base W (w4.setCell ⟨g, 1, none⟩ (.slice AH' (B.M + 1) cH')) from (HB3.out.trans hb).setCell (p := ⟨g, 1, none⟩) HK.out.low _); have HP5 := Aside0.mk (show ∀ b, b < W.heap.size → b ≠ g → B.v.ownBlock ≠ some b → B.u.ownBlock ≠ some b → (w4.setCell ⟨g, 1, none⟩ (.slice AH' (B.M + 1) cH')).heap[b]? = W.heap[b]? from fun b h1 h2 h3 h4 => (Below.heap_setCell w4 _ _ b h2).trans ((hg.block b (Nat.lt_of_lt_of_le h1 HB3.out.size) fun e => h4 e.symm).trans (HP3.out b h1 h2 h3))); clear ho hb hg hat ho2 b2 e0 f0 d1))
    go_end0
    refine ⟨rfl, ⟨_, _, _, _, _, _, HK5.out, HGB.out.more hN HYL.out, HGI.out, fun b hb => (HK5.out.foot_lt b hb).2⟩, HB5.out, fun b hb hty => HP5.out b hb (fun e => ?_) (fun e => ?_) (fun e => ?_)⟩
    · subst e; exact (hty _ _ HK.out.blk).1 rfl
    · obtain ⟨c2, hc2⟩ := own_typed HK.out.b.rb b e; exact absurd rfl (hty _ _ hc2).2.1
    · obtain ⟨c2, hc2⟩ := own_typed HK.out.b.rh b e; exact absurd rfl (hty _ _ hc2).2.1
  · have hN1 : ¬ ((B.N : Int) < 400) := by omega
    clear k hl hy hyl hbs gb gi hN
    go_enter Try.func69, Try.ntmps69
    go_wp2
    go_end0
    exact ⟨rfl, ⟨B, fb, fh, I, fi, ft, HK.out, HGB.out, HGI.out, fun b hb => (HK.out.foot_lt b hb).2⟩, Below.refl _ _, KeepT.below (Below.refl _ _)⟩
set_option maxHeartbeats 4000000 in
set_option maxRecDepth 100000 in
theorem keepIntsR_is (W : World) (base g H : Nat) (hs : ShOk W base g H) (hH : base ≤ H) (l : Sl) (xs : List Int) (hl : OwnC .i64 3 W H l xs) (Bw : Option Addr) (m d : Nat) (hy : Kd.C (Kd.int .i64) W Bw m xs) (hyl : xs.length ≤ 4398046511104) :
    Calls Try.prog 100 #[.pointer (some ⟨g, 0, none⟩), .slice l.A l.n l.c, .slice Bw m d] W (KPost W base g) := by
  have hu91 := Try.underlying91
  obtain ⟨B, fb, fh, I, fi, ft, k, gb, gi, hft⟩ := hs
  have hbs : base ≤ W.heap.size := by have := k.low; have := blk_lt k.blk; omega
  have HBS := Aside0.mk hbs
  have HK := Aside0.mk k
  have HL := Aside0.mk (hl.lower hH)
  have HF := Aside0.mk (show ∀ b, l.v.ownBlock = some b → ¬ HFoot I b from fun b hb hf => by have := (hl.lt b hb).1; have := hft b (.inr (.inr hf)); omega)
  have HY := Aside0.mk hy
  have HYL := Aside0.mk hyl
  have HGB := Aside0.mk gb
  have HGI := Aside0.mk gi
  have c0 := k.c2
  by_cases hN : I.N < 400
  · have hN1 : (I.N : Int) < 400 := by omega
    have hM : I.M < 400 := by have := gi.1; omega
    clear k hl hy hyl hbs gb gi hft
    go_enter Try.func100, Try.ntmps100
    go_wp2_with (first
      | ((with_reducible refine gate_builtin (b := .append) (xs := #[.tmp 13, .tmp 14]) rfl ?_); at_builtin; refine Kd.R_append_rows (Kd.int .i64) (w0 := W) W.heap.size rfl (.tmp 13) (.tmp 14) 56 3 (.int .i64 0) 8 rfl Try.underlying56 infoInt rfl (by decide) (by omega) (.slice none 0 0) ([] : List Int) xs _ _ _ (fun _ => True) (fun _ => False) rfl rfl ?aO ?aR (fun _ _ h => h) (fun _ h => h.elim) ?aF ?aB ?aS ?aL ?_; (case aR => exact HY.out); (case aB => exact Below.refl _ _); (case aF => exact (fun _ _ => trivial)); (case aO => exact (Kd.R_nil _ _ _ _ (fun _ => True))); (case aS => exact Nat.le_refl _); (case aL => have := HYL.out; have := HY.out.1; simp; omega); intro v1 w1 ho hb hg hat; obtain ⟨A', n', c', rfl, hown⟩ := Own.of_R3 ho; have HT0 := Aside0.mk hown; have HB1 := Aside0.mk hb; have HK1 := Aside0.mk (HK.out.below hb); have HL1 := Aside0.mk (HL.out.below hb); have d0 := HK1.out.c2; clear ho hb hg hat hown c0)
      | ((with_reducible refine gate_builtin (b := .append) (xs := #[.tmp 20, .tmp 22]) rfl ?_); at_builtin; refine print_append_both (w0 := w1) base rfl (.tmp 20) (.tmp 22) 89 56 (.slice none 0 0) 24 rfl Try.underlying89 infoSi rfl (by decide) (.slice I.A I.N I.c) (sls I.N I.bs) (.slice l.A l.n l.c) rfl rfl rfl ?aO ?aB ?aS ?aL ?_; (case aO => rw [sls_len]; exact HK1.out.i.rb); (case aB => exact Below.refl _ _); (case aS => exact Nat.le_trans HBS.out HB1.out.size); (case aL => rw [sls_len]; omega); intro v2 w2 ho _ hb hg hat; obtain ⟨AB', cB', rfl, ho2⟩ := sl_of ho (show _ = I.N + 1 by simp [sls_len]); have HK3 := Aside0.mk (HK1.out.pushI ho2 hg hat HL1.out HF.out); have b2 := (hg.block g (blk_lt HK1.out.blk) fun e => HK1.out.g_i (.inl e.symm)).trans HK1.out.blk; have e0 := (blk_cell b2 2).trans rfl; have f0 := blk_frozen b2 2; have d1 := HK3.out.c3; have HM := Aside0.mk (half_mid (g := g) (j := 2) HK.out.i HB1.out HT0.out HL.out HBS.out (blk_lt HK.out.blk) hg hat (.slice AB' (I.N + 1) cB')); have HB3 := Aside0.mk (show Below base W (w2.setCell ⟨g, 2, none⟩ (.slice AB' (I.N + 1) cB')) from ((HB1.out.mono HBS.out).trans hb).setCell (p := ⟨g, 2, none⟩) HK.out.low _); have HP3 := Aside0.mk (show ∀ b, b < W.heap.size → b ≠ g → I.v.ownBlock ≠ some b → (w2.setCell ⟨g, 2, none⟩ (.slice AB' (I.N + 1) cB')).heap[b]? = W.heap[b]? from fun b h1 h2 h3 => (Below.heap_setCell w2 _ _ b h2).trans ((hg.block b (Nat.lt_of_lt_of_le h1 HB1.out.size) fun e => h3 e.symm).trans (HB1.out.block b h1))); clear ho hb hg hat ho2 b2 d0)
      | ((with_reducible refine gate_builtin (b := .append) (xs := #[.tmp 30, .tmp 32]) rfl ?_); at_builtin; refine print_append_both (w0 := w2.setCell ⟨g, 2, none⟩ (.slice AB' (I.N + 1) cB')) base rfl (.tmp 30) (.tmp 32) 89 56 (.slice none 0 0) 24 rfl Try.underlying89 infoSi rfl (by decide) (.slice I.B I.M I.d) (sls I.M I.hs) (.slice A' n' c') rfl ?aX rfl ?aO ?aB ?aS ?aL ?_; (case aX => (first | rfl | (rw [World.size_setCell]; rfl) | (simp; done) | (simp; rfl))); (case aO => rw [sls_len]; exact HK3.out.i.rh); (case aB => exact Below.refl _ _); (case aS => exact Nat.le_trans HBS.out HB3.out.size); (case aL => rw [sls_len]; omega); intro v4 w4 ho _ hb hg hat; obtain ⟨AH', cH', rfl, ho2⟩ := sl_of ho (show _ = I.M + 1 by simp [sls_len]); have HK5 := Aside0.mk (HK3.out.pushT ho2 hg hat HM.out.1 HM.out.2); have b2 := (hg.block g (blk_lt HK3.out.blk) fun e => HK3.out.g_i (.inr (.inl e.symm))).trans HK3.out.blk; have e1 := (blk_cell b2 3).trans rfl; have f1 := blk_frozen b2 3; have HB5 := Aside0.mk (show Below base W (w4.setCell ⟨g, 3, none⟩ (.slice AH' (I.M + 1) cH')) from (HB3.out.trans hb).setCell (p := ⟨g, 3, none⟩) HK.out.low _); have HP5 := Aside0.mk (show ∀ b, b < W.heap.size → b ≠ g → I.v.ownBlock ≠ some b → I.u.ownBlock ≠ some b → (w4.setCell ⟨g, 3, none⟩ (.slice AH' (I.M + 1) cH')).heap[b]? = W.heap[b]? from fun b h1 h2 h3 h4 => (Below.heap_setCell w4 _ _ b h2).trans ((hg.block b (Nat.lt_of_lt_of_le h1 HB3.out.size) fun e => h4 e.symm).trans (HP3.out b h1 h2 h3))); clear ho hb hg hat ho2 b2 e0 f0 d1))
    go_end0
    refine ⟨rfl, ⟨_, _, _, _, _, _, HK5.out, HGB.out, HGI.out.more hN HYL.out, fun b hb => (HK5.out.foot_lt b hb).2⟩, HB5.out, fun b hb hty => HP5.out b hb (fun e => ?_) (fun e => ?_) (fun e => ?_)⟩
    · subst e; exact (hty _ _ HK.out.blk).1 rfl
    · obtain ⟨c2, hc2⟩ := own_typed HK.out.i.rb b e; exact absurd rfl (hty _ _ hc2).2.2
    · obtain ⟨c2, hc2⟩ := own_typed HK.out.i.rh b e; exact absurd rfl (hty _ _ hc2).2.2
  · have hN1 : ¬ ((I.N : Int) < 400) := by omega
    clear k hl hy hyl hbs gb gi hN
    go_enter Try.func100, Try.ntmps100
    go_wp2
    go_end0
    exact ⟨rfl, ⟨B, fb, fh, I, fi, ft, HK.out, HGB.out, HGI.out, fun b hb => (HK.out.foot_lt b hb).2⟩, Below.refl _ _, KeepT.below (Below.refl _ _)⟩
end Go.Proofs.Ytceeoifbimlkdaa.B
