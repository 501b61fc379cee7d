/- Proved: the Shelf of the codec law in memory, and the contracts of its keep and holds. Conditions: no lists of ints; bounds of the lengths. -/
import Derived.Test.YtceeoifbimlkdaaHLet
namespace Go.Proofs.Ytceeoifbimlkdaa.B
open Go.RowKit Go.Proofs.YtceeoifbimlkdaaW.PrintWords Go.Proofs.YtceeoifbimlkdaaW.PrintLast Go.Proofs.YtceeoifbimlkdaaW.PrintMore

def sls (N : Nat) (bs : Nat → Sl) : List Value := (List.range N).map fun i => (bs i).v
theorem sls_len (N : Nat) (bs : Nat → Sl) : (sls N bs).length = N := by simp [sls]
theorem sls_at (N : Nat) (bs : Nat → Sl) (i : Nat) (h : i < N) : (sls N bs)[i]? = some (bs i).v := by simp [sls, h]
theorem sls_snoc (N : Nat) (bs : Nat → Sl) (s : Sl) : sls (N + 1) (fun i => if i = N then s else bs i) = sls N bs ++ [s.v] := by
  unfold sls
  rw [List.range_succ, List.map_append]
  congr 1
  · refine List.map_congr_left fun i hi => ?_
    have := List.mem_range.1 hi
    show (if i = N then s else bs i).v = (bs i).v
    rw [if_neg (by omega)]
  · simp
theorem ty_eq {W : World} {b t1 t2 : Nat} {c1 c2 : Array Value} (h1 : W.heap[b]? = some (.cells c1 t1 (0, 0))) (h2 : W.heap[b]? = some (.cells c2 t2 (0, 0))) : t1 = t2 := by
  rw [h1] at h2
  injection h2 with h2
  injection h2
theorem add_lit (q j : Nat) : (⟨q, 0, none⟩ : Addr).add j = ⟨q, j, none⟩ := by unfold Addr.add; split <;> simp_all
theorem own_addr {W : World} {base e n c : Nat} {A : Option Addr} {xs : List Value} (h : W.ownsRow base e 1 (.slice A n c) n xs) (hp : 0 < n) : ∃ q, A = some ⟨q, 0, none⟩ := by
  rcases h.2 with ⟨h1, h2⟩ | ⟨q, cap, cur, h1, _⟩
  · omega
  · exact ⟨q, by injection h1⟩
theorem own_cell {W : World} {base e n c q : Nat} {xs : List Value} (h : W.ownsRow base e 1 (.slice (some ⟨q, 0, none⟩) n c) n xs) (i : Nat) (v : Value) (hv : xs[i]? = some v) : W.cell? ⟨q, i, none⟩ = some v := by
  have := h.cells (g := q) rfl i v hv
  rwa [add_lit] at this
/-- A shelf of lists of bytes, with what each should hold. -/
structure ShAt (W : World) (base g : Nat) (AB : Option Addr) (cB : Nat) (AH : Option Addr) (cH : Nat) (N M : Nat) (bs hs : Nat → Sl) (fb fh : Nat → List Int) : Prop where
  low : base ≤ g
  blk : W.heap[g]? = some (.cells #[.slice AB N cB, .slice AH M cH, .slice none 0 0, .slice none 0 0] 91 (0, 0))
  rb : W.ownsRow base 37 1 (.slice AB N cB) N (sls N bs)
  rh : W.ownsRow base 37 1 (.slice AH M cH) M (sls M hs)
  ne : NeRow (.slice AB N cB) (.slice AH M cH)
  ob : ∀ i, i < N → Own .u8 5 W base (bs i) (fb i)
  oh : ∀ i, i < M → Own .u8 5 W base (hs i) (fh i)
  ab : ∀ i j, i < N → j < N → i ≠ j → NeRow (bs i).v (bs j).v
  ah : ∀ i j, i < M → j < M → i ≠ j → NeRow (hs i).v (hs j).v
  bh : ∀ i j, i < N → j < M → NeRow (bs i).v (hs j).v
/-- What it leads to. -/
def ShFoot (g : Nat) (AB : Option Addr) (cB : Nat) (AH : Option Addr) (cH N M : Nat) (bs hs : Nat → Sl) (b : Nat) : Prop :=
  b = g ∨ (Value.slice AB N cB).ownBlock = some b ∨ (Value.slice AH M cH).ownBlock = some b ∨ (∃ i, i < N ∧ (bs i).v.ownBlock = some b) ∨ ∃ i, i < M ∧ (hs i).v.ownBlock = some b
section
variable {W W' : World} {base g : Nat} {AB : Option Addr} {cB : Nat} {AH : Option Addr} {cH : Nat} {N M : Nat} {bs hs : Nat → Sl} {fb fh : Nat → List Int}
theorem ShAt.move (k : ShAt W base g AB cB AH cH N M bs hs fb fh) (h : ∀ b, ShFoot g AB cB AH cH N M bs hs b → W'.heap[b]? = W.heap[b]?) : ShAt W' base g AB cB AH cH N M bs hs fb fh :=
  ⟨k.low, (h g (.inl rfl)).trans k.blk, own_move k.rb fun b hb => h b (.inr (.inl hb)), own_move k.rh fun b hb => h b (.inr (.inr (.inl hb))), k.ne,
    fun i hi => (k.ob i hi).move fun b hb => h b (.inr (.inr (.inr (.inl ⟨i, hi, hb⟩)))), fun i hi => (k.oh i hi).move fun b hb => h b (.inr (.inr (.inr (.inr ⟨i, hi, hb⟩)))), k.ab, k.ah, k.bh⟩
theorem ShAt.foot_lt (k : ShAt W base g AB cB AH cH N M bs hs fb fh) (b : Nat) (h : ShFoot g AB cB AH cH N M bs hs b) : base ≤ b ∧ b < W.heap.size := by
  rcases h with rfl | h | h | ⟨i, hi, h⟩ | ⟨i, hi, h⟩
  · exact ⟨k.low, blk_lt k.blk⟩
  · exact World.ownsRow.lt k.rb b h
  · exact World.ownsRow.lt k.rh b h
  · exact (k.ob i hi).lt b h
  · exact (k.oh i hi).lt b h
theorem ShAt.below (k : ShAt W base g AB cB AH cH N M bs hs fb fh) (hb : Below W.heap.size W W') : ShAt W' base g AB cB AH cH N M bs hs fb fh := k.move fun b h => hb.block b (k.foot_lt b h).2
theorem ShAt.drew (k : ShAt W base g AB cB AH cH N M bs hs fb fh) : ShAt W.drew base g AB cB AH cH N M bs hs fb fh := k.below (below_drew (Below.refl _ _))
theorem ShAt.drewN (k : ShAt W base g AB cB AH cH N M bs hs fb fh) (m : Nat) : ShAt (W.drewN m) base g AB cB AH cH N M bs hs fb fh := k.below (pw_below_drewN (Below.refl _ _) m)
theorem ShAt.c0 (k : ShAt W base g AB cB AH cH N M bs hs fb fh) : W.cell? ⟨g, 0, none⟩ = some (.slice AB N cB) := (blk_cell k.blk 0).trans rfl
theorem ShAt.c1 (k : ShAt W base g AB cB AH cH N M bs hs fb fh) : W.cell? ⟨g, 1, none⟩ = some (.slice AH M cH) := (blk_cell k.blk 1).trans rfl
theorem ShAt.c2 (k : ShAt W base g AB cB AH cH N M bs hs fb fh) : W.cell? ⟨g, 2, none⟩ = some (.slice none 0 0) := (blk_cell k.blk 2).trans rfl
theorem ShAt.c3 (k : ShAt W base g AB cB AH cH N M bs hs fb fh) : W.cell? ⟨g, 3, none⟩ = some (.slice none 0 0) := (blk_cell k.blk 3).trans rfl
/-- No row of bytes is an array of rows, nor the shelf. -/
theorem ShAt.b_ne (k : ShAt W base g AB cB AH cH N M bs hs fb fh) (i : Nat) (hi : i < N) (b : Nat) (hb : (bs i).v.ownBlock = some b) : b ≠ g ∧ (Value.slice AB N cB).ownBlock ≠ some b ∧ (Value.slice AH M cH).ownBlock ≠ some b := by
  obtain ⟨c, hc⟩ := (k.ob i hi).typed b hb
  refine ⟨fun e => ?_, fun e => ?_, fun e => ?_⟩
  · subst e; exact absurd (ty_eq hc k.blk) (by decide)
  · obtain ⟨c2, hc2⟩ := own_typed k.rb b e; exact absurd (ty_eq hc hc2) (by decide)
  · obtain ⟨c2, hc2⟩ := own_typed k.rh b e; exact absurd (ty_eq hc hc2) (by decide)
theorem ShAt.h_ne (k : ShAt W base g AB cB AH cH N M bs hs fb fh) (i : Nat) (hi : i < M) (b : Nat) (hb : (hs i).v.ownBlock = some b) : b ≠ g ∧ (Value.slice AB N cB).ownBlock ≠ some b ∧ (Value.slice AH M cH).ownBlock ≠ some b := by
  obtain ⟨c, hc⟩ := (k.oh i hi).typed b hb
  refine ⟨fun e => ?_, fun e => ?_, fun e => ?_⟩
  · subst e; exact absurd (ty_eq hc k.blk) (by decide)
  · obtain ⟨c2, hc2⟩ := own_typed k.rb b e; exact absurd (ty_eq hc hc2) (by decide)
  · obtain ⟨c2, hc2⟩ := own_typed k.rh b e; exact absurd (ty_eq hc hc2) (by decide)
theorem ShAt.rb_ne (k : ShAt W base g AB cB AH cH N M bs hs fb fh) : (Value.slice AB N cB).ownBlock ≠ some g := fun e => by
  obtain ⟨c2, hc2⟩ := own_typed k.rb g e; exact absurd (ty_eq hc2 k.blk) (by decide)
theorem ShAt.rh_ne (k : ShAt W base g AB cB AH cH N M bs hs fb fh) : (Value.slice AH M cH).ownBlock ≠ some g := fun e => by
  obtain ⟨c2, hc2⟩ := own_typed k.rh g e; exact absurd (ty_eq hc2 k.blk) (by decide)
/-- One more list at the end of Bytes. -/
theorem ShAt.pushB (k : ShAt W base g AB cB AH cH N M bs hs fb fh) {AB' : Option Addr} {cB' : Nat} {l : Sl} {xs : List Int} (ho : W'.ownsRow base 37 1 (.slice AB' (N + 1) cB') (N + 1) (sls N bs ++ [l.v]))
    (hg : W.grownBy W' (Value.slice AB N cB).ownBlock) (hat : (Value.slice AB' (N + 1) cB').ownBlock = (Value.slice AB N cB).ownBlock ∨ ∃ b, (Value.slice AB' (N + 1) cB').ownBlock = some b ∧ W.heap.size ≤ b)
    (hl : Own .u8 5 W base l xs) (hf : ∀ b, l.v.ownBlock = some b → ¬ ShFoot g AB cB AH cH N M bs hs b) :
    ShAt (W'.setCell ⟨g, 0, none⟩ (.slice AB' (N + 1) cB')) base g AB' cB' AH cH (N + 1) M (fun i => if i = N then l else bs i) hs (fun i => if i = N then xs else fb i) fh := by
  have keep : ∀ b, b < W.heap.size → b ≠ g → (Value.slice AB N cB).ownBlock ≠ some b → (W'.setCell ⟨g, 0, none⟩ (.slice AB' (N + 1) cB')).heap[b]? = W.heap[b]? := fun b h1 h2 h3 =>
    (Below.heap_setCell W' _ _ b h2).trans (hg.block b h1 fun e => h3 e.symm)
  have hgne : (Value.slice AB' (N + 1) cB').ownBlock ≠ some g := fun e => by
    rcases hat with h | ⟨b, h, hb⟩
    · exact k.rb_ne (h.symm.trans e)
    · have : b = g := Option.some.inj (h.symm.trans e)
      have := blk_lt k.blk
      omega
  have hlne : ∀ b, l.v.ownBlock = some b → b ≠ g ∧ (Value.slice AB N cB).ownBlock ≠ some b := fun b hb => ⟨fun e => hf b hb (.inl e), fun e => hf b hb (.inr (.inl e))⟩
  refine ⟨k.low, ?_, ?_, ?_, ?_, ?_, ?_, ?_, k.ah, ?_⟩
  · have h1 : W'.heap[g]? = _ := (hg.block g (blk_lt k.blk) fun e => k.rb_ne e.symm).trans k.blk
    have := blk_set h1 0 (.slice AB' (N + 1) cB')
    exact this
  · rw [sls_snoc]
    exact own_move ho fun b hb => Below.heap_setCell W' _ _ b fun e => hgne (by rw [hb, e])
  · refine own_move k.rh fun b hb => keep b (World.ownsRow.lt k.rh b hb).2 (fun e => k.rh_ne (by rw [hb, e])) fun e => k.ne b e hb
  · intro b hb hb'
    rcases hat with h | ⟨b2, h, hb2⟩
    · exact k.ne b (h.symm.trans hb) hb'
    · have : b2 = b := Option.some.inj (h.symm.trans hb)
      have := (World.ownsRow.lt k.rh b hb').2
      omega
  · intro i hi
    by_cases e : i = N
    · rw [if_pos e, if_pos e]
      exact hl.move fun b hb => keep b (hl.lt b hb).2 (hlne b hb).1 (hlne b hb).2
    · rw [if_neg e, if_neg e]
      have hi' : i < N := by omega
      exact (k.ob i hi').move fun b hb => keep b ((k.ob i hi').lt b hb).2 (k.b_ne i hi' b hb).1 (k.b_ne i hi' b hb).2.1
  · intro i hi
    exact (k.oh i hi).move fun b hb => keep b ((k.oh i hi).lt b hb).2 (k.h_ne i hi b hb).1 (k.h_ne i hi b hb).2.1
  · intro i j hi hj hij
    by_cases e : i = N
    · rw [if_pos e, if_neg (by omega)]
      exact fun b hb hb' => hf b hb (.inr (.inr (.inr (.inl ⟨j, by omega, hb'⟩))))
    · rw [if_neg e]
      by_cases e2 : j = N
      · rw [if_pos e2]
        exact fun b hb hb' => hf b hb' (.inr (.inr (.inr (.inl ⟨i, by omega, hb⟩))))
      · rw [if_neg e2]
        exact k.ab i j (by omega) (by omega) hij
  · intro i j hi hj
    by_cases e : i = N
    · rw [if_pos e]
      exact fun b hb hb' => hf b hb (.inr (.inr (.inr (.inr ⟨j, hj, hb'⟩))))
    · rw [if_neg e]
      exact k.bh i j (by omega) hj
/-- One more list at the end of Held. -/
theorem ShAt.pushH (k : ShAt W base g AB cB AH cH N M bs hs fb fh) {AH' : Option Addr} {cH' : Nat} {l : Sl} {xs : List Int} (ho : W'.ownsRow base 37 1 (.slice AH' (M + 1) cH') (M + 1) (sls M hs ++ [l.v]))
    (hg : W.grownBy W' (Value.slice AH M cH).ownBlock) (hat : (Value.slice AH' (M + 1) cH').ownBlock = (Value.slice AH M cH).ownBlock ∨ ∃ b, (Value.slice AH' (M + 1) cH').ownBlock = some b ∧ W.heap.size ≤ b)
    (hl : Own .u8 5 W base l xs) (hf : ∀ b, l.v.ownBlock = some b → ¬ ShFoot g AB cB AH cH N M bs hs b) :
    ShAt (W'.setCell ⟨g, 1, none⟩ (.slice AH' (M + 1) cH')) base g AB cB AH' cH' N (M + 1) bs (fun i => if i = M then l else hs i) fb (fun i => if i = M then xs else fh i) := by
  have keep : ∀ b, b < W.heap.size → b ≠ g → (Value.slice AH M cH).ownBlock ≠ some b → (W'.setCell ⟨g, 1, none⟩ (.slice AH' (M + 1) cH')).heap[b]? = W.heap[b]? := fun b h1 h2 h3 =>
    (Below.heap_setCell W' _ _ b h2).trans (hg.block b h1 fun e => h3 e.symm)
  have hgne : (Value.slice AH' (M + 1) cH').ownBlock ≠ some g := fun e => by
    rcases hat with h | ⟨b, h, hb⟩
    · exact k.rh_ne (h.symm.trans e)
    · have : b = g := Option.some.inj (h.symm.trans e)
      have := blk_lt k.blk
      omega
  have hlne : ∀ b, l.v.ownBlock = some b → b ≠ g ∧ (Value.slice AH M cH).ownBlock ≠ some b := fun b hb => ⟨fun e => hf b hb (.inl e), fun e => hf b hb (.inr (.inr (.inl e)))⟩
  refine ⟨k.low, ?_, ?_, ?_, ?_, ?_, ?_, k.ab, ?_, ?_⟩
  · have h1 : W'.heap[g]? = _ := (hg.block g (blk_lt k.blk) fun e => k.rh_ne e.symm).trans k.blk
    have := blk_set h1 1 (.slice AH' (M + 1) cH')
    exact this
  · refine own_move k.rb fun b hb => keep b (World.ownsRow.lt k.rb b hb).2 (fun e => k.rb_ne (by rw [hb, e])) fun e => k.ne b hb e
  · rw [sls_snoc]
    exact own_move ho fun b hb => Below.heap_setCell W' _ _ b fun e => hgne (by rw [hb, e])
  · intro b hb hb'
    rcases hat with h | ⟨b2, h, hb2⟩
    · exact k.ne b hb (h.symm.trans hb')
    · have : b2 = b := Option.some.inj (h.symm.trans hb')
      have := (World.ownsRow.lt k.rb b hb).2
      omega
  · intro i hi
    exact (k.ob i hi).move fun b hb => keep b ((k.ob i hi).lt b hb).2 (k.b_ne i hi b hb).1 (k.b_ne i hi b hb).2.2
  · intro i hi
    by_cases e : i = M
    · rw [if_pos e, if_pos e]
      exact hl.move fun b hb => keep b (hl.lt b hb).2 (hlne b hb).1 (hlne b hb).2
    · rw [if_neg e, if_neg e]
      have hi' : i < M := by omega
      exact (k.oh i hi').move fun b hb => keep b ((k.oh i hi').lt b hb).2 (k.h_ne i hi' b hb).1 (k.h_ne i hi' b hb).2.2
  · intro i j hi hj hij
    by_cases e : i = M
    · rw [if_pos e, if_neg (by omega)]
      exact fun b hb hb' => hf b hb (.inr (.inr (.inr (.inr ⟨j, by omega, hb'⟩))))
    · rw [if_neg e]
      by_cases e2 : j = M
      · rw [if_pos e2]
        exact fun b hb hb' => hf b hb' (.inr (.inr (.inr (.inr ⟨i, by omega, hb⟩))))
      · rw [if_neg e2]
        exact k.ah i j (by omega) (by omega) hij
  · intro i j hi hj
    by_cases e : j = M
    · rw [if_pos e]
      exact fun b hb hb' => hf b hb' (.inr (.inr (.inr (.inl ⟨i, hi, hb⟩))))
    · rw [if_neg e]
      exact k.bh i j hi (by omega)
end
theorem Own.of_R3 {k : IntKind} {e base : Nat} {W : World} {ok : Nat → Prop} {v : Value} {xs : List Int} (h : Kd.R (Kd.int k) e W base ok v xs) : ∃ A n c, v = .slice A n c ∧ Own k e W base ⟨A, n, c⟩ xs := by
  obtain ⟨⟨A, n, c⟩, hv, ho⟩ := Own.of_R h
  exact ⟨A, n, c, hv, ho⟩
theorem sl_of {W : World} {base e n : Nat} {v : Value} {L : List Value} (h : W.ownsRow base e 1 v L.length L) (hn : L.length = n) : ∃ A c, v = .slice A n c ∧ W.ownsRow base e 1 (.slice A n c) n L := by
  obtain ⟨A, c, rfl⟩ := own_slice h
  subst hn
  exact ⟨A, c, rfl, h⟩
theorem infoSl : (Try.prog.info? 37).map (fun i => (i.zero, i.size, i.bytes)) = some (some (.slice none 0 0), 1, 24) := by kernel_rfl
/-- What keep leaves. -/
def KeepPost (W : World) (base g : Nat) (AB : Option Addr) (cB : Nat) (AH : Option Addr) (cH N : Nat) (bs hs : Nat → Sl) (fb fh : Nat → List Int) (l : Sl) (xs ys : List Int) (e : Ending) (w' : World) : Prop :=
  e = .returned (.tuple #[]) ∧ ∃ (AB' : Option Addr) (cB' : Nat) (AH' : Option Addr) (cH' : Nat) (w0 : Sl), ShAt w' base g AB' cB' AH' cH' (N + 1) (N + 1) (fun i => if i = N then l else bs i) (fun i => if i = N then w0 else hs i) (fun i => if i = N then xs else fb i) (fun i => if i = N then ys else fh i) ∧
    Below base W w' ∧ (∀ b, b < W.heap.size → b ≠ g → (Value.slice AB N cB).ownBlock ≠ some b → (Value.slice AH N cH).ownBlock ≠ some b → w'.heap[b]? = W.heap[b]?) ∧
    (∀ b, w0.v.ownBlock = some b → W.heap.size ≤ b) ∧ (∀ b, (Value.slice AB' (N + 1) cB').ownBlock = some b → (Value.slice AB N cB).ownBlock = some b ∨ W.heap.size ≤ b) ∧ (∀ b, (Value.slice AH' (N + 1) cH').ownBlock = some b → (Value.slice AH N cH).ownBlock = some b ∨ W.heap.size ≤ b)
theorem keep_mid {W w1 w2 : World} {base g : Nat} {AB : Option Addr} {cB : Nat} {AH : Option Addr} {cH N : Nat} {bs hs : Nat → Sl} {fb fh : Nat → List Int} {l t : Sl} {xs ys : List Int} {AB' : Option Addr} {cB' : Nat} (k : ShAt W base g AB cB AH cH N N bs hs fb fh) (_hb1 : Below W.heap.size W w1) (ht : Own .u8 5 w1 W.heap.size t ys) (hl : Own .u8 5 W base l xs)
    (hg : w1.grownBy w2 (Value.slice AB N cB).ownBlock) (hat : (Value.slice AB' (N + 1) cB').ownBlock = (Value.slice AB N cB).ownBlock ∨ ∃ b, (Value.slice AB' (N + 1) cB').ownBlock = some b ∧ w1.heap.size ≤ b) (u : Value) :
    Own .u8 5 (w2.setCell ⟨g, 0, none⟩ u) base t ys ∧ ∀ b, t.v.ownBlock = some b → ¬ ShFoot g AB' cB' AH cH (N + 1) N (fun i => if i = N then l else bs i) hs b := by
  have hbs : base ≤ W.heap.size := by have := k.low; have := blk_lt k.blk; omega
  have hgl := blk_lt k.blk
  refine ⟨(ht.lower hbs).move fun b hb => ?_, fun b hb hsf => ?_⟩
  · have h1 := ht.lt b hb
    refine (Below.heap_setCell w2 _ _ b (by dsimp only; omega)).trans (hg.block b h1.2 fun e => ?_)
    have := (World.ownsRow.lt k.rb b e.symm).2
    omega
  · have h1 := ht.lt b hb
    rcases hsf with h | h | h | ⟨i, hi, h⟩ | ⟨i, hi, h⟩
    · omega
    · rcases hat with h2 | ⟨b2, h2, hb2⟩
      · have := (World.ownsRow.lt k.rb b (h2.symm.trans h)).2; omega
      · have : b2 = b := Option.some.inj (h2.symm.trans h); omega
    · have := (World.ownsRow.lt k.rh b h).2; omega
    · by_cases e : i = N
      · simp only [if_pos e] at h
        have := (hl.lt b h).2; omega
      · simp only [if_neg e] at h
        have := ((k.ob i (by omega)).lt b h).2; omega
    · have := ((k.oh i hi).lt b h).2; omega
set_option maxHeartbeats 4000000 in
set_option maxRecDepth 100000 in
theorem keep_is (W : World) (base g : Nat) (AB : Option Addr) (cB : Nat) (AH : Option Addr) (cH N : Nat) (bs hs : Nat → Sl) (fb fh : Nat → List Int) (k : ShAt W base g AB cB AH cH N N bs hs fb fh) (hN : N < 400) (l : Sl) (xs : List Int) (hl : Own .u8 5 W base l xs)
    (hf : ∀ b, l.v.ownBlock = some b → ¬ ShFoot g AB cB AH cH N N bs hs b) (B : Option Addr) (m d : Nat) (ys : List Int) (hy : Kd.C (Kd.int .u8) W B m ys) (hyl : ys.length ≤ 4398046511104) :
    Calls Try.prog 69 #[.pointer (some ⟨g, 0, none⟩), .slice l.A l.n l.c, .slice B m d] W (KeepPost W base g AB cB AH cH N bs hs fb fh l xs ys) := by
  have hu91 := Try.underlying91
  have hbs : base ≤ W.heap.size := by have := k.low; have := blk_lt k.blk; omega
  have HBS := Aside0.mk hbs
  have HK := Aside0.mk k
  have HL := Aside0.mk hl
  have HF := Aside0.mk hf
  have HY := Aside0.mk hy
  have HYL := Aside0.mk hyl
  have c0 := k.c0
  have hN1 : (N : Int) < 400 := by omega
  clear k hl hf hy hyl hbs
  go_enter Try.func69, Try.ntmps69
  go_wp2_with (first
    | ((with_reducible refine gate_builtin (b := .append) (xs := #[.tmp 13, .tmp 14]) rfl ?_); at_builtin; refine Kd.R_append_rows (Kd.int .u8) (w0 := W) W.heap.size rfl (.tmp 13) (.tmp 14) 37 5 (.int .u8 0) 1 rfl Try.underlying37 infoU8 rfl (by decide) (by omega) (.slice none 0 0) ([] : List Int) ys _ _ _ (fun _ => True) (fun _ => False) rfl rfl ?aO ?aR (fun _ _ h => h) (fun _ h => h.elim) ?aF ?aB ?aS ?aL ?_; (case aR => exact HY.out); (case aB => exact Below.refl _ _); (case aF => exact (fun _ _ => trivial)); (case aO => exact (Kd.R_nil _ _ _ _ (fun _ => True))); (case aS => exact Nat.le_refl _); (case aL => have := HYL.out; have := HY.out.1; simp; omega); intro v1 w1 ho hb hg hat; obtain ⟨A', n', c', rfl, hown⟩ := Own.of_R3 ho; have HT0 := Aside0.mk hown; have HB1 := Aside0.mk hb; have HK1 := Aside0.mk (HK.out.below hb); have HL1 := Aside0.mk (HL.out.below hb); have d0 := HK1.out.c0; clear ho hb hg hat hown c0)
    | ((with_reducible refine gate_builtin (b := .append) (xs := #[.tmp 20, .tmp 22]) rfl ?_); at_builtin; refine print_append_both (w0 := w1) base rfl (.tmp 20) (.tmp 22) 88 37 (.slice none 0 0) 24 rfl Try.underlying88 infoSl rfl (by decide) (.slice AB N cB) (sls N bs) (.slice l.A l.n l.c) rfl rfl rfl ?aO ?aB ?aS ?aL ?_; (case aO => rw [sls_len]; exact HK1.out.rb); (case aB => exact Below.refl _ _); (case aS => exact Nat.le_trans HBS.out HB1.out.size); (case aL => rw [sls_len]; omega); intro v2 w2 ho _ hb hg hat; obtain ⟨AB', cB', rfl, ho2⟩ := sl_of ho (show _ = N + 1 by simp [sls_len]); have HK3 := Aside0.mk (HK1.out.pushB ho2 hg hat HL1.out HF.out); have b2 := (hg.block g (blk_lt HK1.out.blk) fun e => HK1.out.rb_ne e.symm).trans HK1.out.blk; have e0 := (blk_cell b2 0).trans rfl; have f0 := blk_frozen b2 0; have d1 := HK3.out.c1; have HA2 := Aside0.mk hat; have HM := Aside0.mk (keep_mid HK.out HB1.out HT0.out HL.out hg hat (.slice AB' (N + 1) cB')); have HB3 := Aside0.mk (show Below base W (w2.setCell ⟨g, 0, none⟩ (.slice AB' (N + 1) cB')) from ((HB1.out.mono HBS.out).trans hb).setCell (p := ⟨g, 0, none⟩) HK.out.low _); have HP3 := Aside0.mk (show ∀ b, b < W.heap.size → b ≠ g → (Value.slice AB N cB).ownBlock ≠ some b → (w2.setCell ⟨g, 0, none⟩ (.slice AB' (N + 1) cB')).heap[b]? = W.heap[b]? from fun b h1 h2 h3 => (Below.heap_setCell w2 _ _ b h2).trans ((hg.block b (Nat.lt_of_lt_of_le h1 HB1.out.size) fun e => h3 e.symm).trans (HB1.out.block b h1))); clear ho hb hg hat ho2 b2 d0)
    | ((with_reducible refine gate_builtin (b := .append) (xs := #[.tmp 30, .tmp 32]) rfl ?_); at_builtin; refine print_append_both (w0 := w2.setCell ⟨g, 0, none⟩ (.slice AB' (N + 1) cB')) base rfl (.tmp 30) (.tmp 32) 88 37 (.slice none 0 0) 24 rfl Try.underlying88 infoSl rfl (by decide) (.slice AH N cH) (sls N hs) (.slice A' n' c') rfl ?aX rfl ?aO ?aB ?aS ?aL ?_; (case aX => (first | rfl | (rw [World.size_setCell]; rfl) | (simp; done) | (simp; rfl))); (case aO => rw [sls_len]; exact HK3.out.rh); (case aB => exact Below.refl _ _); (case aS => exact Nat.le_trans HBS.out HB3.out.size); (case aL => rw [sls_len]; omega); intro v4 w4 ho _ hb hg hat; obtain ⟨AH', cH', rfl, ho2⟩ := sl_of ho (show _ = N + 1 by simp [sls_len]); have HK5 := Aside0.mk (HK3.out.pushH ho2 hg hat HM.out.1 HM.out.2); have b2 := (hg.block g (blk_lt HK3.out.blk) fun e => HK3.out.rh_ne e.symm).trans HK3.out.blk; have e1 := (blk_cell b2 1).trans rfl; have f1 := blk_frozen b2 1; have HB5 := Aside0.mk (show Below base W (w4.setCell ⟨g, 1, none⟩ (.slice AH' (N + 1) cH')) from (HB3.out.trans hb).setCell (p := ⟨g, 1, none⟩) HK.out.low _); have HP5 := Aside0.mk (show ∀ b, b < W.heap.size → b ≠ g → (Value.slice AB N cB).ownBlock ≠ some b → (Value.slice AH N cH).ownBlock ≠ some b → (w4.setCell ⟨g, 1, none⟩ (.slice AH' (N + 1) cH')).heap[b]? = W.heap[b]? from fun b h1 h2 h3 h4 => (Below.heap_setCell w4 _ _ b h2).trans ((hg.block b (Nat.lt_of_lt_of_le h1 HB3.out.size) fun e => h4 e.symm).trans (HP3.out b h1 h2 h3))); have HA4 := Aside0.mk hat; clear ho hb hg hat ho2 b2 e0 f0 d1))
  go_end0
  refine ⟨rfl, AB', cB', AH', cH', ⟨A', n', c'⟩, HK5.out, HB5.out, HP5.out, fun b hb => (HT0.out.lt b hb).1, fun b hb => ?_, fun b hb => ?_⟩
  · rcases HA2.out with h | ⟨b2, h, hb2⟩
    · exact .inl (h.symm.trans hb)
    · have e : b2 = b := Option.some.inj (h.symm.trans hb)
      have := HB1.out.size
      exact .inr (by omega)
  · rcases HA4.out with h | ⟨b2, h, hb2⟩
    · exact .inl (h.symm.trans hb)
    · have e : b2 = b := Option.some.inj (h.symm.trans hb)
      have := HB3.out.size
      exact .inr (by omega)
end Go.Proofs.Ytceeoifbimlkdaa.B
