/- Proved, plainly: the Shelf's memory while its lists are written full and grown. No program's own step in it. -/
import Derived.Test.YtceeoifbimlkdaaHHolds
namespace Go.Proofs.Ytceeoifbimlkdaa.B
open Go.RowKit Go.Proofs.YtceeoifbimlkdaaW.PrintWords Go.Proofs.YtceeoifbimlkdaaW.PrintLast Go.Proofs.YtceeoifbimlkdaaW.PrintMore

section
variable {W W' : World} {base g : Nat} {AB : Option Addr} {cB : Nat} {AH : Option Addr} {cH : Nat} {N M : Nat} {bs hs : Nat → Sl} {fb fh : Nat → List Int}
theorem own_at_eq {s : Sl} {p : Nat} (hA : s.A = some ⟨p, 0, none⟩) : s.v.ownBlock = some p := by simp [Sl.v, Value.ownBlock, hA]
/-- A number written into a list of Bytes. -/
theorem ShAt.putB (k : ShAt W base g AB cB AH cH N M bs hs fb fh) {i p : Nat} (hi : i < N) (hA : (bs i).A = some ⟨p, 0, none⟩) (j : Nat) (x : Int) :
    ShAt (W.setCell ⟨p, j, none⟩ (.int .u8 x)) base g AB cB AH cH N M bs hs (fun a => if a = i then (fb i).set j x else fb a) fh := by
  have hp := own_at_eq hA
  obtain ⟨n1, n2, n3⟩ := k.b_ne i hi p hp
  have keep : ∀ b, b ≠ p → (W.setCell ⟨p, j, none⟩ (.int .u8 x)).heap[b]? = W.heap[b]? := fun b h => Below.heap_setCell W _ _ b h
  refine ⟨k.low, (keep g (fun e => n1 e.symm)).trans k.blk, own_move k.rb fun b hb => keep b fun e => n2 (by rw [← e]; exact hb), own_move k.rh fun b hb => keep b fun e => n3 (by rw [← e]; exact hb), k.ne, ?_, ?_, k.ab, k.ah, k.bh⟩
  · intro a ha
    by_cases e : a = i
    · subst e
      rw [if_pos rfl]
      exact (k.ob a ha).put hA j x
    · rw [if_neg e]
      exact (k.ob a ha).move fun b hb => keep b fun e2 => k.ab a i ha hi e b hb (by rw [e2]; exact hp)
  · intro a ha
    exact (k.oh a ha).move fun b hb => keep b fun e2 => k.bh i a hi ha p hp (by rw [← e2]; exact hb)
/-- A number written into a list of Held. -/
theorem ShAt.putH (k : ShAt W base g AB cB AH cH N M bs hs fb fh) {i p : Nat} (hi : i < M) (hA : (hs i).A = some ⟨p, 0, none⟩) (j : Nat) (x : Int) :
    ShAt (W.setCell ⟨p, j, none⟩ (.int .u8 x)) base g AB cB AH cH N M bs hs fb (fun a => if a = i then (fh i).set j x else fh a) := by
  have hp := own_at_eq hA
  obtain ⟨n1, n2, n3⟩ := k.h_ne i hi p hp
  have keep : ∀ b, b ≠ p → (W.setCell ⟨p, j, none⟩ (.int .u8 x)).heap[b]? = W.heap[b]? := fun b h => Below.heap_setCell W _ _ b h
  refine ⟨k.low, (keep g (fun e => n1 e.symm)).trans k.blk, own_move k.rb fun b hb => keep b fun e => n2 (by rw [← e]; exact hb), own_move k.rh fun b hb => keep b fun e => n3 (by rw [← e]; exact hb), k.ne, ?_, ?_, k.ab, k.ah, k.bh⟩
  · intro a ha
    exact (k.ob a ha).move fun b hb => keep b fun e2 => k.bh a i ha hi b hb (by rw [e2]; exact hp)
  · intro a ha
    by_cases e : a = i
    · subst e
      rw [if_pos rfl]
      exact (k.oh a ha).put hA j x
    · rw [if_neg e]
      exact (k.oh a ha).move fun b hb => keep b fun e2 => k.ah a i ha hi e b hb (by rw [e2]; exact hp)
theorem ShAt.same (k : ShAt W base g AB cB AH cH N M bs hs fb fh) {fb' fh' : Nat → List Int} (h1 : ∀ i, i < N → fb' i = fb i) (h2 : ∀ i, i < M → fh' i = fh i) : ShAt W base g AB cB AH cH N M bs hs fb' fh' :=
  ⟨k.low, k.blk, k.rb, k.rh, k.ne, fun i hi => by rw [h1 i hi]; exact k.ob i hi, fun i hi => by rw [h2 i hi]; exact k.oh i hi, k.ab, k.ah, k.bh⟩
/-- How far the marks have come: lists below i, and of list i the places below k. -/
def Mk (N : Nat) (L : Nat → Nat) (m : Nat → Int) (i kb kh : Nat) (fb fh : Nat → List Int) : Prop :=
  ∀ j, j < N → (fb j).length = L j ∧ (fh j).length = L j ∧ (∀ a, a < L j → (j < i ∨ j = i ∧ a < kb) → (fb j)[a]? = some (m j)) ∧ ∀ a, a < L j → (j < i ∨ j = i ∧ a < kh) → (fh j)[a]? = some (m j)
theorem Mk.putB {L : Nat → Nat} {m : Nat → Int} {i k kh : Nat} (h : Mk N L m i k kh fb fh) (hi : i < N) (hk : k < L i) : Mk N L m i (k + 1) kh (fun a => if a = i then (fb i).set k (m i) else fb a) fh := by
  intro j hj
  obtain ⟨h1, h2, h3, h4⟩ := h j hj
  refine ⟨?_, h2, ?_, h4⟩
  · by_cases e : j = i
    · subst e; simp only [if_pos, List.length_set]; exact h1
    · simp only [if_neg e]; exact h1
  · intro a ha hja
    by_cases e : j = i
    · subst e
      simp only [if_pos]
      by_cases e2 : a = k
      · subst e2
        rw [List.getElem?_set_self (by omega)]
      · rw [List.getElem?_set_ne (by omega)]
        exact h3 a ha (.inr ⟨rfl, by omega⟩)
    · simp only [if_neg e]
      exact h3 a ha (by omega)
theorem Mk.putH {L : Nat → Nat} {m : Nat → Int} {i k kb : Nat} (h : Mk N L m i kb k fb fh) (hi : i < N) (hk : k < L i) : Mk N L m i kb (k + 1) fb (fun a => if a = i then (fh i).set k (m i) else fh a) := by
  intro j hj
  obtain ⟨h1, h2, h3, h4⟩ := h j hj
  refine ⟨h1, ?_, h3, ?_⟩
  · by_cases e : j = i
    · subst e; simp only [if_pos, List.length_set]; exact h2
    · simp only [if_neg e]; exact h2
  · intro a ha hja
    by_cases e : j = i
    · subst e
      simp only [if_pos]
      by_cases e2 : a = k
      · subst e2
        rw [List.getElem?_set_self (by omega)]
      · rw [List.getElem?_set_ne (by omega)]
        exact h4 a ha (.inr ⟨rfl, by omega⟩)
    · simp only [if_neg e]
      exact h4 a ha (by omega)
theorem Mk.next {L : Nat → Nat} {m : Nat → Int} {i k : Nat} (h : Mk N L m i k k fb fh) (hk : L i ≤ k) : Mk N L m (i + 1) 0 0 fb fh := fun j hj => by
  obtain ⟨h1, h2, h3, h4⟩ := h j hj
  refine ⟨h1, h2, fun a ha hja => h3 a ha ?_, fun a ha hja => h4 a ha ?_⟩
  · rcases Nat.lt_or_ge j i with e | e
    · exact .inl e
    · have : j = i := by omega
      subst this; exact .inr ⟨rfl, by omega⟩
  · rcases Nat.lt_or_ge j i with e | e
    · exact .inl e
    · have : j = i := by omega
      subst this; exact .inr ⟨rfl, by omega⟩
theorem Mk.done {L : Nat → Nat} {m : Nat → Int} (h : Mk N L m N 0 0 fb fh) (j : Nat) (hj : j < N) : fb j = List.replicate (L j) (m j) ∧ fh j = List.replicate (L j) (m j) := by
  obtain ⟨h1, h2, h3, h4⟩ := h j hj
  constructor
  · refine List.ext_getElem? fun a => ?_
    rw [List.getElem?_replicate]
    by_cases e : a < L j
    · rw [if_pos e, h3 a e (.inl hj)]
    · rw [if_neg e, List.getElem?_eq_none (by omega)]
  · refine List.ext_getElem? fun a => ?_
    rw [List.getElem?_replicate]
    by_cases e : a < L j
    · rw [if_pos e, h4 a e (.inl hj)]
    · rw [if_neg e, List.getElem?_eq_none (by omega)]
end
/-- The lists that have been grown so far. -/
structure LgAt (W : World) (base g : Nat) (AB : Option Addr) (cB : Nat) (AH : Option Addr) (cH : Nat) (N : Nat) (bs hs : Nat → Sl) (fb fh : Nat → List Int) (i : Nat) (AL : Option Addr) (cL : Nat) (ls : Nat → Sl) (xv : Nat → Int) : Prop where
  sh : ShAt W base g AB cB AH cH N N bs hs fb fh
  rl : W.ownsRow base 37 1 (.slice AL i cL) i (sls i ls)
  nb : NeRow (.slice AL i cL) (.slice AB N cB)
  nh : NeRow (.slice AL i cL) (.slice AH N cH)
  ol : ∀ j, j < i → Own .u8 5 W base (ls j) (fb j ++ List.replicate 64 (xv j))
  wh : ∀ j, j < i → ∀ b, (ls j).v.ownBlock = some b → (bs j).v.ownBlock = some b ∨ ¬ ShFoot g AB cB AH cH N N bs hs b
/-- And the one that grows. -/
structure LnAt (W : World) (base g : Nat) (AB : Option Addr) (cB : Nat) (AH : Option Addr) (cH : Nat) (N : Nat) (bs hs : Nat → Sl) (fb fh : Nat → List Int) (i : Nat) (AL : Option Addr) (cL : Nat) (ls : Nat → Sl) (xv : Nat → Int) (t : Sl) (k : Nat) : Prop where
  lg : LgAt W base g AB cB AH cH N bs hs fb fh i AL cL ls xv
  lo : Own .u8 5 W base t (fb i ++ List.replicate k (xv i))
  lw : ∀ b, t.v.ownBlock = some b → (bs i).v.ownBlock = some b ∨ (¬ ShFoot g AB cB AH cH N N bs hs b ∧ ∀ j, j < i → (ls j).v.ownBlock ≠ some b)
section
variable {W W' : World} {base g : Nat} {AB : Option Addr} {cB : Nat} {AH : Option Addr} {cH : Nat} {N : Nat} {bs hs : Nat → Sl} {fb fh : Nat → List Int} {i : Nat} {AL : Option Addr} {cL : Nat} {ls : Nat → Sl} {xv : Nat → Int} {t t1 : Sl} {k : Nat}
theorem LgAt.below (h : LgAt W base g AB cB AH cH N bs hs fb fh i AL cL ls xv) (hb : Below W.heap.size W W') : LgAt W' base g AB cB AH cH N bs hs fb fh i AL cL ls xv :=
  ⟨h.sh.below hb, own_move h.rl fun b hs => hb.block b (World.ownsRow.lt h.rl b hs).2, h.nb, h.nh, fun j hj => (h.ol j hj).below hb, h.wh⟩
theorem LnAt.below (h : LnAt W base g AB cB AH cH N bs hs fb fh i AL cL ls xv t k) (hb : Below W.heap.size W W') : LnAt W' base g AB cB AH cH N bs hs fb fh i AL cL ls xv t k := ⟨h.lg.below hb, h.lo.below hb, h.lw⟩
theorem LgAt.l_ty (h : LgAt W base g AB cB AH cH N bs hs fb fh i AL cL ls xv) (b : Nat) {c : Array Value} (hc : W.heap[b]? = some (.cells c 5 (0, 0))) : b ≠ g ∧ (Value.slice AB N cB).ownBlock ≠ some b ∧ (Value.slice AH N cH).ownBlock ≠ some b ∧ (Value.slice AL i cL).ownBlock ≠ some b := by
  refine ⟨fun e => ?_, fun e => ?_, fun e => ?_, fun e => ?_⟩
  · subst e; exact absurd (ty_eq hc h.sh.blk) (by decide)
  · obtain ⟨c2, hc2⟩ := own_typed h.sh.rb b e; exact absurd (ty_eq hc hc2) (by decide)
  · obtain ⟨c2, hc2⟩ := own_typed h.sh.rh b e; exact absurd (ty_eq hc hc2) (by decide)
  · obtain ⟨c2, hc2⟩ := own_typed h.rl b e; exact absurd (ty_eq hc hc2) (by decide)
/-- One more number behind the list that grows. -/
theorem LnAt.step (h : LnAt W base g AB cB AH cH N bs hs fb fh i AL cL ls xv t k) (hi : i < N) (h1 : Own .u8 5 W' base t1 (fb i ++ List.replicate k (xv i) ++ [xv i])) (h2 : Own .u8 5 W' base t (fb i ++ List.replicate k (xv i))) (hg : W.grownBy W' t.v.ownBlock)
    (hat : t1.v.ownBlock = t.v.ownBlock ∨ ∃ b, t1.v.ownBlock = some b ∧ W.heap.size ≤ b) : LnAt W' base g AB cB AH cH N bs hs fb fh i AL cL ls xv t1 (k + 1) := by
  have kp : ∀ b, b < W.heap.size → t.v.ownBlock ≠ some b → W'.heap[b]? = W.heap[b]? := fun b hb hne => hg.block b hb fun e => hne e.symm
  have tne : ∀ b, t.v.ownBlock = some b → b ≠ g ∧ (Value.slice AB N cB).ownBlock ≠ some b ∧ (Value.slice AH N cH).ownBlock ≠ some b ∧ (Value.slice AL i cL).ownBlock ≠ some b := fun b hb => by
    obtain ⟨c, hc⟩ := h.lo.typed b hb
    exact h.lg.l_ty b hc
  have sh := h.lg.sh
  have sh' : ShAt W' base g AB cB AH cH N N bs hs fb fh := by
    refine ⟨sh.low, (kp g (blk_lt sh.blk) fun e => (tne g e).1 rfl).trans sh.blk, own_move sh.rb fun b hb => kp b (World.ownsRow.lt sh.rb b hb).2 fun e => (tne b e).2.1 hb, own_move sh.rh fun b hb => kp b (World.ownsRow.lt sh.rh b hb).2 fun e => (tne b e).2.2.1 hb, sh.ne, ?_, ?_, sh.ab, sh.ah, sh.bh⟩
    · intro j hj
      by_cases e : j = i
      · subst e
        by_cases es : t.v.ownBlock = (bs j).v.ownBlock
        · exact own_shares h.lo (sh.ob j hj) es (by simp) h2
        · exact (sh.ob j hj).move fun b hb => kp b ((sh.ob j hj).lt b hb).2 fun e2 => es (by rw [e2, hb])
      · refine (sh.ob j hj).move fun b hb => kp b ((sh.ob j hj).lt b hb).2 fun e2 => ?_
        rcases h.lw b e2 with h3 | ⟨h3, _⟩
        · exact sh.ab j i hj hi e b hb h3
        · exact h3 (.inr (.inr (.inr (.inl ⟨j, hj, hb⟩))))
    · intro j hj
      refine (sh.oh j hj).move fun b hb => kp b ((sh.oh j hj).lt b hb).2 fun e2 => ?_
      rcases h.lw b e2 with h3 | ⟨h3, _⟩
      · exact sh.bh i j hi hj b h3 hb
      · exact h3 (.inr (.inr (.inr (.inr ⟨j, hj, hb⟩))))
  refine ⟨⟨sh', own_move h.lg.rl fun b hb => kp b (World.ownsRow.lt h.lg.rl b hb).2 fun e => (tne b e).2.2.2 hb, h.lg.nb, h.lg.nh, fun j hj => ?_, h.lg.wh⟩, ?_, ?_⟩
  · refine (h.lg.ol j hj).move fun b hb => kp b ((h.lg.ol j hj).lt b hb).2 fun e2 => ?_
    rcases h.lw b e2 with h3 | ⟨_, h3⟩
    · rcases h.lg.wh j hj b hb with h4 | h4
      · exact sh.ab j i (by omega) hi (by omega) b h4 h3
      · exact h4 (.inr (.inr (.inr (.inl ⟨i, hi, h3⟩))))
    · exact h3 j hj hb
  · rw [List.replicate_succ', ← List.append_assoc]; exact h1
  · intro b hb
    rcases hat with h3 | ⟨b2, h3, hb2⟩
    · exact h.lw b (h3.symm.trans hb)
    · have e : b2 = b := Option.some.inj (h3.symm.trans hb)
      refine .inr ⟨fun hf => ?_, fun j hj hj2 => ?_⟩
      · have := (sh.foot_lt b hf).2; omega
      · have := ((h.lg.ol j hj).lt b hj2).2; omega
theorem LnAt.first (h : LgAt W base g AB cB AH cH N bs hs fb fh i AL cL ls xv) (hi : i < N) : LnAt W base g AB cB AH cH N bs hs fb fh i AL cL ls xv (bs i) 0 := ⟨h, by simpa using h.sh.ob i hi, fun _ hb => .inl hb⟩
/-- It is laid behind the others. -/
theorem LnAt.close (h : LnAt W base g AB cB AH cH N bs hs fb fh i AL cL ls xv t 64) (hi : i < N) {AL' : Option Addr} {cL' : Nat} (ho : W'.ownsRow base 37 1 (.slice AL' (i + 1) cL') (i + 1) (sls i ls ++ [t.v])) (hg : W.grownBy W' (Value.slice AL i cL).ownBlock)
    (hat : (Value.slice AL' (i + 1) cL').ownBlock = (Value.slice AL i cL).ownBlock ∨ ∃ b, (Value.slice AL' (i + 1) cL').ownBlock = some b ∧ W.heap.size ≤ b) :
    LgAt W' base g AB cB AH cH N bs hs fb fh (i + 1) AL' cL' (fun j => if j = i then t else ls j) xv := by
  have kp : ∀ b, b < W.heap.size → (Value.slice AL i cL).ownBlock ≠ some b → W'.heap[b]? = W.heap[b]? := fun b hb hne => hg.block b hb fun e => hne e.symm
  have sh := h.lg.sh
  have u8 : ∀ {s : Sl} {xs : List Int}, Own .u8 5 W base s xs → Own .u8 5 W' base s xs := fun hs => hs.move fun b hb => kp b (hs.lt b hb).2 (by
    obtain ⟨c, hc⟩ := hs.typed b hb
    exact (h.lg.l_ty b hc).2.2.2)
  have lg_g : (Value.slice AL i cL).ownBlock ≠ some g := fun e => by
    obtain ⟨c2, hc2⟩ := own_typed h.lg.rl g e; exact absurd (ty_eq hc2 sh.blk) (by decide)
  refine ⟨⟨sh.low, (kp g (blk_lt sh.blk) lg_g).trans sh.blk, own_move sh.rb fun b hb => kp b (World.ownsRow.lt sh.rb b hb).2 fun e => h.lg.nb b e hb, own_move sh.rh fun b hb => kp b (World.ownsRow.lt sh.rh b hb).2 fun e => h.lg.nh b e hb, sh.ne, fun j hj => u8 (sh.ob j hj), fun j hj => u8 (sh.oh j hj), sh.ab, sh.ah, sh.bh⟩, ?_, ?_, ?_, ?_, ?_⟩
  · rw [sls_snoc]; exact ho
  · intro b hb hb2
    rcases hat with h3 | ⟨b2, h3, hb3⟩
    · exact h.lg.nb b (h3.symm.trans hb) hb2
    · have e : b2 = b := Option.some.inj (h3.symm.trans hb)
      have := (World.ownsRow.lt sh.rb b hb2).2; omega
  · intro b hb hb2
    rcases hat with h3 | ⟨b2, h3, hb3⟩
    · exact h.lg.nh b (h3.symm.trans hb) hb2
    · have e : b2 = b := Option.some.inj (h3.symm.trans hb)
      have := (World.ownsRow.lt sh.rh b hb2).2; omega
  · intro j hj
    by_cases e : j = i
    · subst e; simp only [if_pos]; exact u8 h.lo
    · simp only [if_neg e]; exact u8 (h.lg.ol j (by omega))
  · intro j hj b hb
    by_cases e : j = i
    · subst e
      simp only [if_pos] at hb
      rcases h.lw b hb with h3 | ⟨h3, _⟩
      · exact .inl h3
      · exact .inr h3
    · simp only [if_neg e] at hb
      exact h.lg.wh j (by omega) b hb
end
end Go.Proofs.Ytceeoifbimlkdaa.B
