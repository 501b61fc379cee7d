/- Proved, plainly: a shelf of lists of bytes and of lists of ints in memory: lists laid behind, written and grown; an append to a clipped slice. No program's own step in it. -/
import Derived.Test.YtceeoifbimlkdaaHLent
namespace Go.Proofs.Ytceeoifbimlkdaa.B
open Go.RowKit Go.Proofs.YtceeoifbimlkdaaW.PrintWords Go.Proofs.YtceeoifbimlkdaaW.PrintLast Go.Proofs.YtceeoifbimlkdaaW.PrintMore

def sls (N : Nat) (bs : Nat → Sl) : List Value := (List.range N).map fun i => (bs i).v
theorem sls_len (N : Nat) (bs : Nat → Sl) : (sls N bs).length = N := by simp [sls]
theorem sls_at (N : Nat) (bs : Nat → Sl) (i : Nat) (h : i < N) : (sls N bs)[i]? = some (bs i).v := by simp [sls, h]
theorem sls_snoc (N : Nat) (bs : Nat → Sl) (s : Sl) : sls (N + 1) (fun i => if i = N then s else bs i) = sls N bs ++ [s.v] := by
  unfold sls
  rw [List.range_succ, List.map_append]
  congr 1
  · refine List.map_congr_left fun i hi => ?_
    have := List.mem_range.1 hi
    show (if i = N then s else bs i).v = (bs i).v
    rw [if_neg (by omega)]
  · simp
theorem ty_eq {W : World} {b t1 t2 : Nat} {c1 c2 : Array Value} (h1 : W.heap[b]? = some (.cells c1 t1 (0, 0))) (h2 : W.heap[b]? = some (.cells c2 t2 (0, 0))) : t1 = t2 := by
  rw [h1] at h2
  injection h2 with h2
  injection h2
theorem add_lit (q j : Nat) : (⟨q, 0, none⟩ : Addr).add j = ⟨q, j, none⟩ := by unfold Addr.add; split <;> simp_all
theorem own_addr {W : World} {base e n c : Nat} {A : Option Addr} {xs : List Value} (h : W.ownsRow base e 1 (.slice A n c) n xs) (hp : 0 < n) : ∃ q, A = some ⟨q, 0, none⟩ := by
  rcases h.2 with ⟨h1, h2⟩ | ⟨q, cap, cur, h1, _⟩
  · omega
  · exact ⟨q, by injection h1⟩
theorem own_cell {W : World} {base e n c q : Nat} {xs : List Value} (h : W.ownsRow base e 1 (.slice (some ⟨q, 0, none⟩) n c) n xs) (i : Nat) (v : Value) (hv : xs[i]? = some v) : W.cell? ⟨q, i, none⟩ = some v := by
  have := h.cells (g := q) rfl i v hv
  rwa [add_lit] at this
theorem sl_of {W : World} {base e n : Nat} {v : Value} {L : List Value} (h : W.ownsRow base e 1 v L.length L) (hn : L.length = n) : ∃ A c, v = .slice A n c ∧ W.ownsRow base e 1 (.slice A n c) n L := by
  obtain ⟨A, c, rfl⟩ := own_slice h
  subst hn
  exact ⟨A, c, rfl, h⟩
theorem Own.of_R3 {k : IntKind} {e base : Nat} {W : World} {ok : Nat → Prop} {v : Value} {xs : List Int} (h : Kd.R (Kd.int k) e W base ok v xs) : ∃ A n c, v = .slice A n c ∧ Own k e W base ⟨A, n, c⟩ xs := by
  obtain ⟨⟨A, n, c⟩, hv, ho⟩ := Own.of_R h
  exact ⟨A, n, c, hv, ho⟩
theorem infoSl : (Try.prog.info? 37).map (fun i => (i.zero, i.size, i.bytes)) = some (some (.slice none 0 0), 1, 24) := by kernel_rfl
theorem infoSi : (Try.prog.info? 56).map (fun i => (i.zero, i.size, i.bytes)) = some (some (.slice none 0 0), 1, 24) := by kernel_rfl

/-! ### A slice that owns its block, clipped or not -/
def OwnC (k : IntKind) (e : Nat) (W : World) (base : Nat) (s : Sl) (xs : List Int) : Prop := ∃ c9, Own k e W base ⟨s.A, s.n, c9⟩ xs ∧ (s.c = c9 ∨ s.c = s.n)
section
variable {k : IntKind} {e base : Nat} {W W' : World} {s t : Sl} {xs ys : List Int}
theorem ownBlock_c (A : Option Addr) (n c n9 c9 : Nat) : (Sl.v ⟨A, n, c⟩).ownBlock = (Sl.v ⟨A, n9, c9⟩).ownBlock := by cases A <;> rfl
theorem Own.toC (h : Own k e W base s xs) : OwnC k e W base s xs := ⟨s.c, h, .inl rfl⟩
theorem OwnC.len (h : OwnC k e W base s xs) : s.n = xs.length := by
  obtain ⟨c9, h1, _⟩ := h
  exact h1.len
theorem OwnC.move (h : OwnC k e W base s xs) (hm : ∀ b, s.v.ownBlock = some b → W'.heap[b]? = W.heap[b]?) : OwnC k e W' base s xs := by
  obtain ⟨c9, h1, h2⟩ := h
  exact ⟨c9, h1.move fun b hb => hm b (by rw [← hb]; exact ownBlock_c _ _ _ _ _), h2⟩
theorem OwnC.lt (h : OwnC k e W base s xs) (b : Nat) (hb : s.v.ownBlock = some b) : base ≤ b ∧ b < W.heap.size := by
  obtain ⟨c9, h1, _⟩ := h
  exact h1.lt b (by rw [← hb]; exact ownBlock_c _ _ _ _ _)
theorem OwnC.typed (h : OwnC k e W base s xs) (b : Nat) (hb : s.v.ownBlock = some b) : ∃ cells, W.heap[b]? = some (.cells cells e (0, 0)) := by
  obtain ⟨c9, h1, _⟩ := h
  exact h1.typed b (by rw [← hb]; exact ownBlock_c _ _ _ _ _)
theorem OwnC.below (h : OwnC k e W base s xs) (hb : Below W.heap.size W W') : OwnC k e W' base s xs := h.move fun b hs => hb.block b (h.lt b hs).2
theorem OwnC.room (h : OwnC k e W base s xs) : s.n ≤ s.c := by
  obtain ⟨c9, h1, h2⟩ := h
  have := h1.room
  dsimp only at this
  omega
theorem OwnC.form (h : OwnC k e W base s xs) (hp : 0 < xs.length) : ∃ g, s.A = some ⟨g, 0, none⟩ ∧ s.v.ownBlock = some g ∧ base ≤ g ∧ g < W.heap.size := by
  obtain ⟨c9, h1, _⟩ := h
  obtain ⟨g, e1, e2, e3⟩ := h1.form hp
  exact ⟨g, e1, by rw [← e2]; exact ownBlock_c _ _ _ _ _, e3⟩
theorem OwnC.cell (h : OwnC k e W base s xs) {g : Nat} (hA : s.A = some ⟨g, 0, none⟩) (j : Nat) (hj : j < xs.length) : W.cell? ⟨g, j, none⟩ = some (.int k (xs[j])) ∧ W.frozen? ⟨g, j, none⟩ = false := by
  obtain ⟨c9, h1, _⟩ := h
  exact h1.cell hA j hj
theorem OwnC.put (h : OwnC k e W base s xs) {g : Nat} (hA : s.A = some ⟨g, 0, none⟩) (j : Nat) (x : Int) : OwnC k e (W.setCell ⟨g, j, none⟩ (.int k x)) base s (xs.set j x) := by
  obtain ⟨c9, h1, h2⟩ := h
  exact ⟨c9, h1.put hA j x, h2⟩
theorem OwnC.reads (h : OwnC k e W base s xs) : Kd.C (Kd.int k) W s.A s.n xs := by
  obtain ⟨c9, h1, _⟩ := h
  have := h1.reads
  rw [← h1.len] at this
  exact this
theorem OwnC.lower {base' : Nat} (h : OwnC k e W base s xs) (hb : base' ≤ base) : OwnC k e W base' s xs := by
  obtain ⟨c9, h1, h2⟩ := h
  exact ⟨c9, h1.lower hb, h2⟩
end
section
variable {P : Program} {ops : Array Oper} {rest : List Oper} {o : Oper} {a : Act} {Q : Exit → Act → World → Prop}
/-- An append of a number, the old slice (clipped or not) still as it was. -/
theorem print_append_ownC {k : IntKind} {w0 W : World} (base : Nat) (hgd : o.guard = none) (s x : Operand) (t e : TypeId) (z : Value) (bytes : Nat)
    (ho : o.op = .call { callee := .builtin .append, args := #[s, x], argTypes := #[t, t] })
    (ht : P.underlying t = some (.slice e)) (hinfo : (P.info? e).map (fun i => (i.zero, i.size, i.bytes)) = some (some z, 1, bytes)) (hz : z.cells.size = 1) (hb0 : 0 < bytes)
    (v : Sl) (c9 : Nat) (xs : List Int) (y : Int) (hs : a.eval s = .slice v.A v.n v.c) (hx : a.eval x = .slice (some ⟨W.heap.size, 0, none⟩) 1 1)
    (h1 : Own k e W base ⟨v.A, v.n, c9⟩ xs) (h2 : v.c = c9 ∨ v.c = v.n) (HB : Below base w0 W) (hbase : base ≤ W.heap.size) (hl : (xs.length + 1) * bytes ≤ 140737488355328)
    (h : ∀ (v1 : Sl) w1, Own k e w1 base v1 (xs ++ [y]) → Own k e w1 base ⟨v.A, v.n, c9⟩ xs → Below base w0 w1 → W.grownBy w1 v.v.ownBlock → (v1.v.ownBlock = v.v.ownBlock ∨ ∃ b, v1.v.ownBlock = some b ∧ W.heap.size ≤ b) → wpList P ops Q rest (a.put o.dst (.slice v1.A v1.n v1.c)) w1) :
    wpList P ops Q (o :: rest) a (W.alloc (.cells #[.int k y] e)) := by
  by_cases hc : v.c = c9
  · have hv : v = ⟨v.A, v.n, c9⟩ := by rw [← hc]
    refine print_append_both (w0 := w0) base hgd s x t e z bytes ho ht hinfo hz hb0 v.v (nums k xs) (.int k y) hs hx rfl (by rw [nums_length]; rw [hv]; exact h1) HB hbase (by rw [nums_length]; exact hl) ?_
    intro v1 w1 p1 p2 p3 p4 p5
    obtain ⟨t1, rfl, hsn⟩ := own_more_sl p1
    exact h t1 w1 (own_more p1 rfl) (by rw [nums_length] at p2; rw [← hc]; exact p2) p3 p4 p5
  · have hcn : v.c = v.n := by rcases h2 with h2 | h2; exact absurd h2 hc; exact h2
    have hn := h1.len
    dsimp only at hn
    have h1' : W.ownsRow base e 1 (.slice v.A v.n c9) xs.length (nums k xs) := h1
    rcases h1'.2 with ⟨q1, q2⟩ | ⟨g, cap, cur, q1, q2, q3, q4, q5, q6, q7⟩
    · injection q1 with q1 q3 q4
      omega
    · injection q1 with q1 q8 q9
      subst q9
      obtain ⟨i0, hi, hzz⟩ := Option.map_eq_some_iff.1 hinfo
      simp only [Prod.mk.injEq] at hzz
      obtain ⟨hz0, hz1, hz2⟩ := hzz
      have hlen : xs.length + 1 ≤ 140737488355328 := Nat.le_trans (Nat.le_mul_of_pos_right _ hb0) hl
      have hmx : xs.length + 1 ≤ maxLen := by simp only [maxLen]; omega
      obtain ⟨W1, hW1⟩ : ∃ W1, W.alloc (.cells #[.int k y] e) = W1 := ⟨_, rfl⟩
      have hB1 : Below base w0 W1 := by rw [← hW1]; exact HB.alloc hbase _
      have hb1 : Below W.heap.size W W1 := by rw [← hW1]; exact (Below.refl _ _).alloc (Nat.le_refl _) _
      have hO1 : Own k e W1 base ⟨v.A, v.n, c9⟩ xs := h1.below hb1
      have hny : W1.cell? ⟨W.heap.size, 0, none⟩ = some (.int k y) := by rw [← hW1]; exact (blk_cell (heap_alloc_new W (.cells #[.int k y] e)) 0).trans rfl
      have hnews : ∀ j u, [Value.int k y][j]? = some u → W1.cell? ((⟨W.heap.size, 0, none⟩ : Addr).add j) = some u := by
        intro j u hu
        cases j with
        | zero => simp at hu; subst hu; simp only [Addr.add]; exact hny
        | succ j => simp at hu
      have hO2 : W1.ownsRow base e 1 (.slice (some ⟨g, 0, none⟩) v.n c9) xs.length (nums k xs) := by rw [← q1]; exact hO1
      have holds : ∀ j u, (nums k xs)[j]? = some u → W1.cell? ((⟨g, 0, none⟩ : Addr).add j) = some u := hO2.cells (g := g) rfl
      have hr := run_append_grow (P := P) W1 t o.type e i0 z ht hi hz0 ⟨g, 0, none⟩ v.n v.n (nums k xs) (by rw [hz1, nums_length]; omega) holds ⟨W.heap.size, 0, none⟩ 1 1 [.int k y] (by simp [hz1]) hnews (by omega) (by omega) (growslice_fits (by omega) (by rw [hz2, hn]; exact hl))
      have hge := grownCap_ge W1 (v.n + 1) v.n e
      have hcm := grownCap_le_maxLen W1 (v.n + 1) v.n e (by rw [hn]; exact hmx)
      have hbase1 : base ≤ W1.heap.size := Nat.le_trans hbase hb1.size
      obtain ⟨w2, hw2⟩ : ∃ w2, W1.drew.alloc (.cells ((nums k xs).toArray ++ [Value.int k y].toArray ++ Builtin.zeroCells z.cells (grownCap W1 (v.n + 1) v.n e - (v.n + 1))) e) = w2 := ⟨_, rfl⟩
      rw [hw2] at hr
      have hb2 : Below W1.heap.size W1 w2 := by rw [← hw2]; exact (below_drew (Below.refl _ _)).alloc (Nat.le_refl _) _
      have hown : Own k e w2 base ⟨some ⟨W1.heap.size, 0, none⟩, v.n + 1, grownCap W1 (v.n + 1) v.n e⟩ (xs ++ [y]) := by
        refine ⟨by rw [nums_length]; simp, .inr ⟨W1.heap.size, _, _, ?_, hbase1, by rw [← hw2]; exact heap_alloc_new W1.drew _, ?_, hcm, ?_, ?_⟩⟩
        · simp only [Sl.v, List.length_append, List.length_singleton, hn]
        · simp only [List.length_append, List.length_singleton]; omega
        · simp only [Array.size_append, List.size_toArray, size_zeroCells, hz, nums_length, List.length_singleton]
          omega
        · simp only [Array.toList_append, List.append_assoc]
          rw [← List.append_assoc, show (nums k xs) ++ [Value.int k y] = nums k (xs ++ [y]) by simp [nums], show (xs ++ [y]).length * 1 = (nums k (xs ++ [y])).length by rw [nums_length]; simp]
          exact List.take_left
      rw [hW1]
      refine wpList_plain hgd fun K hK => ?_
      unfold Oper.wp execOp
      have hs' : a.eval s = .slice (some ⟨g, 0, none⟩) v.n v.n := by rw [hs, hcn, q1]
      simp only [ho, resolve, invoke, builtin, Sem.run_bind, Sem.run_pure, Result.andThen_ok, List.map_toArray, List.map_cons, List.map_nil, hs', hx, hr]
      refine hK _ _ (h _ w2 hown (hO1.below hb2) (hB1.trans (hb2.mono hbase1)) (grown_of (hb1.trans (hb2.mono hb1.size)) _) ?_)
      exact .inr ⟨W1.heap.size, rfl, hb1.size⟩
end

/-! ### Lists, and what each should hold: one half of a shelf -/
structure HD where
  A : Option Addr
  c : Nat
  B : Option Addr
  d : Nat
  N : Nat
  M : Nat
  bs : Nat → Sl
  hs : Nat → Sl
/-- The rows of lists. -/
abbrev HD.v (D : HD) : Value := .slice D.A D.N D.c
abbrev HD.u (D : HD) : Value := .slice D.B D.M D.d
structure Half (k : IntKind) (e t : Nat) (W : World) (base : Nat) (D : HD) (fb fh : Nat → List Int) : Prop where
  rb : W.ownsRow base t 1 (.slice D.A D.N D.c) D.N (sls D.N D.bs)
  rh : W.ownsRow base t 1 (.slice D.B D.M D.d) D.M (sls D.M D.hs)
  ne : NeRow D.v D.u
  ob : ∀ i, i < D.N → OwnC k e W base (D.bs i) (fb i)
  oh : ∀ i, i < D.M → OwnC k e W base (D.hs i) (fh i)
  ab : ∀ i j, i < D.N → j < D.N → i ≠ j → NeRow (D.bs i).v (D.bs j).v
  ah : ∀ i j, i < D.M → j < D.M → i ≠ j → NeRow (D.hs i).v (D.hs j).v
  bh : ∀ i j, i < D.N → j < D.M → NeRow (D.bs i).v (D.hs j).v
/-- What it leads to. -/
def HFoot (D : HD) (b : Nat) : Prop :=
  D.v.ownBlock = some b ∨ D.u.ownBlock = some b ∨ (∃ i, i < D.N ∧ (D.bs i).v.ownBlock = some b) ∨ ∃ i, i < D.M ∧ (D.hs i).v.ownBlock = some b
/-- A block of another type than these. -/
def Alien (W : World) (e t b : Nat) : Prop := ∃ cs ty, W.heap[b]? = some (.cells cs ty (0, 0)) ∧ ty ≠ e ∧ ty ≠ t
/-- All blocks of two types are as they were. -/
def KeepTy (W W' : World) (e t : Nat) : Prop := ∀ b, b < W.heap.size → ¬ Alien W e t b → W'.heap[b]? = W.heap[b]?
theorem KeepTy.below {W W' : World} {e t : Nat} (h : Below W.heap.size W W') : KeepTy W W' e t := fun b hb _ => h.block b hb
theorem KeepTy.grown {W W' : World} {e t : Nat} {row : Option Nat} (h : W.grownBy W' row) (hr : ∀ b, row = some b → Alien W e t b) : KeepTy W W' e t := fun b hb ha => h.block b hb fun e1 => ha (hr b e1.symm)
theorem KeepTy.set_ {W W' : World} {e t : Nat} (h : KeepTy W W' e t) {p : Addr} (hp : Alien W e t p.block) (u : Value) : KeepTy W (W'.setCell p u) e t := fun b hb ha =>
  (Below.heap_setCell W' p u b fun e1 => ha (by rw [e1]; exact hp)).trans (h b hb ha)
section
variable {k : IntKind} {e t : Nat} {W W' : World} {base : Nat} {D : HD} {fb fh : Nat → List Int}
theorem Half.foot_lt (h : Half k e t W base D fb fh) (b : Nat) (hf : HFoot D b) : base ≤ b ∧ b < W.heap.size := by
  rcases hf with hf | hf | ⟨i, hi, hf⟩ | ⟨i, hi, hf⟩
  · exact World.ownsRow.lt h.rb b hf
  · exact World.ownsRow.lt h.rh b hf
  · exact (h.ob i hi).lt b hf
  · exact (h.oh i hi).lt b hf
theorem Half.foot_ty (h : Half k e t W base D fb fh) (b : Nat) (hf : HFoot D b) : ∃ cs ty, W.heap[b]? = some (.cells cs ty (0, 0)) ∧ (ty = e ∨ ty = t) := by
  rcases hf with hf | hf | ⟨i, hi, hf⟩ | ⟨i, hi, hf⟩
  · obtain ⟨c, hc⟩ := own_typed h.rb b hf; exact ⟨c, t, hc, .inr rfl⟩
  · obtain ⟨c, hc⟩ := own_typed h.rh b hf; exact ⟨c, t, hc, .inr rfl⟩
  · obtain ⟨c, hc⟩ := (h.ob i hi).typed b hf; exact ⟨c, e, hc, .inl rfl⟩
  · obtain ⟨c, hc⟩ := (h.oh i hi).typed b hf; exact ⟨c, e, hc, .inl rfl⟩
theorem not_alien {b : Nat} (h : ∃ cs ty, W.heap[b]? = some (.cells cs ty (0, 0)) ∧ (ty = e ∨ ty = t)) : ¬ Alien W e t b := fun ⟨cs2, ty2, h3, h4, h5⟩ => by
  obtain ⟨cs, ty, h1, h2⟩ := h
  have := ty_eq h1 h3
  subst this
  rcases h2 with h2 | h2
  · exact h4 h2
  · exact h5 h2
theorem Half.move (h : Half k e t W base D fb fh) (hm : ∀ b, HFoot D b → W'.heap[b]? = W.heap[b]?) : Half k e t W' base D fb fh :=
  ⟨own_move h.rb fun b hb => hm b (.inl hb), own_move h.rh fun b hb => hm b (.inr (.inl hb)), h.ne, fun i hi => (h.ob i hi).move fun b hb => hm b (.inr (.inr (.inl ⟨i, hi, hb⟩))), fun i hi => (h.oh i hi).move fun b hb => hm b (.inr (.inr (.inr ⟨i, hi, hb⟩))), h.ab, h.ah, h.bh⟩
theorem Half.ty (h : Half k e t W base D fb fh) (hk : KeepTy W W' e t) : Half k e t W' base D fb fh := h.move fun b hb => hk b (h.foot_lt b hb).2 (not_alien (h.foot_ty b hb))
theorem Half.below (h : Half k e t W base D fb fh) (hb : Below W.heap.size W W') : Half k e t W' base D fb fh := h.ty (KeepTy.below hb)
theorem Half.same (h : Half k e t W base D fb fh) {fb' fh' : Nat → List Int} (h1 : ∀ i, i < D.N → fb' i = fb i) (h2 : ∀ i, i < D.M → fh' i = fh i) : Half k e t W base D fb' fh' :=
  ⟨h.rb, h.rh, h.ne, fun i hi => by rw [h1 i hi]; exact h.ob i hi, fun i hi => by rw [h2 i hi]; exact h.oh i hi, h.ab, h.ah, h.bh⟩
/-- No list is a row of lists. -/
theorem Half.l_ne (h : Half k e t W base D fb fh) (het : e ≠ t) {b : Nat} {c : Array Value} (hc : W.heap[b]? = some (.cells c e (0, 0))) : D.v.ownBlock ≠ some b ∧ D.u.ownBlock ≠ some b := by
  refine ⟨fun e1 => ?_, fun e1 => ?_⟩
  · obtain ⟨c2, hc2⟩ := own_typed h.rb b e1; exact het (ty_eq hc hc2)
  · obtain ⟨c2, hc2⟩ := own_typed h.rh b e1; exact het (ty_eq hc hc2)
/-- One more list at the end. -/
theorem Half.pushB (h : Half k e t W base D fb fh) (het : e ≠ t) {A' : Option Addr} {c' : Nat} {l : Sl} {xs : List Int} (ho : W'.ownsRow base t 1 (.slice A' (D.N + 1) c') (D.N + 1) (sls D.N D.bs ++ [l.v]))
    (hg : W.grownBy W' D.v.ownBlock) (hat : (Value.slice A' (D.N + 1) c').ownBlock = D.v.ownBlock ∨ ∃ b, (Value.slice A' (D.N + 1) c').ownBlock = some b ∧ W.heap.size ≤ b)
    (hl : OwnC k e W base l xs) (hf : ∀ b, l.v.ownBlock = some b → ¬ HFoot D b) :
    Half k e t W' base { D with A := A', c := c', N := D.N + 1, bs := fun i => if i = D.N then l else D.bs i } (fun i => if i = D.N then xs else fb i) fh := by
  have kl : ∀ {s : Sl} {zs : List Int}, OwnC k e W base s zs → OwnC k e W' base s zs := fun hs => hs.move fun b hb => hg.block b (hs.lt b hb).2 fun e1 => by
    obtain ⟨c, hc⟩ := hs.typed b hb
    exact (h.l_ne het hc).1 e1.symm
  refine ⟨?_, ?_, ?_, ?_, fun i hi => kl (h.oh i hi), ?_, h.ah, ?_⟩
  · dsimp only; rw [sls_snoc]; exact ho
  · exact own_move h.rh fun b hb => hg.block b (World.ownsRow.lt h.rh b hb).2 fun e1 => h.ne b e1.symm hb
  · intro b hb hb'
    rcases hat with h1 | ⟨b2, h1, hb2⟩
    · exact h.ne b (h1.symm.trans hb) hb'
    · have : b2 = b := Option.some.inj (h1.symm.trans hb)
      have := (World.ownsRow.lt h.rh b hb').2
      omega
  · intro i hi
    dsimp only at hi ⊢
    by_cases e1 : i = D.N
    · rw [if_pos e1, if_pos e1]; exact kl hl
    · rw [if_neg e1, if_neg e1]; exact kl (h.ob i (by omega))
  · intro i j hi hj hij
    dsimp only at hi hj ⊢
    by_cases e1 : i = D.N
    · rw [if_pos e1, if_neg (by omega)]
      exact fun b hb hb' => hf b hb (.inr (.inr (.inl ⟨j, by omega, hb'⟩)))
    · rw [if_neg e1]
      by_cases e2 : j = D.N
      · rw [if_pos e2]
        exact fun b hb hb' => hf b hb' (.inr (.inr (.inl ⟨i, by omega, hb⟩)))
      · rw [if_neg e2]
        exact h.ab i j (by omega) (by omega) hij
  · intro i j hi hj
    dsimp only at hi hj ⊢
    by_cases e1 : i = D.N
    · rw [if_pos e1]
      exact fun b hb hb' => hf b hb (.inr (.inr (.inr ⟨j, hj, hb'⟩)))
    · rw [if_neg e1]
      exact h.bh i j (by omega) hj
theorem Half.pushH (h : Half k e t W base D fb fh) (het : e ≠ t) {A' : Option Addr} {c' : Nat} {l : Sl} {xs : List Int} (ho : W'.ownsRow base t 1 (.slice A' (D.M + 1) c') (D.M + 1) (sls D.M D.hs ++ [l.v]))
    (hg : W.grownBy W' D.u.ownBlock) (hat : (Value.slice A' (D.M + 1) c').ownBlock = D.u.ownBlock ∨ ∃ b, (Value.slice A' (D.M + 1) c').ownBlock = some b ∧ W.heap.size ≤ b)
    (hl : OwnC k e W base l xs) (hf : ∀ b, l.v.ownBlock = some b → ¬ HFoot D b) :
    Half k e t W' base { D with B := A', d := c', M := D.M + 1, hs := fun i => if i = D.M then l else D.hs i } fb (fun i => if i = D.M then xs else fh i) := by
  have kl : ∀ {s : Sl} {zs : List Int}, OwnC k e W base s zs → OwnC k e W' base s zs := fun hs => hs.move fun b hb => hg.block b (hs.lt b hb).2 fun e1 => by
    obtain ⟨c, hc⟩ := hs.typed b hb
    exact (h.l_ne het hc).2 e1.symm
  refine ⟨?_, ?_, ?_, fun i hi => kl (h.ob i hi), ?_, h.ab, ?_, ?_⟩
  · exact own_move h.rb fun b hb => hg.block b (World.ownsRow.lt h.rb b hb).2 fun e1 => h.ne b hb e1.symm
  · dsimp only; rw [sls_snoc]; exact ho
  · intro b hb hb'
    rcases hat with h1 | ⟨b2, h1, hb2⟩
    · exact h.ne b hb (h1.symm.trans hb')
    · have : b2 = b := Option.some.inj (h1.symm.trans hb')
      have := (World.ownsRow.lt h.rb b hb).2
      omega
  · intro i hi
    dsimp only at hi ⊢
    by_cases e1 : i = D.M
    · rw [if_pos e1, if_pos e1]; exact kl hl
    · rw [if_neg e1, if_neg e1]; exact kl (h.oh i (by omega))
  · intro i j hi hj hij
    dsimp only at hi hj ⊢
    by_cases e1 : i = D.M
    · rw [if_pos e1, if_neg (by omega)]
      exact fun b hb hb' => hf b hb (.inr (.inr (.inr ⟨j, by omega, hb'⟩)))
    · rw [if_neg e1]
      by_cases e2 : j = D.M
      · rw [if_pos e2]
        exact fun b hb hb' => hf b hb' (.inr (.inr (.inr ⟨i, by omega, hb⟩)))
      · rw [if_neg e2]
        exact h.ah i j (by omega) (by omega) hij
  · intro i j hi hj
    dsimp only at hi hj ⊢
    by_cases e1 : j = D.M
    · rw [if_pos e1]
      exact fun b hb hb' => hf b hb' (.inr (.inr (.inl ⟨i, hi, hb⟩)))
    · rw [if_neg e1]
      exact h.bh i j hi (by omega)
theorem own_at_eq {s : Sl} {p : Nat} (hA : s.A = some ⟨p, 0, none⟩) : s.v.ownBlock = some p := by simp [Sl.v, Value.ownBlock, hA]
/-- A number written into a list. -/
theorem Half.putB (h : Half k e t W base D fb fh) (het : e ≠ t) {i p : Nat} (hi : i < D.N) (hA : (D.bs i).A = some ⟨p, 0, none⟩) (j : Nat) (x : Int) :
    Half k e t (W.setCell ⟨p, j, none⟩ (.int k x)) base D (fun a => if a = i then (fb i).set j x else fb a) fh := by
  have hp := own_at_eq hA
  obtain ⟨c, hc⟩ := (h.ob i hi).typed p hp
  obtain ⟨n2, n3⟩ := h.l_ne het hc
  have keep : ∀ b, b ≠ p → (W.setCell ⟨p, j, none⟩ (.int k x)).heap[b]? = W.heap[b]? := fun b h => Below.heap_setCell W _ _ b h
  refine ⟨own_move h.rb fun b hb => keep b fun e1 => n2 (by rw [← e1]; exact hb), own_move h.rh fun b hb => keep b fun e1 => n3 (by rw [← e1]; exact hb), h.ne, ?_, ?_, h.ab, h.ah, h.bh⟩
  · intro a ha
    by_cases e1 : a = i
    · subst e1
      rw [if_pos rfl]
      exact (h.ob a ha).put hA j x
    · rw [if_neg e1]
      exact (h.ob a ha).move fun b hb => keep b fun e2 => h.ab a i ha hi e1 b hb (by rw [e2]; exact hp)
  · intro a ha
    exact (h.oh a ha).move fun b hb => keep b fun e2 => h.bh i a hi ha p hp (by rw [← e2]; exact hb)
theorem Half.putH (h : Half k e t W base D fb fh) (het : e ≠ t) {i p : Nat} (hi : i < D.M) (hA : (D.hs i).A = some ⟨p, 0, none⟩) (j : Nat) (x : Int) :
    Half k e t (W.setCell ⟨p, j, none⟩ (.int k x)) base D fb (fun a => if a = i then (fh i).set j x else fh a) := by
  have hp := own_at_eq hA
  obtain ⟨c, hc⟩ := (h.oh i hi).typed p hp
  obtain ⟨n2, n3⟩ := h.l_ne het hc
  have keep : ∀ b, b ≠ p → (W.setCell ⟨p, j, none⟩ (.int k x)).heap[b]? = W.heap[b]? := fun b h => Below.heap_setCell W _ _ b h
  refine ⟨own_move h.rb fun b hb => keep b fun e1 => n2 (by rw [← e1]; exact hb), own_move h.rh fun b hb => keep b fun e1 => n3 (by rw [← e1]; exact hb), h.ne, ?_, ?_, h.ab, h.ah, h.bh⟩
  · intro a ha
    exact (h.ob a ha).move fun b hb => keep b fun e2 => h.bh a i ha hi b hb (by rw [e2]; exact hp)
  · intro a ha
    by_cases e1 : a = i
    · subst e1
      rw [if_pos rfl]
      exact (h.oh a ha).put hA j x
    · rw [if_neg e1]
      exact (h.oh a ha).move fun b hb => keep b fun e2 => h.ah a i ha hi e1 b hb (by rw [e2]; exact hp)
end

/-! ### Lists that are grown -/
structure LG where
  A : Option Addr
  c : Nat
  ls : Nat → Sl
structure Lgs (k : IntKind) (e t : Nat) (W : World) (base : Nat) (D : HD) (fb : Nat → List Int) (i : Nat) (L : LG) (xv : Nat → Int) : Prop where
  rl : W.ownsRow base t 1 (.slice L.A i L.c) i (sls i L.ls)
  nb : NeRow (.slice L.A i L.c) D.v
  nh : NeRow (.slice L.A i L.c) D.u
  ol : ∀ j, j < i → Own k e W base (L.ls j) (fb j ++ List.replicate 64 (xv j))
  wh : ∀ j, j < i → ∀ b, (L.ls j).v.ownBlock = some b → (D.bs j).v.ownBlock = some b ∨ ¬ HFoot D b
/-- The one that grows. -/
structure Lns (k : IntKind) (e : Nat) (W : World) (base : Nat) (D : HD) (fb : Nat → List Int) (i : Nat) (L : LG) (xv : Nat → Int) (t : Sl) (c9 : Nat) (m : Nat) : Prop where
  lo : Own k e W base ⟨t.A, t.n, c9⟩ (fb i ++ List.replicate m (xv i))
  lc : t.c = c9 ∨ t.c = t.n
  lw : ∀ b, t.v.ownBlock = some b → (D.bs i).v.ownBlock = some b ∨ (¬ HFoot D b ∧ ∀ j, j < i → (L.ls j).v.ownBlock ≠ some b)
section
variable {k : IntKind} {e t : Nat} {W W' : World} {base : Nat} {D : HD} {fb fh : Nat → List Int} {i : Nat} {L : LG} {xv : Nat → Int} {s s1 : Sl} {m c9 : Nat}
theorem Lgs.none_ : Lgs k e t W base D fb 0 ⟨none, 0, fun _ => ⟨none, 0, 0⟩⟩ xv := ⟨World.ownsRow_nil _ _ _ _, ne_nil _, ne_nil _, fun j hj => absurd hj (Nat.not_lt_zero _), fun j hj => absurd hj (Nat.not_lt_zero _)⟩
theorem Lgs.ty (h : Lgs k e t W base D fb i L xv) (hk : KeepTy W W' e t) : Lgs k e t W' base D fb i L xv :=
  ⟨own_move h.rl fun b hb => hk b (World.ownsRow.lt h.rl b hb).2 (not_alien (by obtain ⟨c, hc⟩ := own_typed h.rl b hb; exact ⟨c, t, hc, .inr rfl⟩)), h.nb, h.nh,
    fun j hj => (h.ol j hj).move fun b hb => hk b ((h.ol j hj).lt b hb).2 (not_alien (by obtain ⟨c, hc⟩ := (h.ol j hj).typed b hb; exact ⟨c, e, hc, .inl rfl⟩)), h.wh⟩
theorem Lgs.below (h : Lgs k e t W base D fb i L xv) (hb : Below W.heap.size W W') : Lgs k e t W' base D fb i L xv := h.ty (KeepTy.below hb)
theorem Lns.first (h : Half k e t W base D fb fh) (hi : i < D.N) : ∃ c9, Lns k e W base D fb i L xv (D.bs i) c9 0 := by
  obtain ⟨c9, h1, h2⟩ := h.ob i hi
  exact ⟨c9, ⟨by simpa using h1, h2, fun _ hb => .inl hb⟩⟩
/-- One more number behind the list that grows. -/
theorem Lns.step (h : Lns k e W base D fb i L xv s c9 m) (hh : Half k e t W base D fb fh) (hl : Lgs k e t W base D fb i L xv) (het : e ≠ t) (hi : i < D.N) (h1 : Own k e W' base s1 (fb i ++ List.replicate m (xv i) ++ [xv i])) (h2 : Own k e W' base ⟨s.A, s.n, c9⟩ (fb i ++ List.replicate m (xv i))) (hg : W.grownBy W' s.v.ownBlock)
    (hat : s1.v.ownBlock = s.v.ownBlock ∨ ∃ b, s1.v.ownBlock = some b ∧ W.heap.size ≤ b) : Half k e t W' base D fb fh ∧ Lgs k e t W' base D fb i L xv ∧ Lns k e W' base D fb i L xv s1 s1.c (m + 1) := by
  have kp : ∀ b, b < W.heap.size → s.v.ownBlock ≠ some b → W'.heap[b]? = W.heap[b]? := fun b hb hne => hg.block b hb fun e1 => hne e1.symm
  have tne : ∀ b, s.v.ownBlock = some b → D.v.ownBlock ≠ some b ∧ D.u.ownBlock ≠ some b ∧ (Value.slice L.A i L.c).ownBlock ≠ some b := fun b hb => by
    obtain ⟨c, hc⟩ := h.lo.typed b (by rw [← hb]; exact ownBlock_c _ _ _ _ _)
    obtain ⟨n1, n2⟩ := hh.l_ne het hc
    exact ⟨n1, n2, fun e1 => by obtain ⟨c2, hc2⟩ := own_typed hl.rl b e1; exact het (ty_eq hc hc2)⟩
  refine ⟨⟨own_move hh.rb fun b hb => kp b (World.ownsRow.lt hh.rb b hb).2 fun e1 => (tne b e1).1 hb, own_move hh.rh fun b hb => kp b (World.ownsRow.lt hh.rh b hb).2 fun e1 => (tne b e1).2.1 hb, hh.ne, ?_, ?_, hh.ab, hh.ah, hh.bh⟩, ⟨own_move hl.rl fun b hb => kp b (World.ownsRow.lt hl.rl b hb).2 fun e1 => (tne b e1).2.2 hb, hl.nb, hl.nh, fun j hj => ?_, hl.wh⟩, ?_, ?_, ?_⟩
  · intro j hj
    by_cases e1 : j = i
    · subst e1
      by_cases es : s.v.ownBlock = (D.bs j).v.ownBlock
      · obtain ⟨c8, o8, q8⟩ := hh.ob j hj
        refine ⟨c8, own_shares (v := (Sl.v ⟨s.A, s.n, c9⟩)) h.lo o8 ?_ (by simp) h2, q8⟩
        rw [ownBlock_c s.A s.n c9 s.n s.c, ownBlock_c (D.bs j).A (D.bs j).n c8 (D.bs j).n (D.bs j).c]
        exact es
      · exact (hh.ob j hj).move fun b hb => kp b ((hh.ob j hj).lt b hb).2 fun e2 => es (by rw [e2, hb])
    · refine (hh.ob j hj).move fun b hb => kp b ((hh.ob j hj).lt b hb).2 fun e2 => ?_
      rcases h.lw b e2 with h3 | ⟨h3, _⟩
      · exact hh.ab j i hj hi e1 b hb h3
      · exact h3 (.inr (.inr (.inl ⟨j, hj, hb⟩)))
  · intro j hj
    refine (hh.oh j hj).move fun b hb => kp b ((hh.oh j hj).lt b hb).2 fun e2 => ?_
    rcases h.lw b e2 with h3 | ⟨h3, _⟩
    · exact hh.bh i j hi hj b h3 hb
    · exact h3 (.inr (.inr (.inr ⟨j, hj, hb⟩)))
  · refine (hl.ol j hj).move fun b hb => kp b ((hl.ol j hj).lt b hb).2 fun e2 => ?_
    rcases h.lw b e2 with h3 | ⟨_, h3⟩
    · rcases hl.wh j hj b hb with h4 | h4
      · exact hh.ab j i (by omega) hi (by omega) b h4 h3
      · exact h4 (.inr (.inr (.inl ⟨i, hi, h3⟩)))
    · exact h3 j hj hb
  · rw [List.replicate_succ', ← List.append_assoc]; exact h1
  · exact .inl rfl
  · intro b hb
    rcases hat with h3 | ⟨b2, h3, hb2⟩
    · exact h.lw b (h3.symm.trans hb)
    · have e1 : b2 = b := Option.some.inj (h3.symm.trans hb)
      refine .inr ⟨fun hf => ?_, fun j hj hj2 => ?_⟩
      · have := (hh.foot_lt b hf).2; omega
      · have := ((hl.ol j hj).lt b hj2).2; omega
/-- It is laid behind the others. -/
theorem Lns.close (h : Lns k e W base D fb i L xv s c9 64) (ho1 : Own k e W base s (fb i ++ List.replicate 64 (xv i))) (hh : Half k e t W base D fb fh) (hl : Lgs k e t W base D fb i L xv) (het : e ≠ t) {A' : Option Addr} {c' : Nat} (ho : W'.ownsRow base t 1 (.slice A' (i + 1) c') (i + 1) (sls i L.ls ++ [s.v])) (hg : W.grownBy W' (Value.slice L.A i L.c).ownBlock)
    (hat : (Value.slice A' (i + 1) c').ownBlock = (Value.slice L.A i L.c).ownBlock ∨ ∃ b, (Value.slice A' (i + 1) c').ownBlock = some b ∧ W.heap.size ≤ b) :
    Half k e t W' base D fb fh ∧ Lgs k e t W' base D fb (i + 1) ⟨A', c', fun j => if j = i then s else L.ls j⟩ xv := by
  have kp : ∀ b, b < W.heap.size → (Value.slice L.A i L.c).ownBlock ≠ some b → W'.heap[b]? = W.heap[b]? := fun b hb hne => hg.block b hb fun e1 => hne e1.symm
  have u0 : ∀ b c, W.heap[b]? = some (.cells c e (0, 0)) → (Value.slice L.A i L.c).ownBlock ≠ some b := fun b c hc e1 => by
    obtain ⟨c2, hc2⟩ := own_typed hl.rl b e1
    exact het (ty_eq hc hc2)
  have u8 : ∀ {s : Sl} {xs : List Int}, Own k e W base s xs → Own k e W' base s xs := fun hs => hs.move fun b hb => kp b (hs.lt b hb).2 (by
    obtain ⟨c, hc⟩ := hs.typed b hb
    exact u0 b c hc)
  have u9 : ∀ {s : Sl} {xs : List Int}, OwnC k e W base s xs → OwnC k e W' base s xs := fun hs => hs.move fun b hb => kp b (hs.lt b hb).2 (by
    obtain ⟨c, hc⟩ := hs.typed b hb
    exact u0 b c hc)
  refine ⟨⟨own_move hh.rb fun b hb => kp b (World.ownsRow.lt hh.rb b hb).2 fun e1 => hl.nb b e1 hb, own_move hh.rh fun b hb => kp b (World.ownsRow.lt hh.rh b hb).2 fun e1 => hl.nh b e1 hb, hh.ne, fun j hj => u9 (hh.ob j hj), fun j hj => u9 (hh.oh j hj), hh.ab, hh.ah, hh.bh⟩, ?_, ?_, ?_, ?_, ?_⟩
  · dsimp only; rw [sls_snoc]; exact ho
  · intro b hb hb2
    rcases hat with h3 | ⟨b2, h3, hb3⟩
    · exact hl.nb b (h3.symm.trans hb) hb2
    · have e1 : b2 = b := Option.some.inj (h3.symm.trans hb)
      have := (World.ownsRow.lt hh.rb b hb2).2; omega
  · intro b hb hb2
    rcases hat with h3 | ⟨b2, h3, hb3⟩
    · exact hl.nh b (h3.symm.trans hb) hb2
    · have e1 : b2 = b := Option.some.inj (h3.symm.trans hb)
      have := (World.ownsRow.lt hh.rh b hb2).2; omega
  · intro j hj
    dsimp only
    by_cases e1 : j = i
    · subst e1; simp only [if_pos]; exact u8 ho1
    · simp only [if_neg e1]; exact u8 (hl.ol j (by omega))
  · intro j hj b hb
    dsimp only at hb
    by_cases e1 : j = i
    · subst e1
      simp only [if_pos] at hb
      rcases h.lw b hb with h3 | ⟨h3, _⟩
      · exact .inl h3
      · exact .inr h3
    · simp only [if_neg e1] at hb
      exact hl.wh j (by omega) b hb
end
end Go.Proofs.Ytceeoifbimlkdaa.B
