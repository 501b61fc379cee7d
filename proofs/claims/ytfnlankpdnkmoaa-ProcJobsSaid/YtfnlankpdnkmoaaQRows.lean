/- Proved, plainly: slices that own their blocks, written, grown and kept; an append that leaves the old slice as it reads. No program's own step in it. -/
import Derived.Test.YtfnlankpdnkmoaaBx1
namespace Go.Proofs.Ytfnlankpdnkmoaa.B
open Go.RowKit Go.Proofs.YtfnlankpdnkmoaaW.PrintWords Go.Proofs.YtfnlankpdnkmoaaW.PrintLast Go.Proofs.YtfnlankpdnkmoaaW.PrintMore

/-- A slice. -/
structure Sl where
  A : Option Addr
  n : Nat
  c : Nat
def Sl.v (s : Sl) : Value := .slice s.A s.n s.c
theorem Sl.of {A : Option Addr} {n c : Nat} : ∃ s : Sl, (Value.slice A n c) = s.v ∧ s.A = A ∧ s.n = n ∧ s.c = c := ⟨⟨A, n, c⟩, rfl, rfl, rfl, rfl⟩
theorem Sl.one (s : Sl) : s.v.oneCell' = true := rfl
/-- A slice that owns its block, and its numbers. -/
def Own (k : IntKind) (e : Nat) (W : World) (base : Nat) (s : Sl) (xs : List Int) : Prop := W.ownsRow base e 1 s.v xs.length (nums k xs)
section
variable {k : IntKind} {e base : Nat} {W W' : World} {s t : Sl} {xs ys : List Int}
theorem Own.len (h : Own k e W base s xs) : s.n = xs.length := by
  rcases h.2 with ⟨h1, h2⟩ | ⟨g, cap, cur, h1, _⟩
  · have : s.n = 0 := by unfold Sl.v at h1; injection h1
    omega
  · unfold Sl.v at h1; injection h1
theorem Own.move (h : Own k e W base s xs) (hm : ∀ b, s.v.ownBlock = some b → W'.heap[b]? = W.heap[b]?) : Own k e W' base s xs := own_move h hm
theorem Own.lt (h : Own k e W base s xs) (b : Nat) (hb : s.v.ownBlock = some b) : base ≤ b ∧ b < W.heap.size := World.ownsRow.lt h b hb
theorem Own.typed (h : Own k e W base s xs) (b : Nat) (hb : s.v.ownBlock = some b) : ∃ cells, W.heap[b]? = some (.cells cells e (0, 0)) := own_typed h b hb
theorem Own.below (h : Own k e W base s xs) (hb : Below W.heap.size W W') : Own k e W' base s xs := h.move fun b hs => hb.block b (h.lt b hs).2
theorem Own.lower {base' : Nat} (h : Own k e W base s xs) (hb : base' ≤ base) : Own k e W base' s xs := own_weaken h hb
theorem Own.grown {row : Option Nat} (h : Own k e W base s xs) (hg : W.grownBy W' row) (hne : ∀ b, s.v.ownBlock = some b → some b ≠ row) : Own k e W' base s xs := h.move fun b hs => hg.block b (h.lt b hs).2 (hne b hs)
theorem Own.far (h : Own k e W base s xs) {p : Addr} (hne : s.v.ownBlock ≠ some p.block) (u : Value) : Own k e (W.setCell p u) base s xs := h.move fun b hs => Below.heap_setCell W p u b fun e => hne (by rw [hs, e])
theorem Own.max (h : Own k e W base s xs) : xs.length ≤ 9223372036854775807 := by
  rcases h.2 with ⟨h1, h2⟩ | ⟨g, cap, cur, h1, _, _, h3, h4, _⟩
  · omega
  · exact Nat.le_trans (Nat.le_trans h3 h4) (by unfold maxLen; decide)
theorem Own.room (h : Own k e W base s xs) : s.n ≤ s.c := by
  rcases h.2 with ⟨h1, h2⟩ | ⟨g, cap, cur, h1, _, _, h3, h4, _⟩
  · unfold Sl.v at h1; injection h1 with _ h1 h2; omega
  · unfold Sl.v at h1; injection h1 with _ h1 h2; omega
/-- Its block, if it has an element. -/
theorem Own.form (h : Own k e W base s xs) (hp : 0 < xs.length) : ∃ g, s.A = some ⟨g, 0, none⟩ ∧ s.v.ownBlock = some g ∧ base ≤ g ∧ g < W.heap.size := by
  rcases h.2 with ⟨h1, h2⟩ | ⟨g, cap, cur, h1, hb, hh, _⟩
  · omega
  · have hA : s.A = some ⟨g, 0, none⟩ := by unfold Sl.v at h1; injection h1
    exact ⟨g, hA, by simp [Sl.v, Value.ownBlock, hA], hb, blk_lt hh⟩
theorem Own.cell (h : Own k e W base s xs) {g : Nat} (hA : s.A = some ⟨g, 0, none⟩) (j : Nat) (hj : j < xs.length) : W.cell? ⟨g, j, none⟩ = some (.int k (xs[j])) ∧ W.frozen? ⟨g, j, none⟩ = false := by
  have hv : s.v = .slice (some ⟨g, 0, none⟩) xs.length s.c := by unfold Sl.v; rw [hA, h.len]
  have h' : W.ownsRow base e 1 (.slice (some ⟨g, 0, none⟩) xs.length s.c) xs.length (nums k xs) := hv ▸ h
  obtain ⟨h1, h2⟩ := own_at h' (j : Int) (by omega) (by omega)
  rw [Int.toNat_natCast] at h1 h2
  have er : rd xs (j : Int) = xs[j] := by unfold rd; rw [Int.toNat_natCast, List.getD_eq_getElem?_getD, List.getElem?_eq_getElem hj]; rfl
  rw [er] at h1
  exact ⟨h1, h2⟩
theorem Own.put (h : Own k e W base s xs) {g : Nat} (hA : s.A = some ⟨g, 0, none⟩) (j : Nat) (x : Int) : Own k e (W.setCell ⟨g, j, none⟩ (.int k x)) base s (xs.set j x) := by
  have hv : s.v = .slice (some ⟨g, 0, none⟩) xs.length s.c := by unfold Sl.v; rw [hA, h.len]
  have h' : W.ownsRow base e 1 (.slice (some ⟨g, 0, none⟩) xs.length s.c) xs.length (nums k xs) := hv ▸ h
  have := (own_store h' (j : Int) x).1
  rw [Int.toNat_natCast] at this
  unfold Own
  rw [hv, List.length_set]
  exact this
theorem Own.reads (h : Own k e W base s xs) : Kd.C (Kd.int k) W s.A xs.length xs := by
  obtain ⟨A, c, hv, hr⟩ := own_reads (k := k) h
  have : s.A = A := by unfold Sl.v at hv; injection hv
  rw [this]
  exact Kd.C_of_reads (d := (0 : Int)) (h1 := fun _ => rfl) hr
theorem Own.of_R {ok : Nat → Prop} {v : Value} (h : Kd.R (Kd.int k) e W base ok v xs) : ∃ s : Sl, v = s.v ∧ Own k e W base s xs := by
  obtain ⟨A, c, rfl⟩ := Kd.R_slice h
  exact ⟨⟨A, xs.length, c⟩, rfl, Kd.own_of_R h⟩
theorem Own.nil : Own k e W base ⟨none, 0, 0⟩ [] := World.ownsRow_nil W base e 1
theorem Own.to_R (h : Own k e W base s xs) : Kd.R (Kd.int k) e W base (fun b => s.v.ownBlock = some b) s.v xs := Kd.R_of_own h (fun _ hb => hb)
/-- Another slice over the same block, where this one still reads as it did. -/
theorem own_shares {e base n m : Nat} {W W' : World} {v u : Value} {xs ys : List Value} (h : W.ownsRow base e 1 v n xs) (hu : W.ownsRow base e 1 u m ys) (hs : v.ownBlock = u.ownBlock) (hmn : m ≤ n) (h' : W'.ownsRow base e 1 v n xs) : W'.ownsRow base e 1 u m ys := by
  rcases hu.2 with ⟨rfl, rfl⟩ | ⟨g, cap, cur, rfl, hb, hh, h1, h2, h3, h4⟩
  · exact ⟨hu.1, .inl ⟨rfl, rfl⟩⟩
  · rcases h.2 with ⟨rfl, rfl⟩ | ⟨g', cap', cur', rfl, hb', hh', h1', h2', h3', h4'⟩
    · simp [Value.ownBlock] at hs
    · have e1 : g' = g := by simpa [Value.ownBlock] using hs
      subst e1
      rw [hh] at hh'
      injection hh' with hh'
      injection hh' with hc
      subst hc
      rcases h'.2 with ⟨h5, _⟩ | ⟨g5, cap5, cur5, h5, hb5, hh5, h15, h25, h35, h45⟩
      · cases h5
      · injection h5 with a1 a2 a3
        injection a1 with a1
        injection a1 with a1
        subst a1 a3
        refine ⟨hu.1, .inr ⟨_, cap, cur5, rfl, hb, hh5, h1, h2, by omega, ?_⟩⟩
        rw [Nat.mul_one] at h4 h45 h4' ⊢
        have e2 : (cur5.toList.take n).take m = (cur.toList.take n).take m := by rw [h45, h4']
        rw [List.take_take, List.take_take, Nat.min_eq_left hmn] at e2
        rw [e2, h4]
end
section
variable {P : Program} {ops : Array Oper} {rest : List Oper} {o : Oper} {a : Act} {Q : Exit → Act → World → Prop}
/-- What an append leaves of the slice that was handed in. -/
theorem appended_old {w : World} {base : Nat} {t ty e : TypeId} {i : TypeInfo} {z : Value} {bytes : Nat} (ht : P.underlying t = some (.slice e)) (hi : P.info? e = some i) (hz : i.zero = some z)
    (hsize : i.size = 1) (hby : i.bytes = bytes) {v : Value} {n : Nat} {xs : List Value} (hown : w.ownsRow base e 1 v n xs)
    {ad : Addr} {c : Nat} {y : Value} (hy : w.cell? ad = some y) (h1 : y.oneCell' = true) (h63 : n + 1 ≤ maxLen) (hbytes : (n + 1) * bytes ≤ 140737488355328) {v' : Value} {w' : World}
    (hr : (Builtin.append_ #[t, t] ty #[v, .slice (some ad) 1 c]).run P w = .ok v' w') : w'.ownsRow base e 1 v n xs := by
  have hsmall : n + 1 ≤ 9223372036854775807 := by simp only [maxLen] at h63; omega
  have hnews : ∀ j u, [y][j]? = some u → w.cell? (ad.add j) = some u := by
    intro j u hu
    cases j with
    | zero => simp at hu; subst hu; simpa [Addr.add] using hy
    | succ j => simp at hu
  have hone : ∀ u ∈ [y], u.oneCell' = true := by intro u hu; simp at hu; subst hu; exact h1
  rcases hown.2 with ⟨rfl, rfl⟩ | ⟨g, cap, cur, rfl, hb, hh, hnc, hcm, hcs, htake⟩
  · exact ⟨hown.1, .inl ⟨rfl, rfl⟩⟩
  · by_cases hroom : n + 1 ≤ cap
    · have hr2 := run_append_room (P := P) w t ty e i ht hi g n cap cur hh ad 1 c [y] (by simp [hsize]) hnews hone hroom (by simp [hsize]; omega)
      rw [hr2] at hr
      injection hr with _ hw
      subst hw
      refine ⟨hown.1, .inr ⟨g, cap, _, rfl, hb, setRow_heap w g cur _ e _ hh, hnc, hcm, ?_, ?_⟩⟩
      · simp only [List.size_toArray, List.length_append, List.length_take, List.length_drop, Array.length_toList, hsize, List.length_singleton, Nat.mul_one]
        omega
      · rw [Nat.mul_one] at htake ⊢
        simp only [hsize, Nat.mul_one, List.append_assoc]
        rw [List.take_append_of_le_length (by simp; omega), List.take_take, Nat.min_self, htake]
    · have holds : ∀ j u, xs[j]? = some u → w.cell? ((⟨g, 0, none⟩ : Addr).add j) = some u := hown.cells (g := g) rfl
      have hr2 := run_append_grow (P := P) w t ty e i z ht hi hz ⟨g, 0, none⟩ n cap xs (by rw [hsize]; exact hown.1) holds ad 1 c [y] (by simp [hsize]) hnews (by omega) (by omega) (growslice_fits (by omega) (by rw [hby]; exact hbytes))
      rw [hr2] at hr
      injection hr with _ hw
      subst hw
      exact own_move hown fun b hb' => Below.heap_alloc w.drew _ b (World.ownsRow.lt hown b hb').2
/-- An append, the old slice still as it was. -/
theorem print_append_both {w0 W : World} (base : Nat) (hgd : o.guard = none) (s x : Operand) (t e : TypeId) (z : Value) (bytes : Nat)
    (ho : o.op = .call { callee := .builtin .append, args := #[s, x], argTypes := #[t, t] })
    (ht : P.underlying t = some (.slice e)) (hinfo : (P.info? e).map (fun i => (i.zero, i.size, i.bytes)) = some (some z, 1, bytes)) (hz : z.cells.size = 1) (hb0 : 0 < bytes)
    (v : Value) (xs : List Value) (y : Value) (hs : a.eval s = v) (hx : a.eval x = .slice (some ⟨W.heap.size, 0, none⟩) 1 1) (h1 : y.oneCell' = true)
    (HO : W.ownsRow base e 1 v xs.length xs) (HB : Below base w0 W) (hbase : base ≤ W.heap.size) (hl : (xs.length + 1) * bytes ≤ 140737488355328)
    (h : ∀ v1 w1, w1.ownsRow base e 1 v1 (xs ++ [y]).length (xs ++ [y]) → w1.ownsRow base e 1 v xs.length xs → Below base w0 w1 → W.grownBy w1 v.ownBlock → (v1.ownBlock = v.ownBlock ∨ ∃ b, v1.ownBlock = some b ∧ W.heap.size ≤ b) → wpList P ops Q rest (a.put o.dst v1) w1) :
    wpList P ops Q (o :: rest) a (W.alloc (.cells #[y] e)) := by
  obtain ⟨i0, hi, hzz⟩ := Option.map_eq_some_iff.1 hinfo
  simp only [Prod.mk.injEq] at hzz
  obtain ⟨hz0, hz1, hz2⟩ := hzz
  have hlen : xs.length + 1 ≤ 140737488355328 := Nat.le_trans (Nat.le_mul_of_pos_right _ hb0) hl
  have hmx : xs.length + 1 ≤ maxLen := by simp only [maxLen]; omega
  have hny : (W.alloc (.cells #[y] e)).cell? ⟨W.heap.size, 0, none⟩ = some y := (blk_cell (heap_alloc_new W (.cells #[y] e)) 0).trans rfl
  have HO1 : (W.alloc (.cells #[y] e)).ownsRow base e 1 v xs.length xs := HO.alloc _
  have hnews : ∀ j u, [y][j]? = some u → (W.alloc (.cells #[y] e)).cell? ((⟨W.heap.size, 0, none⟩ : Addr).add j) = some u := by
    intro j u hu
    cases j with
    | zero => simp at hu; subst hu; simp only [Addr.add]; exact hny
    | succ j => simp at hu
  refine wpList_plain hgd fun K hK => ?_
  obtain ⟨v', w', hr, h2, h3, _, h5⟩ := run_append_own_at (P := P) (W.alloc (.cells #[y] e)) base t o.type e i0 z 1 bytes ht hi hz0 hz1 hz2 hz (by omega) v xs.length xs HO1 ⟨W.heap.size, 0, none⟩ 1 1 [y] rfl hnews (by simpa using h1) hmx hl (by simp; omega)
  have h6 := appended_old ht hi hz0 hz1 hz2 HO1 hny h1 hmx hl hr
  have hgo : W.grownBy w' v.ownBlock := World.grownBy.trans (World.grownBy_alloc W _ _) h3
  unfold Oper.wp execOp
  simp only [ho, resolve, invoke, builtin, Sem.run_bind, Sem.run_pure, Result.andThen_ok, List.map_toArray, List.map_cons, List.map_nil, hs, hx, hr]
  refine hK _ _ (h v' w' (by simpa using h2) h6 ((HB.alloc hbase _).grown h3 (by simp; omega) (own_base HO)) hgo ?_)
  rcases h5 with h5 | h5
  · exact .inl h5
  · exact .inr ⟨_, h5, by simp⟩
end
end Go.Proofs.Ytfnlankpdnkmoaa.B
