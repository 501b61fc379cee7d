/- Proved: the memory of the law CodecBack while it writes: a Writer, and a row of calls that grows; what is kept from round to round. -/
import Derived.Test.YtceeoifbimlkdaaHFitted
import Derived.Test.YtceeoifbimlkdaaHOpenOps
namespace Go.Proofs.Ytceeoifbimlkdaa.B
open Go.RowKit Go.Proofs.YtceeoifbimlkdaaW.PrintWords Go.Proofs.YtceeoifbimlkdaaW.PrintLast Go.Proofs.YtceeoifbimlkdaaW.PrintMore

theorem own2_kept {w1 w2 : World} {base e sz : Nat} {V : Value} {n : Nat} {xs : List Value} (h : w1.ownsRow base e sz V n xs) (hb : ∀ k, k < w1.heap.size → some k = V.ownBlock → w2.heap[k]? = w1.heap[k]?) : w2.ownsRow base e sz V n xs := by
  obtain ⟨h0, h1 | ⟨g, cap, cur, e1, e2, e3, e4⟩⟩ := h
  · exact ⟨h0, .inl h1⟩
  · subst e1
    exact ⟨h0, .inr ⟨g, cap, cur, rfl, e2, (hb g (blk_lt e3) rfl).trans e3, e4⟩⟩
theorem own2_cell {w1 : World} {base e sz g n cap : Nat} {xs : List Value} (h : w1.ownsRow base e sz (.slice (some ⟨g, 0, none⟩) n cap) n xs) (j : Nat) (u : Value) (hj : xs[j]? = some u) : w1.cell? ⟨g, j, none⟩ = some u ∧ w1.frozen? ⟨g, j, none⟩ = false := by
  obtain ⟨h0, h1 | ⟨g', cap', cur, e1, e2, e3, e4, e5, e6, e7⟩⟩ := h
  · cases h1.1
  · cases e1
    refine ⟨?_, blk_frozen e3 j⟩
    rw [blk_cell e3]
    rw [← e7, List.getElem?_take] at hj
    split at hj
    · rw [← Array.getElem?_toList]; exact hj
    · cases hj
theorem own2_base {w : World} {base e sz : Nat} {V : Value} {n : Nat} {xs : List Value} (h : w.ownsRow base e sz V n xs) : ∀ k, some k = V.ownBlock → base ≤ k ∧ k < w.heap.size ∧ ∃ cs, w.heap[k]? = some (.cells cs e (0, 0)) := by
  obtain ⟨h0, ⟨rfl, e⟩ | ⟨g, cap, cur, rfl, e2, e3, e4⟩⟩ := h
  · intro k hk; cases hk
  · intro k hk
    cases hk
    exact ⟨e2, blk_lt e3, cur, e3⟩
theorem F_old {kd : IntKind} {w W : World} {A : Option Addr} {l : List Int} {ok : Nat → Prop} (h : Kd.C (Kd.int kd) w A l.length l) (hb : Below w.heap.size w W) (hok : ∀ k, k < w.heap.size → ok k) : Kd.F (Kd.int kd) W ok A l.length l := by
  intro W' hW'
  have h1 := Kd.reads_of_C (d := (0 : Int)) h
  refine Kd.C_of_reads (d := (0 : Int)) ⟨h1.1, h1.2.1, fun hn => ?_⟩
  obtain ⟨ad, e, hc⟩ := h1.2.2 hn
  refine ⟨ad, e, fun j hj => ?_⟩
  have hlt := World.block_lt_of_cell? w _ (hc j hj)
  rw [add_block] at hlt
  have e1 : W'.heap[ad.block]? = w.heap[ad.block]? := (hW' ad.block (hok _ hlt) (Nat.lt_of_lt_of_le hlt hb.size)).trans (hb.block _ hlt)
  exact (World.cell?_of_block (w := w) (by rw [add_block]; exact e1)).trans (hc j hj)

def valsOf (A1 : Option Addr) (c1 : Nat) (A2 : Option Addr) (c2 : Nat) (o : OpL) : List Value := [.int .i64 o.kind, .int .i64 o.n, .int .i64 o.wide, .bool o.flag, .slice A1 o.bytes.length c1, .slice A2 o.list.length c2, .int .i64 o.most]
/-- What a call's values read lies apart from the Writer and from the row of calls. -/
def okB (Bw : Nat) (vw vl : Value) (k : Nat) : Prop := k ≠ Bw ∧ some k ≠ vw.ownBlock ∧ some k ≠ vl.ownBlock
structure RowE (W : World) (ok : Nat → Prop) (A1 : Option Addr) (c1 : Nat) (A2 : Option Addr) (c2 : Nat) (o : OpL) : Prop where
  b : Kd.F (Kd.int .u8) W ok A1 o.bytes.length o.bytes
  l : Kd.F (Kd.int .i64) W ok A2 o.list.length o.list
  cb : o.bytes.length ≤ c1
  cl : o.list.length ≤ c2
def RowF (W : World) (Bw : Nat) (vw vl : Value) (r : List Value) (o : OpL) : Prop := ∃ A1 c1 A2 c2, r = valsOf A1 c1 A2 c2 o ∧ RowE W (okB Bw vw vl) A1 c1 A2 c2 o
theorem RowE.step {W W' : World} {Bw : Nat} {vw vl vw' vl' : Value} {A1 A2 : Option Addr} {c1 c2 : Nat} {o : OpL} (h : RowE W (okB Bw vw vl) A1 c1 A2 c2 o) (hm : ∀ k, okB Bw vw vl k → k < W.heap.size → W'.heap[k]? = W.heap[k]?)
    (h1 : vw'.ownBlock = vw.ownBlock ∨ ∃ b, vw'.ownBlock = some b ∧ W.heap.size ≤ b) (h2 : vl'.ownBlock = vl.ownBlock ∨ ∃ b, vl'.ownBlock = some b ∧ W.heap.size ≤ b) : RowE W' (okB Bw vw' vl') A1 c1 A2 c2 o := by
  have key : ∀ k, okB Bw vw vl k ∧ k < W.heap.size → okB Bw vw' vl' k := by
    rintro k ⟨⟨a, b, c⟩, hlt⟩
    refine ⟨a, ?_, ?_⟩
    · rcases h1 with e | ⟨x, e, hx⟩
      · rw [e]; exact b
      · rw [e]; intro h; cases h; omega
    · rcases h2 with e | ⟨x, e, hx⟩
      · rw [e]; exact c
      · rw [e]; intro h; cases h; omega
  exact ⟨Kd.F_mono (Kd.F_step (Kd.F_bound h.b) fun k hk hlt => hm k hk.1 hlt) key, Kd.F_mono (Kd.F_step (Kd.F_bound h.l) fun k hk hlt => hm k hk.1 hlt) key, h.cb, h.cl⟩
theorem RowE.below {W W' : World} {ok : Nat → Prop} {A1 A2 : Option Addr} {c1 c2 : Nat} {o : OpL} (h : RowE W ok A1 c1 A2 c2 o) (hb : Below W.heap.size W W') : RowE W' ok A1 c1 A2 c2 o := ⟨Kd.F_below h.b hb, Kd.F_below h.l hb, h.cb, h.cl⟩

/-- The state of a round of the writing loop. -/
structure BkAt (w : World) (Bw : Nat) (vw vl : Value) (ws : List Int) (rows : List (List Value)) (fs : List OpL) (W : World) : Prop where
  eq : Bw = w.heap.size
  wr : WrAt W Bw Bw vw ws 0
  ow : W.ownsRow Bw 58 7 vl fs.length rows.flatten
  rl : rows.length = fs.length
  el : ∀ i (h : i < fs.length) (h' : i < rows.length), RowF W Bw vw vl rows[i] fs[i]
  bl : Below w.heap.size w W
  sz : Bw < W.heap.size
section
variable {w W w2 w3 w4 w5 : World} {Bw : Nat} {vw vl vl' vw' : Value} {ws ws' : List Int} {rows : List (List Value)} {fs : List OpL} {A1 A2 : Option Addr} {c1 c2 : Nat} {f : OpL}
/-- What fitted hands over lies apart. -/
theorem BkAt.fresh (h : BkAt w Bw vw vl ws rows fs W) (hb2 : Below W.heap.size W w2) (o : OpL) (A3 : Option Addr) (c3 : Nat) (j1 : Kd.C (Kd.int .u8) w A1 o.bytes.length o.bytes) (j2 : Kd.C (Kd.int .i64) w A2 o.list.length o.list) (h1 : o.bytes.length ≤ c1) (h2 : o.list.length ≤ c2) (hf : f.bytes = o.bytes)
    (hc : (A3 = A2 ∧ c3 = c2 ∧ f.list = o.list) ∨ (Kd.F (Kd.int .i64) w2 (fun k => W.heap.size ≤ k) A3 f.list.length f.list ∧ f.list.length ≤ c3)) : RowE w2 (okB Bw vw vl) A1 c1 A3 c3 f := by
  have hb : Below w.heap.size w w2 := h.bl.trans (hb2.mono h.bl.size)
  have low : ∀ k, k < w.heap.size → okB Bw vw vl k := fun k hk => by
    have e := h.eq
    refine ⟨by omega, fun e1 => ?_, fun e1 => ?_⟩
    · have := (row_lt h.wr.row e1.symm).1; omega
    · have := (own2_base h.ow k e1).1; omega
  have high : ∀ k, W.heap.size ≤ k → okB Bw vw vl k := fun k hk => by
    have e := h.sz
    refine ⟨by omega, fun e1 => ?_, fun e1 => ?_⟩
    · have := (row_lt h.wr.row e1.symm).2; omega
    · have := (own2_base h.ow k e1).2.1; omega
  refine ⟨by rw [hf]; exact F_old j1 hb low, ?_, by rw [hf]; exact h1, ?_⟩
  · rcases hc with ⟨rfl, rfl, e⟩ | ⟨e, _⟩
    · rw [e]; exact F_old j2 hb low
    · exact Kd.F_mono e high
  · rcases hc with ⟨rfl, rfl, e⟩ | ⟨_, e⟩
    · rw [e]; exact h2
    · exact e
theorem BkAt.apart (h : BkAt w Bw vw vl ws rows fs W) : some Bw ≠ vl.ownBlock ∧ ∀ k, vw.ownBlock = some k → some k ≠ vl.ownBlock :=
  ⟨own_ne h.ow h.wr.blk (by decide), fun k e e2 => ne_types h.ow (Kd.own_of_R h.wr.row) (by decide) k e2.symm e⟩
/-- Behind the append: the Writer stands, and the new call reads. -/
theorem BkAt.wrote (h : BkAt w Bw vw vl ws rows fs W) (hb2 : Below W.heap.size W w2) (h3 : Below w2.heap.size w2 w3) (hg : w3.grownBy w4 vl.ownBlock) (hat : vl'.ownBlock = vl.ownBlock ∨ ∃ b, vl'.ownBlock = some b ∧ w3.heap.size ≤ b) (hr : RowE w2 (okB Bw vw vl) A1 c1 A2 c2 f) :
    WrAt w4 Bw Bw vw ws 0 ∧ RowE w4 (okB Bw vw vl') A1 c1 A2 c2 f := by
  have s2 := hb2.size
  have s3 := h3.size
  have hw3 := (h.wr.below hb2).below h3
  refine ⟨⟨h.wr.low, (hg.block Bw (by have := h.sz; omega) h.apart.1).trans hw3.blk, row_kept hw3.row fun k e => hg.block k (row_lt hw3.row e).2 (h.apart.2 k e)⟩, ?_⟩
  exact (hr.below h3).step (fun k hk hlt => hg.block k hlt hk.2.2) (.inl rfl) hat
/-- A round. -/
theorem BkAt.round (h : BkAt w Bw vw vl ws rows fs W) (hb2 : Below W.heap.size W w2) (h3 : Below w2.heap.size w2 w3) (hr : RowE w2 (okB Bw vw vl) A1 c1 A2 c2 f) (ho : w4.ownsRow Bw 58 7 vl' (fs.length + 1) (rows.flatten ++ valsOf A1 c1 A2 c2 f)) (hg : w3.grownBy w4 vl.ownBlock)
    (hat : vl'.ownBlock = vl.ownBlock ∨ ∃ b, vl'.ownBlock = some b ∧ w3.heap.size ≤ b) (hb4 : Below Bw w3 w4) (hw5 : WrAt w5 Bw Bw vw' ws' 0) (hk5 : WrKeeps w4 w5 Bw vw vw') : BkAt w Bw vw' vl' ws' (rows ++ [valsOf A1 c1 A2 c2 f]) (fs ++ [f]) w5 := by
  have s2 := hb2.size
  have s3 := h3.size
  have s4 := hg.size
  have s5 := hk5.size
  have hz := h.sz
  have e0 := h.eq
  obtain ⟨hw4, hr4⟩ := h.wrote hb2 h3 hg hat hr
  have o4 : ∀ k, some k = vl'.ownBlock → w5.heap[k]? = w4.heap[k]? := fun k e => by
    have hl := own2_base ho k e
    refine hk5.block k hl.2.1 (fun e1 => ?_) (fun e1 => ?_)
    · subst e1; exact own_ne ho hw4.blk (by decide) e
    · exact ne_types ho (Kd.own_of_R hw4.row) (by decide) k e.symm e1.symm
  have old : ∀ k, okB Bw vw vl k → k < W.heap.size → w5.heap[k]? = W.heap[k]? := fun k hk hlt =>
    (hk5.block k (by omega) hk.1 hk.2.1).trans ((hg.block k (by omega) hk.2.2).trans ((h3.block k (by omega)).trans (hb2.block k hlt)))
  have ownL : vl'.ownBlock = vl.ownBlock ∨ ∃ b, vl'.ownBlock = some b ∧ W.heap.size ≤ b := by
    rcases hat with e | ⟨b, e, hb⟩
    · exact .inl e
    · exact .inr ⟨b, e, by omega⟩
  have ownW : vw'.ownBlock = vw.ownBlock ∨ ∃ b, vw'.ownBlock = some b ∧ W.heap.size ≤ b := by
    rcases hk5.own with e | ⟨b, e, hb⟩
    · exact .inl e
    · exact .inr ⟨b, e, by omega⟩
  refine ⟨h.eq, hw5, ?_, by simp [h.rl], fun i hi hi' => ?_, ?_, by omega⟩
  · rw [List.flatten_append, List.flatten_singleton, List.length_append, List.length_singleton]
    exact own2_kept ho fun k _ e => o4 k e
  · by_cases c : i < fs.length
    · rw [List.getElem_append_left c, List.getElem_append_left (by rw [h.rl]; exact c)]
      obtain ⟨a, b, c', d, e, hE⟩ := h.el i c (by rw [h.rl]; exact c)
      exact ⟨a, b, c', d, e, hE.step old ownW ownL⟩
    · have hlen : i = fs.length := by rw [List.length_append, List.length_singleton] at hi; omega
      subst hlen
      rw [List.getElem_append_right (by rw [h.rl]; exact Nat.le_refl _), List.getElem_append_right (Nat.le_refl _)]
      refine ⟨A1, c1, A2, c2, by simp [h.rl], ?_⟩
      simp only [Nat.sub_self, List.getElem_cons_zero]
      exact hr4.step (fun k hk hlt => hk5.block k hlt hk.1 hk.2.1) hk5.own (.inl rfl)
  · refine ((h.bl.trans (hb2.mono h.bl.size)).trans (h3.mono (by have := h.bl.size; omega))).trans ((hb4.mono (by omega)).trans ?_)
    exact (hk5.below hw4 (by omega)).mono (by omega)
end
theorem flatten_at : ∀ (rows : List (List Value)) (i j : Nat) (r : List Value), (∀ r ∈ rows, r.length = 7) → rows[i]? = some r → j < 7 → rows.flatten[i * 7 + j]? = r[j]?
  | [], i, j, r, _, h, _ => by simp at h
  | q :: rows, 0, j, r, hl, h, hj => by
    simp at h; subst h
    rw [List.flatten_cons, List.getElem?_append_left (by rw [hl q (by simp)]; omega), Nat.zero_mul, Nat.zero_add]
  | q :: rows, i + 1, j, r, hl, h, hj => by
    have hq := hl q (by simp)
    rw [List.flatten_cons, List.getElem?_append_right (by omega), hq, show (i + 1) * 7 + j - 7 = i * 7 + j by omega]
    exact flatten_at rows i j r (fun x hx => hl x (by simp [hx])) (by simpa using h) hj
/-- At the loop's end the row is a list of calls in memory. -/
theorem BkAt.done {w W : World} {Bw : Nat} {vw vl : Value} {ws : List Int} {rows : List (List Value)} {fs : List OpL} (h : BkAt w Bw vw vl ws rows fs W) : ∃ (A : Option Addr) (c : Nat), vl = .slice A fs.length c ∧ fs.length ≤ c ∧ OpsAtC W A fs := by
  have hw := h.ow
  obtain ⟨h0, ⟨rfl, e⟩ | ⟨g, cap, cur, rfl, e2, e3, e4, e5⟩⟩ := h.ow
  · exact ⟨none, 0, by rw [e], by omega, fun i hi => by omega⟩
  · refine ⟨_, cap, rfl, e4, fun i hi => ?_⟩
    have hi' : i < rows.length := by rw [h.rl]; exact hi
    have h7 : ∀ r ∈ rows, r.length = 7 := fun r hr => by
      obtain ⟨k, hk, rfl⟩ := List.getElem_of_mem hr
      obtain ⟨a, b, c, d, e, _⟩ := h.el k (by rw [← h.rl]; exact hk) hk
      rw [e]; rfl
    obtain ⟨A1, c1, A2, c2, e, hE⟩ := h.el i hi hi'
    have cell : ∀ j, j < 7 → ∀ u, (valsOf A1 c1 A2 c2 fs[i])[j]? = some u → W.cell? ⟨g, i * 7 + j, none⟩ = some u := fun j hj u hu =>
      (own2_cell hw (i * 7 + j) u (by rw [flatten_at rows i j rows[i] h7 (List.getElem?_eq_getElem hi') hj, e]; exact hu)).1
    have ea : (⟨g, 0, none⟩ : Addr).add (i * 7) = ⟨g, i * 7, none⟩ := by
      unfold Addr.add
      by_cases c : i * 7 = 0 <;> simp [c]
    refine ⟨⟨g, 0, none⟩, A1, c1, A2, c2, rfl, ?_, ?_, ?_, ?_, ?_, ?_, ?_, ?_, Kd.F_now hE.b, Kd.F_now hE.l, hE.cb, hE.cl⟩
    · rw [ea]; exact blk_lt e3
    all_goals rw [ea]
    · exact cell 0 (by omega) _ rfl
    · exact cell 1 (by omega) _ rfl
    · exact cell 2 (by omega) _ rfl
    · exact cell 3 (by omega) _ rfl
    · exact cell 4 (by omega) _ rfl
    · exact cell 5 (by omega) _ rfl
    · exact cell 6 (by omega) _ rfl
end Go.Proofs.Ytceeoifbimlkdaa.B
