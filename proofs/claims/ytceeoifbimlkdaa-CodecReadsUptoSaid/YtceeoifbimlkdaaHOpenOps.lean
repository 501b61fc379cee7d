/- Proved: an argument that is a list of calls, opened: its values, its room, its bulk. The block 'open_slice_fields' is the guide's own (extra-structs). -/
import Derived.Test.YtceeoifbimlkdaaRows
import Derived.Test.YtceeoifbimlkdaaHAgain
import Derived.Deep.Slices
import Derived.Deep.Fields
import Derived.ChangeSame
import Derived.SizedLaws
import Derived.OpenShut
namespace Go.Proofs.Ytceeoifbimlkdaa.B
open Go.RowKit Go.ChangeShapes Go.WideShapes Go.Deep Go.Proofs.YtceeoifbimlkdaaW.PrintWords Go.Proofs.YtceeoifbimlkdaaW.PrintLast Go.Proofs.YtceeoifbimlkdaaW.PrintMore
section
variable {H : Type} {enc : TypeId × Value → H} {P : Program} {w : World} {base : Nat} {spare : Nat → Bool} {held : Bool}
theorem open_slice_fields {t e : TypeId} {fs : Array Field} {fuel : Nat} {cs : List Value} {x : DataW H × List MemPlace} (ht : P.underlying t = some (.slice e)) (he : P.underlying e = some (.struct fs))
    (hone : oneCellFields P fs = true) (hC : P.cellsOf e = fs.size) (h : DataW.trod enc P w base spare held fuel t cs = some x) :
    (cs = [.slice none 0 0] ∧ x = (.nil, [])) ∨
    ∃ (a : Addr) (len cap m : Nat) (D : Nat → DataW H) (Pl : Nat → List MemPlace), cs = [.slice (some a) len cap] ∧ base ≤ a.block ∧ len ≤ cap ∧ cap ≤ maxLen ∧ m = (if spare a.block then cap else len) ∧
      x = (.slice ((List.range len).map D) ((List.range (m - len)).map fun j => D (len + j)), MemPlace.row a (m * fs.size) ++ (List.range m).flatMap Pl) ∧
      ∀ i, i < m → ∃ (ys : List (DataW H × List MemPlace)) (n : Nat), D i = .agg (ys.map (·.1)) ∧ Pl i = ys.flatMap (·.2) ∧ ys.length = fs.size ∧
        ∀ (j : Nat) (f : Field), fs[j]? = some f → ∃ (v : Value) (y : DataW H × List MemPlace), w.cell? (a.add (i * fs.size + j)) = some v ∧ ys[j]? = some y ∧ DataW.trod enc P w base spare held n f.type [v] = some y := by
  rcases open_slice ht h with h0 | ⟨a, len, cap, m, n, D, Pl, hcs, hb, hl, hm, hmm, hx, hi⟩
  · exact .inl h0
  · refine .inr ⟨a, len, cap, m, D, Pl, hcs, hb, hl, hm, hmm, by rw [hC] at hx; exact hx, fun i him => ?_⟩
    obtain ⟨cs', hc, ht'⟩ := hi i him
    rw [hC] at hc
    obtain ⟨ys, n', hn', hy, hlen, hyl, hf⟩ := DataW.trod_struct he ht'
    obtain ⟨_, hcl, hat⟩ := World.cells?_some hc
    simp only [Prod.mk.injEq] at hy
    refine ⟨ys, n', hy.1, hy.2, hyl, fun j f hj => ?_⟩
    obtain ⟨ho, hk⟩ := hone_of hone j f hj
    have hjl : j < fs.size := (Array.getElem?_eq_some_iff.1 hj).1
    have hcell := hat j hjl
    have hv : cs'[j]? = some (cs'[j]'(by omega)) := List.getElem?_eq_getElem (by omega)
    have h1 := hf j f hj
    rw [ho, hk] at h1
    have hone' : (cs'.drop j).take 1 = [cs'[j]'(by omega)] := by
      rw [List.drop_eq_getElem_cons (by omega)]
      rfl
    rw [hone'] at h1
    have hys : ys[j]? = some (ys[j]'(by omega)) := List.getElem?_eq_getElem (by omega)
    refine ⟨_, _, ?_, hys, h1.trans hys⟩
    rw [← Go.Deep.add_add, hcell, hv]
end

theorem list_of {α : Type} (d : α) (Q : Nat → α → Prop) : ∀ n, (∀ i, i < n → ∃ a, Q i a) → ∃ l : List α, l.length = n ∧ ∀ i, i < n → Q i (l.getD i d)
  | 0, _ => ⟨[], rfl, fun i hi => absurd hi (Nat.not_lt_zero _)⟩
  | n + 1, h => by
    obtain ⟨l, hl, hq⟩ := list_of d Q n fun i hi => h i (by omega)
    obtain ⟨a, ha⟩ := h n (by omega)
    refine ⟨l ++ [a], by simp [hl], fun i hi => ?_⟩
    by_cases e : i = n
    · subst e; rw [List.getD_eq_getElem?_getD, List.getElem?_append_right (by omega)]; simpa [hl] using ha
    · have := hq i (by omega)
      rw [List.getD_eq_getElem?_getD] at this ⊢
      rwa [List.getElem?_append_left (by omega)]


/-! ### Bulk -/
theorem bulk_one {H : Type} (d : DataW H) : 1 ≤ Rows.uptoBulk d := by
  cases d with
  | lit l => cases l <;> simp [Rows.uptoBulk]
  | nil => simp [Rows.uptoBulk]
  | ptr d => simp [Rows.uptoBulk]
  | slice elems spare => simp [Rows.uptoBulk]
  | agg parts => simp [Rows.uptoBulk]
  | iface t d => simp [Rows.uptoBulk]
  | map entries => simp [Rows.uptoBulk]
  | held h => simp [Rows.uptoBulk]
theorem bulk_all_len {H : Type} : ∀ l : List (DataW H), l.length ≤ Rows.uptoBulkAll l
  | [] => Nat.zero_le _
  | d :: l => by
    have h1 := bulk_one d
    have h2 := bulk_all_len l
    simp only [Rows.uptoBulkAll, List.length_cons]
    omega
theorem bulk_all_mem {H : Type} {d : DataW H} : ∀ {l : List (DataW H)}, d ∈ l → Rows.uptoBulk d ≤ Rows.uptoBulkAll l
  | [], h => nomatch h
  | x :: l, h => by
    simp only [Rows.uptoBulkAll]
    cases h with
    | head => omega
    | tail _ h => have := bulk_all_mem h; omega

/-- A row of integers that is read: its list, its bulk. -/
theorem open_row {H : Type} {enc : TypeId × Value → H} {W : World} {base fuel : Nat} {held : Bool} {k : IntKind} {t e : TypeId} {v : Value} {y : DataW H × List MemPlace} (ht : Try.prog.underlying t = some (.slice e)) (he : Try.prog.underlying e = some (.int k)) (hc : Try.prog.cellsOf e = 1)
    (h : DataW.trod enc Try.prog W base (fun _ => true) held fuel t [v] = some y) : ∃ (A : Option Addr) (c : Nat) (l : List Int), v = .slice A l.length c ∧ l.length ≤ c ∧ Kd.C (Kd.int k) W A l.length l ∧ (∀ x ∈ l, (Lit.int k x).wf = true) ∧ l.length ≤ Rows.uptoBulk y.1 := by
  rcases open_ints ht he hc h with ⟨hcs, _⟩ | ⟨x, l, c, zs, hcs, _, hl, hm, hz, hy, hcell, hwz⟩
  · cases hcs
    exact ⟨none, 0, [], rfl, Nat.le_refl _, Kd.C_nil _ _, (fun x hx => by cases hx), Nat.zero_le _⟩
  · cases hcs
    have hz' : zs.length = c := by simpa using hz
    obtain ⟨l', hl', hr, hm', hw, hc'⟩ := ReadsInt.ofRowC (w := W) (k := k) (a := some x) (len := l) (cap := c) (zs := zs) (.inr ⟨_, rfl, hl, hm, hz', hcell, hwz⟩)
    subst hl'
    refine ⟨some x, c, l', rfl, hc', Kd.C_of_reads (d := (0 : Int)) (h1 := fun _ => rfl) hr, hw, ?_⟩
    rw [hy]
    simp only [Rows.uptoBulk]
    have := bulk_all_len (lits (H := H) k (zs.take l'.length))
    simp only [lits, List.length_map, List.length_take] at this
    have e : min l'.length zs.length = l'.length := by omega
    simp only [lits]
    omega

theorem add_at (x : Addr) (i j : Nat) (hj : j ≠ 0) : x.add (i + j) = ⟨(x.add i).block, (x.add i).off + j, none⟩ := by
  unfold Addr.add
  by_cases hi : i = 0 <;> simp [hi, hj, Nat.add_assoc]
/-- Calls in memory, with their room. -/
def OpsAtC (w : World) (A : Option Addr) (ops : List OpL) : Prop := ∀ i (hi : i < ops.length), ∃ (ad : Addr) (A1 : Option Addr) (c1 : Nat) (A2 : Option Addr) (c2 : Nat), A = some ad ∧ (ad.add (i * 7)).block < w.heap.size ∧
  w.cell? (ad.add (i * 7)) = some (.int .i64 (ops[i]).kind) ∧ w.cell? ⟨(ad.add (i * 7)).block, (ad.add (i * 7)).off + 1, none⟩ = some (.int .i64 (ops[i]).n) ∧ w.cell? ⟨(ad.add (i * 7)).block, (ad.add (i * 7)).off + 2, none⟩ = some (.int .i64 (ops[i]).wide) ∧
  w.cell? ⟨(ad.add (i * 7)).block, (ad.add (i * 7)).off + 3, none⟩ = some (.bool (ops[i]).flag) ∧ w.cell? ⟨(ad.add (i * 7)).block, (ad.add (i * 7)).off + 4, none⟩ = some (.slice A1 (ops[i]).bytes.length c1) ∧
  w.cell? ⟨(ad.add (i * 7)).block, (ad.add (i * 7)).off + 5, none⟩ = some (.slice A2 (ops[i]).list.length c2) ∧ w.cell? ⟨(ad.add (i * 7)).block, (ad.add (i * 7)).off + 6, none⟩ = some (.int .i64 (ops[i]).most) ∧
  Kd.C (Kd.int .u8) w A1 (ops[i]).bytes.length (ops[i]).bytes ∧ Kd.C (Kd.int .i64) w A2 (ops[i]).list.length (ops[i]).list ∧ (ops[i]).bytes.length ≤ c1 ∧ (ops[i]).list.length ≤ c2
theorem OpsAtC.weak {w : World} {A : Option Addr} {ops : List OpL} (h : OpsAtC w A ops) : OpsAt w A ops := fun i hi => by
  obtain ⟨ad, A1, c1, A2, c2, e, y, y0, y1, y2, y3, y4, y5, y6, j1, j2, _⟩ := h i hi
  exact ⟨ad, A1, c1, A2, c2, e, y, y0, y1, y2, y3, y4, y5, y6, j1, j2⟩
/-- The numbers of a call are int64, its bytes are bytes. -/
def WfOp (o : OpL) : Prop := (Lit.int .i64 o.kind).wf = true ∧ (Lit.int .i64 o.n).wf = true ∧ (Lit.int .i64 o.wide).wf = true ∧ (Lit.int .i64 o.most).wf = true ∧ (∀ x ∈ o.bytes, (Lit.int .u8 x).wf = true) ∧ ∀ x ∈ o.list, (Lit.int .i64 x).wf = true
theorem list7 {α : Type} : ∀ {l : List α}, l.length = 7 → ∃ a b c d e f g, l = [a, b, c, d, e, f, g]
  | [a, b, c, d, e, f, g], _ => ⟨a, b, c, d, e, f, g, rfl⟩
set_option maxRecDepth 100000 in
theorem open_ops {H : Type} {enc : TypeId × Value → H} {W : World} {base : Nat} {held : Bool} {a : Option Addr} {len cap : Nat} {d : DataW H} {ps : List MemPlace} (h : DataW.Trod enc Try.prog W base (fun _ => true) held 49 (.slice a len cap) d ps) :
    ∃ ops : List OpL, len = ops.length ∧ ops.length ≤ cap ∧ OpsAtC W a ops ∧ (∀ o ∈ ops, WfOp o ∧ o.bytes.length + o.list.length ≤ Rows.uptoBulk d) ∧ ops.length ≤ Rows.uptoBulk d := by
  obtain ⟨fuel, hf⟩ := h
  rcases open_slice_fields Try.underlying49 Try.underlying58 (by kernel_rfl) (by kernel_rfl) hf with ⟨hcs, _⟩ | ⟨x, l, c, m, D, Pl, hcs, _, hl, hm, hmm, hx, hi⟩
  · simp [Value.cells] at hcs
    obtain ⟨rfl, rfl, rfl⟩ := hcs
    exact ⟨[], rfl, Nat.zero_le _, (fun i hi => absurd hi (Nat.not_lt_zero _)), (fun o ho => by cases ho), Nat.zero_le _⟩
  · simp [Value.cells] at hcs
    obtain ⟨rfl, rfl, rfl⟩ := hcs
    obtain rfl : d = _ := congrArg Prod.fst hx
    have hlm : len ≤ m := by rw [hmm]; simp; omega
    have each : ∀ i, i < len → ∃ o : OpL, WfOp o ∧ o.bytes.length + o.list.length ≤ Rows.uptoBulk (D i) ∧ ∃ (A1 : Option Addr) (c1 : Nat) (A2 : Option Addr) (c2 : Nat), W.cell? (x.add (i * 7 + 0)) = some (.int .i64 o.kind) ∧ W.cell? (x.add (i * 7 + 1)) = some (.int .i64 o.n) ∧ W.cell? (x.add (i * 7 + 2)) = some (.int .i64 o.wide) ∧
        W.cell? (x.add (i * 7 + 3)) = some (.bool o.flag) ∧ W.cell? (x.add (i * 7 + 4)) = some (.slice A1 o.bytes.length c1) ∧ W.cell? (x.add (i * 7 + 5)) = some (.slice A2 o.list.length c2) ∧ W.cell? (x.add (i * 7 + 6)) = some (.int .i64 o.most) ∧
        Kd.C (Kd.int .u8) W A1 o.bytes.length o.bytes ∧ Kd.C (Kd.int .i64) W A2 o.list.length o.list ∧ o.bytes.length ≤ c1 ∧ o.list.length ≤ c2 := by
      intro i him
      obtain ⟨ys, n, hD, _, hys, hfld⟩ := hi i (by omega)
      obtain ⟨x0, x1, x2, x3, x4, x5, x6, rfl⟩ := list7 (l := ys) (by simpa using hys)
      obtain ⟨v0, y0, c0, g0, t0⟩ := hfld 0 _ rfl
      obtain ⟨v1, y1, c1, g1, t1⟩ := hfld 1 _ rfl
      obtain ⟨v2, y2, c2, g2, t2⟩ := hfld 2 _ rfl
      obtain ⟨v3, y3, c3, g3, t3⟩ := hfld 3 _ rfl
      obtain ⟨v4, y4, c4, g4, t4⟩ := hfld 4 _ rfl
      obtain ⟨v5, y5, c5, g5, t5⟩ := hfld 5 _ rfl
      obtain ⟨v6, y6, c6, g6, t6⟩ := hfld 6 _ rfl
      cases g0; cases g1; cases g2; cases g3; cases g4; cases g5; cases g6
      obtain ⟨n0, e0, _, w0⟩ := DataW.trod_int Try.underlying3 t0
      obtain ⟨n1, e1, _, w1⟩ := DataW.trod_int Try.underlying3 t1
      obtain ⟨n2, e2, _, w2⟩ := DataW.trod_int Try.underlying2 t2
      obtain ⟨n3, e3, _⟩ := DataW.trod_bool Try.underlying4 t3
      obtain ⟨A1, k1, l1, rfl, hc1, hr1, hw1, hb1⟩ := open_row Try.underlying37 Try.underlying5 (by kernel_rfl) t4
      obtain ⟨A2, k2, l2, rfl, hc2, hr2, hw2, hb2⟩ := open_row Try.underlying56 Try.underlying3 (by kernel_rfl) t5
      obtain ⟨n6, e6, _, w6⟩ := DataW.trod_int Try.underlying3 t6
      cases e0; cases e1; cases e2; cases e3; cases e6
      refine ⟨⟨n0, n1, n2, n3, l1, l2, n6⟩, ⟨w0, w1, w2, w6, hw1, hw2⟩, ?_, A1, k1, A2, k2, c0, c1, c2, c3, c4, c5, c6, hr1, hr2, hc1, hc2⟩
      rw [hD]
      simp only [Rows.uptoBulk, Rows.uptoBulkAll, List.map_cons, List.map_nil]
      omega
    obtain ⟨ops, hll, hq⟩ := list_of (⟨0, 0, 0, false, [], [], 0⟩ : OpL) _ len each
    subst hll
    have hq2 : ∀ i (hi : i < ops.length), WfOp ops[i] ∧ ops[i].bytes.length + ops[i].list.length ≤ Rows.uptoBulk (D i) ∧ _ := fun i hi => by
      have h := hq i hi
      rw [List.getD_eq_getElem?_getD, List.getElem?_eq_getElem hi] at h
      exact h
    have hbig : ∀ i, i < ops.length → Rows.uptoBulk (D i) ≤ Rows.uptoBulkAll ((List.range ops.length).map D) := fun i hi => bulk_all_mem (List.mem_map.2 ⟨i, List.mem_range.2 hi, rfl⟩)
    refine ⟨ops, rfl, hl, fun i hi => ?_, fun o ho => ?_, ?_⟩
    · obtain ⟨_, _, A1, c1, A2, c2, z0, z1, z2, z3, z4, z5, z6, r1, r2, r3, r4⟩ := hq2 i hi
      rw [add_at x (i * 7) 1 (by decide)] at z1
      rw [add_at x (i * 7) 2 (by decide)] at z2
      rw [add_at x (i * 7) 3 (by decide)] at z3
      rw [add_at x (i * 7) 4 (by decide)] at z4
      rw [add_at x (i * 7) 5 (by decide)] at z5
      rw [add_at x (i * 7) 6 (by decide)] at z6
      exact ⟨x, A1, c1, A2, c2, rfl, World.block_lt_of_cell? W _ z0, z0, z1, z2, z3, z4, z5, z6, r1, r2, r3, r4⟩
    · obtain ⟨i, hi, rfl⟩ := List.getElem_of_mem ho
      have h := hq2 i hi
      have := hbig i hi
      refine ⟨h.1, ?_⟩
      have := h.2.1
      simp only [Rows.uptoBulk]
      omega
    · have := bulk_all_len ((List.range ops.length).map D)
      simp only [List.length_map, List.length_range] at this
      simp only [Rows.uptoBulk]
      omega
end Go.Proofs.Ytceeoifbimlkdaa.B
