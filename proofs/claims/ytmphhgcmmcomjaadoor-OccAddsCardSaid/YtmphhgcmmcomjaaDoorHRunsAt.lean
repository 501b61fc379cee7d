/- Proved: the contract of occ.joined.add: what it lays is the plain joining of slots. No conditions but bounds. Proved: the contract of the closure of occ.Runs: what of a slot lies within the span is joined. No conditions but bounds. What occ.Runs's own variables hold, and that its two joiners' calls keep it; the plain runs. -/
import Derived.Test.YtmphhgcmmcomjaaDoorHRests
import Derived.Test.YtmphhgcmmcomjaaDoorHNextOf
import Derived.BigQuiet
namespace Go.Proofs.YtmphhgcmmcomjaaDoor.B
open Go.RowKit Go.Proofs.YtmphhgcmmcomjaaDoorW.PrintWords Go.Proofs.YtmphhgcmmcomjaaDoorW.PrintLast Go.Proofs.YtmphhgcmmcomjaaDoorW.PrintMore

/-- Slots' cells. -/
def flat : List (Nat × Nat) → List Value
  | [] => []
  | p :: l => .int .i64 (p.1 : Nat) :: .int .i64 (p.2 : Nat) :: flat l
theorem flat_length : ∀ l, (flat l).length = l.length * 2
  | [] => rfl
  | p :: l => by show (flat l).length + 1 + 1 = _; rw [flat_length l, List.length_cons]; omega
theorem flat_append (a b : List (Nat × Nat)) : flat (a ++ b) = flat a ++ flat b := by
  induction a with
  | nil => rfl
  | cons p a ih => show _ :: _ :: flat (a ++ b) = _; rw [ih]; rfl
theorem flat_last (a : List (Nat × Nat)) (p : Nat × Nat) : (flat (a ++ [p]))[a.length * 2]? = some (.int .i64 (p.1 : Nat)) ∧ (flat (a ++ [p]))[a.length * 2 + 1]? = some (.int .i64 (p.2 : Nat)) := by
  rw [flat_append, List.getElem?_append_right (by rw [flat_length]; omega), List.getElem?_append_right (by rw [flat_length]; omega), flat_length]
  constructor
  · rw [Nat.sub_self]; rfl
  · rw [show a.length * 2 + 1 - a.length * 2 = 1 by omega]; rfl
theorem flat_set (a : List (Nat × Nat)) (l p m : Nat) : (flat (a ++ [(l, p)])).set (a.length * 2) (.int .i64 (m : Nat)) = flat (a ++ [(m, p)]) := by
  rw [flat_append, flat_append, List.set_append_right _ _ (by rw [flat_length]; omega), flat_length, Nat.sub_self]; rfl

/-- Slots laid behind one another, neighbours joined; too many are told. -/
def addP (most : Nat) (s : List (Nat × Nat) × Bool) (len part : Nat) : List (Nat × Nat) × Bool :=
  if len = 0 then s else
  match s.1.getLast? with
  | some (l, p) => if p = part then (s.1.dropLast ++ [(l + len, p)], s.2) else if s.1.length = most then (s.1, true) else (s.1 ++ [(len, part)], s.2)
  | none => if s.1.length = most then (s.1, true) else (s.1 ++ [(len, part)], s.2)

/-- A joined's record and its row. -/
structure JnAt (base g : Nat) (V : Value) (out : List (Nat × Nat)) (most : Nat) (full : Bool) (W : World) : Prop where
  jn : W.heap[g]? = some (.cells #[V, .int .i64 (most : Nat), .bool full] 78 (0, 0))
  row : W.ownsRow base 55 2 V out.length (flat out)

/-- What add changes: the record and its own row. -/
structure AddKeeps (W W' : World) (g : Nat) (V V' : Value) : Prop where
  at_ : V'.ownBlock = V.ownBlock ∨ ∃ b, V'.ownBlock = some b ∧ W.heap.size ≤ b
  size : W.heap.size ≤ W'.heap.size
  same : ∀ k, k < W.heap.size → k ≠ g → some k ≠ V.ownBlock → W'.heap[k]? = W.heap[k]?
  oth : W'.os = W.os ∧ W'.tape = W.tape ∧ W'.output = W.output

theorem own2_kept {w1 w2 : World} {base e sz : Nat} {V : Value} {n : Nat} {xs : List Value} (h : w1.ownsRow base e sz V n xs) (hb : ∀ k, k < w1.heap.size → some k = V.ownBlock → w2.heap[k]? = w1.heap[k]?) : w2.ownsRow base e sz V n xs := by
  obtain ⟨h0, h1 | ⟨g, cap, cur, e1, e2, e3, e4⟩⟩ := h
  · exact ⟨h0, .inl h1⟩
  · subst e1
    exact ⟨h0, .inr ⟨g, cap, cur, rfl, e2, (hb g (blk_lt e3) rfl).trans e3, e4⟩⟩
theorem own2_set {w1 : World} {base e sz g n cap : Nat} {xs : List Value} (h : w1.ownsRow base e sz (.slice (some ⟨g, 0, none⟩) n cap) n xs) (j : Nat) (u : Value) : (w1.setCell ⟨g, j, none⟩ u).ownsRow base e sz (.slice (some ⟨g, 0, none⟩) n cap) n (xs.set j u) := by
  obtain ⟨h0, h1 | ⟨g', cap', cur, e1, e2, e3, e4, e5, e6, e7⟩⟩ := h
  · cases h1.1
  · cases e1
    refine ⟨by rw [List.length_set]; exact h0, .inr ⟨g, cap, _, rfl, e2, blk_set e3 j u, e4, e5, by simp; omega, ?_⟩⟩
    rw [Array.toList_setIfInBounds, List.take_set, e7]
theorem own2_cell {w1 : World} {base e sz g n cap : Nat} {xs : List Value} (h : w1.ownsRow base e sz (.slice (some ⟨g, 0, none⟩) n cap) n xs) (j : Nat) (u : Value) (hj : xs[j]? = some u) : w1.cell? ⟨g, j, none⟩ = some u ∧ w1.frozen? ⟨g, j, none⟩ = false := by
  obtain ⟨h0, h1 | ⟨g', cap', cur, e1, e2, e3, e4, e5, e6, e7⟩⟩ := h
  · cases h1.1
  · cases e1
    refine ⟨?_, blk_frozen e3 j⟩
    rw [blk_cell e3]
    rw [← e7, List.getElem?_take] at hj
    split at hj
    · rw [← Array.getElem?_toList]; exact hj
    · cases hj
theorem own2_some {w1 : World} {base e sz : Nat} {V : Value} {n : Nat} {xs : List Value} (h : w1.ownsRow base e sz V (n + 1) xs) : ∃ g cap, V = .slice (some ⟨g, 0, none⟩) (n + 1) cap ∧ base ≤ g ∧ n + 1 ≤ cap ∧ (∃ cur, w1.heap[g]? = some (.cells cur e (0, 0))) := by
  obtain ⟨h0, h1 | ⟨g', cap', cur, e1, e2, e3, e4, e5, e6, e7⟩⟩ := h
  · omega
  · exact ⟨g', cap', e1, e2, e4, cur, e3⟩

theorem infoSlot : (Tryd.prog.info? 55).map (fun i => (i.zero, i.size, i.bytes)) = some (some (.agg #[.int .i64 0, .int .i64 0]), 2, 16) := by kernel_rfl

theorem AddKeeps.refl (W : World) (g : Nat) (V : Value) : AddKeeps W W g V V := ⟨.inl rfl, Nat.le_refl _, fun _ _ _ _ => rfl, rfl, rfl, rfl⟩
theorem AddKeeps.set {W : World} {g r j : Nat} {V : Value} (u : Value) (h : r = g ∨ some r = V.ownBlock) : AddKeeps W (W.setCell ⟨r, j, none⟩ u) g V V :=
  ⟨.inl rfl, by simp, fun k _ h1 h2 => Below.heap_setCell _ _ _ _ (by rcases h with rfl | h; exact h1; intro e; rw [e] at h2; exact h2 h), by simp [World.setCell], by simp [World.setCell], by simp [World.setCell]⟩

theorem jn_ne {base g : Nat} {V : Value} {cs : Array Value} {n : Nat} {xs : List Value} {W : World} (hj : W.heap[g]? = some (.cells cs 78 (0, 0))) (hr : W.ownsRow base 55 2 V n xs) : some g ≠ V.ownBlock := by
  obtain ⟨_, ⟨rfl, e⟩ | ⟨g', cap', cur, rfl, _, e3, _⟩⟩ := hr
  · intro h; cases h
  · intro h
    cases h
    have := e3.symm.trans hj
    simp at this

/-- Behind the append's store. -/
theorem add_end {base g most : Nat} {full : Bool} {V V0 v1 : Value} {out out' : List (Nat × Nat)} {W w1 : World} (hj : W.heap[g]? = some (.cells #[V0, .int .i64 (most : Nat), .bool full] 78 (0, 0))) (hne : some g ≠ V.ownBlock)
    (hown : w1.ownsRow base 55 2 v1 out'.length (flat out')) (hb : Below base W w1) (hg : W.grownBy w1 V.ownBlock) (hat : v1.ownBlock = V.ownBlock ∨ ∃ b, v1.ownBlock = some b ∧ W.heap.size ≤ b) (_ho : out = out') :
    JnAt base g v1 out' most full (w1.setCell ⟨g, 0, none⟩ v1) ∧ AddKeeps W (w1.setCell ⟨g, 0, none⟩ v1) g V v1 := by
  have jg := blk_grown hj hg hne
  refine ⟨⟨blk_put jg 0 v1 rfl, own2_kept hown fun k _ hk => Below.heap_setCell _ _ _ _ (fun e => jn_ne jg hown (by rw [← hk, e]))⟩, ⟨hat, Nat.le_trans hb.size (by simp), fun k h1 h2 h3 => (Below.heap_setCell _ _ _ _ h2).trans (hg.block k h1 h3), by simp [World.setCell, hb.os], by simp [World.setCell, hb.tape], by simp [World.setCell, hb.output]⟩⟩

set_option maxHeartbeats 8000000 in
set_option maxRecDepth 100000 in
theorem add_is (base g : Nat) (V : Value) (out : List (Nat × Nat)) (most : Nat) (full : Bool) (len part : Nat) (W : World) (h : JnAt base g V out most full W) (hbase : base ≤ W.heap.size)
    (hlen : len ≤ 4398046511104) (hout : ∀ p, p ∈ out → p.1 ≤ 4398046511104) (hn : out.length ≤ 4194304) (hm1 : 1 ≤ most) :
    Calls Tryd.prog 46 #[.pointer (some ⟨g, 0, none⟩), .int .i64 (len : Nat), .int .i64 (part : Nat)] W fun e W' =>
      (∃ v, e = .returned v) ∧ ∃ V', JnAt base g V' (addP most (out, full) len part).1 most (addP most (out, full) len part).2 W' ∧ AddKeeps W W' g V V' := by
  have hu78 := Tryd.underlying78
  have hu55 := Tryd.underlying55
  have j0 := (blk_cell h.jn 0).trans rfl
  have j1 := (blk_cell h.jn 1).trans rfl
  have j2 := (blk_cell h.jn 2).trans rfl
  have jf := blk_frozen h.jn 0
  have jf2 := blk_frozen h.jn 2
  by_cases hl0 : len = 0
  · subst hl0
    have HJ := Aside0.mk h
    obtain ⟨A, c, rfl⟩ : ∃ A c, V = .slice A out.length c := by
      obtain ⟨_, ⟨rfl, e⟩ | ⟨g', cap', cur, e1, _⟩⟩ := h.row
      · exact ⟨none, 0, by rw [e]⟩
      · exact ⟨_, _, e1⟩
    clear h hout
    go_enter Tryd.func46, Tryd.ntmps46
    go_wp2
    go_end0
    exact ⟨⟨_, rfl⟩, _, HJ.out, AddKeeps.refl _ _ _⟩
  · have hl1 : ¬ ((len : Int) = 0) := by omega
    have hl2 : ((len : Int) == 0) = false := by rw [beq_eq_false_iff_ne]; omega
    rcases List.eq_nil_or_concat out with rfl | ⟨init, x, rfl⟩
    · -- the first
      have HRow := Aside0.mk (show W.ownsRow base 55 2 V 0 [] from h.row)
      have HJ := Aside0.mk h.jn
      obtain ⟨A, c, rfl⟩ : ∃ A c, V = .slice A 0 c := by
        obtain ⟨_, ⟨rfl, e⟩ | ⟨g', cap', cur, e1, _⟩⟩ := h.row
        · exact ⟨none, 0, rfl⟩
        · exact ⟨_, _, e1⟩
      have hm2 : ¬ ((0 : Int) = (most : Int)) := by omega
      have hm3 : ((0 : Int) == (most : Int)) = false := by rw [beq_eq_false_iff_ne]; omega
      clear h hout
      go_enter Tryd.func46, Tryd.ntmps46
      have HNe := Aside0.mk (jn_ne HJ.out HRow.out)
      go_wp2_with ((with_reducible refine gate_builtin (b := .append) (xs := #[.tmp 16, .tmp 20]) rfl ?_); at_builtin; refine print_append_cells (w0 := W) base rfl (.tmp 16) (.tmp 20) 45 55 (.agg #[.int .i64 0, .int .i64 0]) 2 16 rfl Tryd.underlying45 infoSlot rfl (by decide) (by decide) _ 0 [] [.int .i64 (len : Nat), .int .i64 (part : Nat)] rfl rfl rfl (by simp [Value.oneCell']) HRow.out (Below.refl _ _) hbase (by omega) ?_; intro v1 w1 hown hb1 hg1 hat1; obtain ⟨r1, cap1, rfl, -, -, -⟩ := own2_some hown; have jg := blk_grown HJ.out hg1 HNe.out; have c0' := (blk_cell jg 0).trans rfl; have f0' := blk_frozen jg 0; clear jg)
      go_end0
      refine ⟨⟨_, rfl⟩, .slice (some ⟨r1, 0, none⟩) (0 + 1) cap1, ?_⟩
      have e : addP most ([], full) len part = ([(len, part)], full) := by
        unfold addP
        rw [if_neg hl0]
        simp only [List.getLast?_nil]
        rw [if_neg (by simp; omega)]; rfl
      rw [e]
      exact add_end (out' := [(len, part)]) HJ.out HNe.out hown hb1 hg1 hat1 rfl
    · obtain ⟨l, p⟩ := x
      rw [List.concat_eq_append] at h hout hn ⊢
      have hlast := flat_last init (l, p)
      obtain ⟨r, cap, rfl, hr1, hr2, cur, hr3⟩ := own2_some (n := init.length) (by have := h.row; rw [List.length_append] at this; exact this)
      have hrow : W.ownsRow base 55 2 (.slice (some ⟨r, 0, none⟩) (init.length + 1) cap) (init.length + 1) (flat (init ++ [(l, p)])) := by have := h.row; rw [List.length_append] at this; exact this
      have q0 := own2_cell hrow _ _ hlast.1
      have q1 := own2_cell hrow _ _ hlast.2
      obtain ⟨q0, qf⟩ := q0
      have q1 := q1.1
      have hlb := hout (l, p) (by simp)
      have hnb : init.length + 1 ≤ 4194304 := by rw [List.length_append] at hn; exact hn
      have HRow := Aside0.mk hrow
      have HJ := Aside0.mk h.jn
      have HNe := Aside0.mk (jn_ne HJ.out HRow.out)
      dsimp only at q0 q1 hlb
      clear h hout hn hlast hr3 hrow
      by_cases hp : p = part
      · subst hp
        go_enter Tryd.func46, Tryd.ntmps46
        go_wp2
        go_end0
        have hgr : g ≠ r := fun e => HNe.out (by rw [e]; rfl)
        refine ⟨⟨_, rfl⟩, .slice (some ⟨r, 0, none⟩) (init.length + 1) cap, ?_, AddKeeps.set _ (.inr rfl)⟩
        have e : addP most (init ++ [(l, p)], full) len p = (init ++ [(l + len, p)], full) := by
          unfold addP
          rw [if_neg hl0]
          simp
        rw [e]
        have hs := own2_set HRow.out (init.length * 2) (.int .i64 ((l + len : Nat) : Int))
        rw [flat_set] at hs
        refine ⟨blk_far HJ.out hgr _, ?_⟩
        rw [List.length_append]
        exact hs
      · have hp2 : ¬ ((p : Int) = (part : Int)) := by omega
        have hp3 : ((p : Int) == (part : Int)) = false := by rw [beq_eq_false_iff_ne]; omega
        by_cases hm : init.length + 1 = most
        · subst hm
          have e : addP (init.length + 1) (init ++ [(l, p)], full) len part = (init ++ [(l, p)], true) := by
            unfold addP
            rw [if_neg hl0]
            simp [hp]
          have HE := Aside0.mk e
          clear e
          go_enter Tryd.func46, Tryd.ntmps46
          go_wp2
          go_end0
          have hgr : some g ≠ some r := HNe.out
          refine ⟨⟨_, rfl⟩, .slice (some ⟨r, 0, none⟩) (init.length + 1) cap, ?_, AddKeeps.set _ (.inl rfl)⟩
          rw [HE.out]
          refine ⟨blk_put HJ.out 2 (.bool true) rfl, ?_⟩
          rw [List.length_append]
          exact own2_kept HRow.out fun k _ hk => Below.heap_setCell _ _ _ _ (fun e => hgr (by have e' : k = g := e; rw [← e']; exact hk))
        · have hm2 : ¬ ((init.length : Int) + 1 = (most : Int)) := by omega
          have hm3 : ((init.length : Int) + 1 == (most : Int)) = false := by rw [beq_eq_false_iff_ne]; omega
          have e : addP most (init ++ [(l, p)], full) len part = (init ++ [(l, p)] ++ [(len, part)], full) := by
            unfold addP
            rw [if_neg hl0]
            simp [hp, hm]
          have HE := Aside0.mk e
          clear e
          go_enter Tryd.func46, Tryd.ntmps46
          go_wp2_with ((with_reducible refine gate_builtin (b := .append) (xs := #[.tmp 16, .tmp 20]) rfl ?_); at_builtin; refine print_append_cells (w0 := W) base rfl (.tmp 16) (.tmp 20) 45 55 (.agg #[.int .i64 0, .int .i64 0]) 2 16 rfl Tryd.underlying45 infoSlot rfl (by decide) (by decide) _ (init.length + 1) (flat (init ++ [(l, p)])) [.int .i64 (len : Nat), .int .i64 (part : Nat)] rfl rfl rfl (by simp [Value.oneCell']) HRow.out (Below.refl _ _) hbase (by omega) ?_; intro v1 w1 hown hb1 hg1 hat1; obtain ⟨r1, cap1, rfl, -, -, -⟩ := own2_some hown; have jg := blk_grown HJ.out hg1 HNe.out; have c0' := (blk_cell jg 0).trans rfl; have f0' := blk_frozen jg 0; clear jg)
          go_end0
          refine ⟨⟨_, rfl⟩, .slice (some ⟨r1, 0, none⟩) (init.length + 1 + 1) cap1, ?_⟩
          rw [HE.out]
          refine add_end (out' := init ++ [(l, p)] ++ [(len, part)]) HJ.out HNe.out ?_ hb1 hg1 hat1 rfl
          have e2 := flat_append (init ++ [(l, p)]) [(len, part)]
          rw [List.length_append, List.length_append, e2]
          exact hown
end Go.Proofs.YtmphhgcmmcomjaaDoor.B
namespace Go.Proofs.YtmphhgcmmcomjaaDoor.B
open Go.RowKit Go.Proofs.YtmphhgcmmcomjaaDoorW.PrintWords Go.Proofs.YtmphhgcmmcomjaaDoorW.PrintLast Go.Proofs.YtmphhgcmmcomjaaDoorW.PrintMore
attribute [local go_sem] min2_mn max2_mx max_two min_two

/-- What of a slot lies within the span. -/
def layP (most fr tb : Nat) (s : List (Nat × Nat) × Bool) (at_ len part : Nat) : List (Nat × Nat) × Bool :=
  if max at_ fr < min (at_ + len) tb then addP most s (min (at_ + len) tb - max at_ fr) part else s

theorem JnAt.kept {base g : Nat} {V : Value} {out : List (Nat × Nat)} {most : Nat} {full : Bool} {W W' : World} (h : JnAt base g V out most full W) (hb : ∀ k, k < W.heap.size → (k = g ∨ some k = V.ownBlock) → W'.heap[k]? = W.heap[k]?) : JnAt base g V out most full W' :=
  ⟨(hb g (blk_lt h.jn) (.inl rfl)).trans h.jn, own2_kept h.row fun k hk e => hb k hk (.inr e)⟩
theorem AddKeeps.back {W0 W W' : World} {g : Nat} {V V' : Value} (h : AddKeeps W W' g V V') (hs : W0.heap.size ≤ W.heap.size) (hb : ∀ k, k < W0.heap.size → W.heap[k]? = W0.heap[k]?) (ho : W.os = W0.os ∧ W.tape = W0.tape ∧ W.output = W0.output) : AddKeeps W0 W' g V V' :=
  ⟨h.at_.imp id fun ⟨b, e, hl⟩ => ⟨b, e, Nat.le_trans hs hl⟩, Nat.le_trans hs h.size, fun k h1 h2 h3 => (h.same k (by omega) h2 h3).trans (hb k h1), h.oth.1.trans ho.1, h.oth.2.1.trans ho.2.1, h.oth.2.2.trans ho.2.2⟩

set_option maxHeartbeats 8000000 in
set_option maxRecDepth 100000 in
theorem lay_is (base g bf bt : Nat) (V : Value) (out : List (Nat × Nat)) (most : Nat) (full : Bool) (at_ len part fr tb : Nat) (W : World) (h : JnAt base g V out most full W) (hbase : base ≤ W.heap.size)
    (hf : W.cell? ⟨bf, 0, none⟩ = some (.int .i64 (fr : Nat))) (ht : W.cell? ⟨bt, 0, none⟩ = some (.int .i64 (tb : Nat)))
    (ha : at_ ≤ 2199023255552) (hlen : len ≤ 2199023255552) (hto : tb ≤ 2199023255552) (hfr : fr ≤ 2199023255552) (hout : ∀ p, p ∈ out → p.1 ≤ 4398046511104) (hn : out.length ≤ 4194304) (hm1 : 1 ≤ most) :
    Calls Tryd.prog 45 #[.int .i64 (at_ : Nat), .agg #[.int .i64 (len : Nat), .int .i64 (part : Nat)], .pointer (some ⟨bf, 0, none⟩), .pointer (some ⟨bt, 0, none⟩), .pointer (some ⟨g, 0, none⟩)] W fun e W' =>
      (∃ v, e = .returned v) ∧ ∃ V', JnAt base g V' (layP most fr tb (out, full) at_ len part).1 most (layP most fr tb (out, full) at_ len part).2 W' ∧ AddKeeps W W' g V V' := by
  have hu55 := Tryd.underlying55
  have HJ := Aside0.mk h
  have HOut := Aside0.mk hout
  obtain ⟨LO, hLO⟩ : ∃ LO, max at_ fr = LO := ⟨_, rfl⟩
  obtain ⟨HI, hHI⟩ : ∃ HI, min (at_ + len) tb = HI := ⟨_, rfl⟩
  have hl := mxI_nat at_ fr
  have hh := mnI_nat (at_ + len) tb
  rw [hLO] at hl
  rw [hHI, show ((at_ + len : Nat) : Int) = (at_ : Int) + (len : Int) from rfl] at hh
  have hLb : LO ≤ 2199023255552 := by omega
  have hHb : HI ≤ 2199023255552 := by omega
  have hE := Aside0.mk (show layP most fr tb (out, full) at_ len part = if LO < HI then addP most (out, full) (HI - LO) part else (out, full) by unfold layP; rw [hLO, hHI])
  have hflt := World.block_lt_of_cell? W ⟨bf, 0, none⟩ hf
  have htlt := World.block_lt_of_cell? W ⟨bt, 0, none⟩ ht
  have hf2 := (Below.cell ((Below.refl W.heap.size W).alloc (Nat.le_refl _) (.cells #[.int .i64 (len : Nat), .int .i64 (part : Nat)] 55)) (p := ⟨bf, 0, none⟩) hflt).trans hf
  have ht2 := (Below.cell ((Below.refl W.heap.size W).alloc (Nat.le_refl _) (.cells #[.int .i64 (len : Nat), .int .i64 (part : Nat)] 55)) (p := ⟨bt, 0, none⟩) htlt).trans ht
  clear h hout hLO hHI
  by_cases hc : LO < HI
  · have hc1 : (LO : Int) < (HI : Int) := by omega
    have hA := hE.out
    rw [if_pos hc] at hA
    have HA := Aside0.mk hA
    have HAdd := Aside0.mk (fun (wx : World) (h1 : ∀ k, k < W.heap.size → wx.heap[k]? = W.heap[k]?) (h2 : W.heap.size ≤ wx.heap.size) => add_is base g V out most full (HI - LO) part wx (HJ.out.kept fun k hk _ => h1 k hk) (by omega) (by omega) HOut.out hn hm1)
    rw [show ((HI - LO : Nat) : Int) = (HI : Int) - (LO : Int) by omega] at HAdd
    clear hA hE
    go_enter Tryd.func45, Tryd.ntmps45
    go_wp2
    obtain ⟨w1, hw1⟩ : ∃ w1, W.alloc (.cells #[.int .i64 (len : Nat), .int .i64 (part : Nat)] 55) = w1 := ⟨_, rfl⟩
    have hbx : w1.heap[W.heap.size]? = some (.cells #[.int .i64 (len : Nat), .int .i64 (part : Nat)] 55 (0, 0)) := by rw [← hw1]; exact heap_alloc_new _ _
    have b0 := (blk_cell hbx 0).trans rfl
    have b1 := (blk_cell hbx 1).trans rfl
    have hk1 : ∀ k, k < W.heap.size → w1.heap[k]? = W.heap[k]? := fun k hk => by rw [← hw1]; exact Below.heap_alloc _ _ _ hk
    have hs1 : W.heap.size ≤ w1.heap.size := by rw [← hw1]; simp
    have ho1 : w1.os = W.os ∧ w1.tape = W.tape ∧ w1.output = W.output := by rw [← hw1]; exact ⟨rfl, rfl, rfl⟩
    rw [hw1] at hf2 ht2
    rw [hw1]
    have HK1 := Aside0.mk hk1
    clear hw1 hk1 hbx hf ht
    go_quiet (fail)
    go_wp2_with (go_at_call 46; refine (HAdd.out _ ?k1 ?k2).mono ?_; (case k1 => exact HK1.out); (case k2 => exact hs1); rintro e w' ⟨⟨v, rfl⟩, V', hJ', hA'⟩)
    go_end0
    rw [HA.out]
    exact ⟨⟨_, rfl⟩, V', hJ', hA'.back hs1 HK1.out ho1⟩
  · have hc1 : ¬ ((LO : Int) < (HI : Int)) := by omega
    have hA := hE.out
    rw [if_neg hc] at hA
    have HA := Aside0.mk hA
    clear hA hE
    go_enter Tryd.func45, Tryd.ntmps45
    go_wp2
    obtain ⟨w1, hw1⟩ : ∃ w1, W.alloc (.cells #[.int .i64 (len : Nat), .int .i64 (part : Nat)] 55) = w1 := ⟨_, rfl⟩
    have hbx : w1.heap[W.heap.size]? = some (.cells #[.int .i64 (len : Nat), .int .i64 (part : Nat)] 55 (0, 0)) := by rw [← hw1]; exact heap_alloc_new _ _
    have b0 := (blk_cell hbx 0).trans rfl
    have b1 := (blk_cell hbx 1).trans rfl
    have hk1 : ∀ k, k < W.heap.size → w1.heap[k]? = W.heap[k]? := fun k hk => by rw [← hw1]; exact Below.heap_alloc _ _ _ hk
    have hs1 : W.heap.size ≤ w1.heap.size := by rw [← hw1]; simp
    have ho1 : w1.os = W.os ∧ w1.tape = W.tape ∧ w1.output = W.output := by rw [← hw1]; exact ⟨rfl, rfl, rfl⟩
    rw [hw1] at hf2 ht2
    rw [hw1]
    have HK1 := Aside0.mk hk1
    clear hw1 hk1 hbx hf ht
    go_quiet (fail)
    go_wp2
    go_end0
    rw [HA.out]
    exact ⟨⟨_, rfl⟩, V, HJ.out.kept fun k hk _ => HK1.out k hk, (AddKeeps.refl _ _ _).back hs1 HK1.out ho1⟩
end Go.Proofs.YtmphhgcmmcomjaaDoor.B
namespace Go.Proofs.YtmphhgcmmcomjaaDoor.B
open Go.RowKit Go.Shelf Go.Proofs.YtmphhgcmmcomjaaDoorW.PrintWords Go.Proofs.YtmphhgcmmcomjaaDoorW.PrintLast Go.Proofs.YtmphhgcmmcomjaaDoorW.PrintMore

/-- What Runs's own variables hold. -/
structure RnAt (w : World) (a gj : Nat) (fr tb H : Nat) (Vj : Value) (sj : List (Nat × Nat) × Bool) (Vc : Value) (sc : List (Nat × Nat) × Bool) (W : World) : Prop where
  frm : W.heap[w.heap.size]? = some (.cells #[.int .i64 (fr : Nat)] 3 (0, 0))
  blw : W.heap[w.heap.size + 1]? = some (.cells #[.int .i64 (tb : Nat)] 3 (0, 0))
  hh : W.heap[a]? = some (.cells #[.int .i64 (H : Nat)] 3 (0, 0))
  fn : W.heap[gj + 1]? = some (.cells #[.func (.func 45) #[] #[.pointer (some ⟨w.heap.size, 0, none⟩), .pointer (some ⟨w.heap.size + 1, 0, none⟩), .pointer (some ⟨gj, 0, none⟩)]] 80 (0, 0))
  j : JnAt (gj + 8) gj Vj sj.1 65536 sj.2 W
  c : JnAt (gj + 8) (gj + 2) Vc sc.1 (2 * H) sc.2 W
  ap : ∀ k, some k = Vj.ownBlock → some k ≠ Vc.ownBlock
  bel : Below w.heap.size w W
  la : w.heap.size + 2 ≤ a
  lb : a < gj

theorem own2_base {w : World} {base e sz : Nat} {V : Value} {n : Nat} {xs : List Value} (h : w.ownsRow base e sz V n xs) : ∀ k, some k = V.ownBlock → base ≤ k ∧ k < w.heap.size ∧ ∃ cs, w.heap[k]? = some (.cells cs e (0, 0)) := by
  obtain ⟨h0, ⟨rfl, e⟩ | ⟨g, cap, cur, rfl, e2, e3, e4⟩⟩ := h
  · intro k hk; cases hk
  · intro k hk
    cases hk
    exact ⟨e2, blk_lt e3, cur, e3⟩

theorem RnAt.kept {w : World} {a gj fr tb H : Nat} {Vj Vc : Value} {sj sc : List (Nat × Nat) × Bool} {W W' : World} (h : RnAt w a gj fr tb H Vj sj Vc sc W) (hb : ∀ k, k < W.heap.size → (k < gj + 3 ∨ gj + 8 ≤ k) → W'.heap[k]? = W.heap[k]?) (hB : Below w.heap.size w W') : RnAt w a gj fr tb H Vj sj Vc sc W' := by
  have h1 := h.la
  have h2 := h.lb
  have g1 := blk_lt h.j.jn
  have g2 := blk_lt h.fn
  have g3 := blk_lt h.c.jn
  exact ⟨(hb _ (by omega) (by omega)).trans h.frm, (hb _ (by omega) (by omega)).trans h.blw, (hb _ (by omega) (by omega)).trans h.hh, (hb _ g2 (by omega)).trans h.fn,
    h.j.kept fun k hk e => hb k hk (by rcases e with rfl | e; omega; exact .inr (own2_base h.j.row k e).1), h.c.kept fun k hk e => hb k hk (by rcases e with rfl | e; omega; exact .inr (own2_base h.c.row k e).1), h.ap, hB, h1, h2⟩

theorem AddKeeps.bel {w W W' : World} {g n : Nat} {V V' : Value} {xs : List Value} {base e sz : Nat} (hk : AddKeeps W W' g V V') (hr : W.ownsRow base e sz V n xs) (hg : w.heap.size ≤ g) (hbs : w.heap.size ≤ base) (hB : Below w.heap.size w W) : Below w.heap.size w W' :=
  ⟨hk.oth.1.trans hB.os, hk.oth.2.1.trans hB.tape, hk.oth.2.2.trans hB.output, Nat.le_trans hB.size hk.size, fun k h => (hk.same k (Nat.lt_of_lt_of_le h hB.size) (by omega) (fun e => by have := (own2_base hr k e).1; omega)).trans (hB.block k h)⟩

theorem RnAt.lay {w : World} {a gj fr tb H : Nat} {Vj Vc Vj' : Value} {sj sc sj' : List (Nat × Nat) × Bool} {W W' : World} (h : RnAt w a gj fr tb H Vj sj Vc sc W) (hJ : JnAt (gj + 8) gj Vj' sj'.1 65536 sj'.2 W') (hk : AddKeeps W W' gj Vj Vj') : RnAt w a gj fr tb H Vj' sj' Vc sc W' := by
  have h1 := h.la
  have h2 := h.lb
  have g2 := blk_lt h.fn
  have g3 := blk_lt h.c.jn
  have same : ∀ k, k < W.heap.size → k ≠ gj → k < gj + 8 → W'.heap[k]? = W.heap[k]? := fun k h3 h4 h5 => hk.same k h3 h4 (fun e => by have := (own2_base h.j.row k e).1; omega)
  exact ⟨(same _ (by omega) (by omega) (by omega)).trans h.frm, (same _ (by omega) (by omega) (by omega)).trans h.blw, (same _ (by omega) (by omega) (by omega)).trans h.hh, (same _ g2 (by omega) (by omega)).trans h.fn, hJ,
    h.c.kept fun k hk2 e => by
      rcases e with rfl | e
      · exact same _ hk2 (by omega) (by omega)
      · exact hk.same k hk2 (by have := (own2_base h.c.row k e).1; omega) (fun e2 => h.ap k e2 e),
    fun k e e2 => by
      rcases hk.at_ with e3 | ⟨b, e3, e4⟩
      · exact h.ap k (by rw [← e3]; exact e) e2
      · rw [e3] at e
        cases e
        have := (own2_base h.c.row _ e2).2.1
        omega,
    hk.bel h.j.row (by omega) (by omega) h.bel, h1, h2⟩

theorem RnAt.add {w : World} {a gj fr tb H : Nat} {Vj Vc Vc' : Value} {sj sc sc' : List (Nat × Nat) × Bool} {W W' : World} (h : RnAt w a gj fr tb H Vj sj Vc sc W) (hJ : JnAt (gj + 8) (gj + 2) Vc' sc'.1 (2 * H) sc'.2 W') (hk : AddKeeps W W' (gj + 2) Vc Vc') : RnAt w a gj fr tb H Vj sj Vc' sc' W' := by
  have h1 := h.la
  have h2 := h.lb
  have g2 := blk_lt h.fn
  have g3 := blk_lt h.c.jn
  have same : ∀ k, k < W.heap.size → k ≠ gj + 2 → k < gj + 8 → W'.heap[k]? = W.heap[k]? := fun k h3 h4 h5 => hk.same k h3 h4 (fun e => by have := (own2_base h.c.row k e).1; omega)
  exact ⟨(same _ (by omega) (by omega) (by omega)).trans h.frm, (same _ (by omega) (by omega) (by omega)).trans h.blw, (same _ (by omega) (by omega) (by omega)).trans h.hh, (same _ g2 (by omega) (by omega)).trans h.fn,
    h.j.kept fun k hk2 e => by
      rcases e with rfl | e
      · exact same _ hk2 (by omega) (by omega)
      · exact hk.same k hk2 (by have := (own2_base h.j.row k e).1; omega) (fun e2 => h.ap k e e2), hJ,
    fun k e e2 => by
      rcases hk.at_ with e3 | ⟨b, e3, e4⟩
      · exact h.ap k e (by rw [← e3]; exact e2)
      · rw [e3] at e2
        cases e2
        have := (own2_base h.j.row _ e).2.1
        omega,
    hk.bel h.c.row (by omega) (by omega) h.bel, h1, h2⟩

theorem AddKeeps.keepsFrom {W W' : World} {g B base e sz n : Nat} {V V' : Value} {xs : List Value} (hk : AddKeeps W W' g V V') (hr : W.ownsRow base e sz V n xs) (hg : g < B) : KeepsFrom B W W' :=
  ⟨hk.size, fun k o hB h0 ho => by
    have hlt := blk_lt h0
    refine (hk.same k hlt (by omega) (fun e2 => ?_)).trans h0
    obtain ⟨_, _, cs, hc⟩ := own2_base hr k e2
    rw [h0] at hc
    cases hc
    cases ho⟩
theorem AddKeeps.pkp {W W' : World} {g base e sz n n0 m l : Nat} {V V' : Value} {xs : List Value} (hk : AddKeeps W W' g V V') (hr : W.ownsRow base e sz V n xs) (h1 : n0 ≤ g) (h2 : g < m) (h3 : l + 1 < base) (h4 : n0 ≤ base) : PKp n0 m l W W' :=
  ⟨hk.size, fun k hlt h => hk.same k hlt (by omega) (fun e2 => by have := (own2_base hr k e2).1; omega)⟩
/-- A block is no row of the two joiners. -/
def NoRow (gj b : Nat) (W : World) : Prop := ∀ g, (g = gj ∨ g = gj + 2) → ∀ V x y, W.heap[g]? = some (.cells #[V, x, y] 78 (0, 0)) → some b ≠ V.ownBlock
theorem RnAt.noRow {w : World} {a gj fr tb H : Nat} {Vj Vc : Value} {sj sc : List (Nat × Nat) × Bool} {W : World} (h : RnAt w a gj fr tb H Vj sj Vc sc W) (o : Obj) : NoRow gj W.heap.size (W.alloc o) := by
  rintro g (rfl | rfl) V x y hV e
  · rw [blk_alloc h.j.jn o] at hV
    cases hV
    have := (own2_base h.j.row _ e).2.1
    omega
  · rw [blk_alloc h.c.jn o] at hV
    cases hV
    have := (own2_base h.c.row _ e).2.1
    omega
theorem RnAt.noRow_j {w : World} {a gj fr tb H b : Nat} {Vj Vc : Value} {sj sc : List (Nat × Nat) × Bool} {W : World} (h : RnAt w a gj fr tb H Vj sj Vc sc W) (hn : NoRow gj b W) : some b ≠ Vj.ownBlock := hn gj (.inl rfl) _ _ _ h.j.jn
theorem RnAt.noRow_c {w : World} {a gj fr tb H b : Nat} {Vj Vc : Value} {sj sc : List (Nat × Nat) × Bool} {W : World} (h : RnAt w a gj fr tb H Vj sj Vc sc W) (hn : NoRow gj b W) : some b ≠ Vc.ownBlock := hn (gj + 2) (.inr rfl) _ _ _ h.c.jn

theorem own2_shape {w : World} {base e sz n : Nat} {V : Value} {xs : List Value} (h : w.ownsRow base e sz V n xs) : ∃ ao cap, V = .slice ao n cap ∧ (0 < n → ∃ r, ao = some ⟨r, 0, none⟩) := by
  obtain ⟨h0, ⟨e1, e2⟩ | ⟨g', cap', cur, e1, e2, e3, e4, e5⟩⟩ := h
  · subst e2; exact ⟨none, 0, e1, fun h => absurd h (Nat.lt_irrefl _)⟩
  · exact ⟨some ⟨g', 0, none⟩, cap', e1, fun _ => ⟨g', rfl⟩⟩
theorem flat_at : ∀ (l : List (Nat × Nat)) (i : Nat) (p : Nat × Nat), l[i]? = some p → (flat l)[i * 2]? = some (.int .i64 (p.1 : Nat)) ∧ (flat l)[i * 2 + 1]? = some (.int .i64 (p.2 : Nat))
  | [], i, p, h => by simp at h
  | q :: l, 0, p, h => by
    simp at h; subst h; exact ⟨rfl, rfl⟩
  | q :: l, i + 1, p, h => by
    have := flat_at l i p (by simpa using h)
    rw [show (i + 1) * 2 = i * 2 + 1 + 1 by omega]
    exact this

theorem own2_low {w : World} {base base' e sz : Nat} {V : Value} {n : Nat} {xs : List Value} (h : w.ownsRow base e sz V n xs) (hb : base' ≤ base) : w.ownsRow base' e sz V n xs := by
  obtain ⟨h0, h1 | ⟨g, cap, cur, e1, e2, e3⟩⟩ := h
  · exact ⟨h0, .inl h1⟩
  · exact ⟨h0, .inr ⟨g, cap, cur, e1, Nat.le_trans hb e2, e3⟩⟩
/-- What Runs hands back. -/
def RunsPost (w : World) (s : List (Nat × Nat) × Bool) (e : Ending) (w' : World) : Prop :=
  (∃ V : Value, e = .returned (.tuple #[V, .int .i64 (if s.2 = true then 1 else 0)]) ∧ w'.ownsRow w.heap.size 55 2 V (if s.2 = true then 0 else s.1.length) (if s.2 = true then [] else flat s.1)) ∧ Below w.heap.size w w'
theorem runs_end {w : World} {a gj fr tb H D : Nat} {Vj Vc : Value} {sj sc : List (Nat × Nat) × Bool} {W : World} (h : RnAt w a gj fr tb H Vj sj Vc sc W) (hD : W.heap[D]? = some (.deferred (some []))) (hd : w.heap.size ≤ D) :
    (sj.2 = true → RunsPost w sj (.returned (.tuple #[.slice none 0 0, .int .i64 1])) (W.putObj D (.deferred none))) ∧ (sj.2 = false → RunsPost w sj (.returned (.tuple #[Vj, .int .i64 0])) (W.putObj D (.deferred none))) := by
  have hB := h.bel.trans (below_put (.deferred none) hD hd)
  constructor
  · intro e
    refine ⟨⟨_, by rw [if_pos e], ?_⟩, hB⟩
    rw [if_pos e, if_pos e]; exact ⟨rfl, .inl ⟨rfl, rfl⟩⟩
  · intro e
    have e' : ¬ sj.2 = true := by rw [e]; simp
    refine ⟨⟨_, by rw [if_neg e'], ?_⟩, hB⟩
    rw [if_neg e', if_neg e']
    refine own2_low (own2_kept h.j.row fun k hk ho => World.putObj_heap_other (fun e2 => ?_)) (by have := h.la; have := h.lb; omega)
    obtain ⟨_, _, cs, hc⟩ := own2_base h.j.row k ho
    rw [e2, hD] at hc
    cases hc

/-! ### The plain runs -/
def tot : List (Nat × Nat) → Nat
  | [] => 0
  | p :: l => p.1 + tot l
theorem tot_append (a b : List (Nat × Nat)) : tot (a ++ b) = tot a + tot b := by
  induction a with
  | nil => simp [tot]
  | cons p a ih => show p.1 + tot (a ++ b) = p.1 + tot a + tot b; omega
theorem tot_mem {l : List (Nat × Nat)} {p : Nat × Nat} (h : p ∈ l) : p.1 ≤ tot l := by
  induction l with
  | nil => cases h
  | cons q l ih =>
    show p.1 ≤ q.1 + tot l
    rcases List.mem_cons.1 h with rfl | h
    · omega
    · have := ih h; omega
theorem addP_tot (most : Nat) (s : List (Nat × Nat) × Bool) (len part : Nat) : tot (addP most s len part).1 ≤ tot s.1 + len := by
  unfold addP
  by_cases c : len = 0
  · rw [if_pos c]; omega
  · rw [if_neg c]
    rcases List.eq_nil_or_concat s.1 with e | ⟨a, ⟨l, p⟩, e⟩
    · rw [e]; simp only [List.getLast?_nil]; split <;> simp [tot]
    · rw [List.concat_eq_append] at e
      rw [e]
      simp only [List.getLast?_append, List.getLast?_singleton, Option.some_or, List.dropLast_concat]
      split
      · rw [tot_append, tot_append]; simp [tot]; omega
      · split
        · show tot (a ++ [(l, p)]) ≤ _; omega
        · show tot (a ++ [(l, p)] ++ [(len, part)]) ≤ _; rw [tot_append _ [(len, part)]]; simp [tot]
theorem addP_len (most : Nat) (s : List (Nat × Nat) × Bool) (len part : Nat) (h : s.1.length ≤ most) : (addP most s len part).1.length ≤ most := by
  unfold addP
  by_cases c : len = 0
  · rw [if_pos c]; exact h
  · rw [if_neg c]
    rcases List.eq_nil_or_concat s.1 with e | ⟨a, ⟨l, p⟩, e⟩
    · rw [e] at h ⊢; simp only [List.getLast?_nil]; split
      · exact h
      · simp at *; omega
    · rw [List.concat_eq_append] at e
      rw [e] at h ⊢
      simp only [List.getLast?_append, List.getLast?_singleton, Option.some_or, List.dropLast_concat]
      split
      · simp at *; omega
      · split
        · exact h
        · simp at *; omega
theorem layP_tot (most fr tb : Nat) (s : List (Nat × Nat) × Bool) (at_ len part : Nat) : tot (layP most fr tb s at_ len part).1 ≤ tot s.1 + len := by
  unfold layP
  split
  · have := addP_tot most s (min (at_ + len) tb - max at_ fr) part; omega
  · omega
theorem layP_len (most fr tb : Nat) (s : List (Nat × Nat) × Bool) (at_ len part : Nat) (h : s.1.length ≤ most) : (layP most fr tb s at_ len part).1.length ≤ most := by
  unfold layP
  split
  · exact addP_len _ _ _ _ h
  · exact h

/-- One segment of the first 2 H ticks: what of it lies ahead of H is laid; what lies behind goes to the cycle. -/
def jStep (H fr tb : Nat) (s : List (Nat × Nat) × Bool) (x : Nat × Nat × Nat) : List (Nat × Nat) × Bool := if x.1 < H then layP 65536 fr tb s x.1 (min x.2.1 (H - x.1)) x.2.2 else s
def cStep (H : Nat) (s : List (Nat × Nat) × Bool) (x : Nat × Nat × Nat) : List (Nat × Nat) × Bool := if H < x.1 + x.2.1 then addP (2 * H) s (x.1 + x.2.1 - max x.1 H) x.2.2 else s
def jAll (H fr tb : Nat) (pre : List (Nat × Nat × Nat)) : List (Nat × Nat) × Bool := pre.foldl (jStep H fr tb) ([], false)
def cAll (H : Nat) (pre : List (Nat × Nat × Nat)) : List (Nat × Nat) × Bool := pre.foldl (cStep H) ([], false)
theorem jAll_snoc (H fr tb : Nat) (pre : List (Nat × Nat × Nat)) (x : Nat × Nat × Nat) : jAll H fr tb (pre ++ [x]) = jStep H fr tb (jAll H fr tb pre) x := by simp [jAll]
theorem cAll_snoc (H : Nat) (pre : List (Nat × Nat × Nat)) (x : Nat × Nat × Nat) : cAll H (pre ++ [x]) = cStep H (cAll H pre) x := by simp [cAll]

theorem all_bd (S : OccMath.Sv) (H fr tb lim : Nat) (hH : 1 ≤ H) : ∀ (rest pre : List (Nat × Nat × Nat)) (now : Nat), S.Cover lim now rest → tot (jAll H fr tb pre).1 ≤ now → tot (cAll H pre).1 ≤ now → (jAll H fr tb pre).1.length ≤ 65536 → (cAll H pre).1.length ≤ 2 * H →
    ∀ a x b, rest = a ++ x :: b → tot (jAll H fr tb (pre ++ a)).1 ≤ x.1 ∧ tot (cAll H (pre ++ a)).1 ≤ x.1 ∧ (jAll H fr tb (pre ++ a)).1.length ≤ 65536 ∧ (cAll H (pre ++ a)).1.length ≤ 2 * H
  | [], _, _, _, _, _, _, _, a, x, b, e => by simp at e
  | s :: rest, pre, now, ⟨e1, h2, h3, h4, h5⟩, t1, t2, l1, l2, a, x, b, e => by
    cases a with
    | nil =>
      simp only [List.nil_append, List.cons.injEq] at e
      obtain ⟨rfl, rfl⟩ := e
      rw [List.append_nil, e1]; exact ⟨t1, t2, l1, l2⟩
    | cons y a =>
      simp only [List.cons_append, List.cons.injEq] at e
      obtain ⟨rfl, rfl⟩ := e
      have ih := all_bd S H fr tb lim hH (a ++ x :: b) (pre ++ [s]) (now + s.2.1) h5
        (by rw [jAll_snoc]; unfold jStep; split
            · have := layP_tot 65536 fr tb (jAll H fr tb pre) s.1 (min s.2.1 (H - s.1)) s.2.2; omega
            · omega)
        (by rw [cAll_snoc]; unfold cStep; split
            · have := addP_tot (2 * H) (cAll H pre) (s.1 + s.2.1 - max s.1 H) s.2.2; omega
            · omega)
        (by rw [jAll_snoc]; unfold jStep; split
            · exact layP_len _ _ _ _ _ _ _ l1
            · exact l1)
        (by rw [cAll_snoc]; unfold cStep; split
            · exact addP_len _ _ _ _ l2
            · exact l2) a x b rfl
      rw [List.append_assoc] at ih
      exact ih

theorem all_end (S : OccMath.Sv) (H fr tb lim : Nat) : ∀ (rest pre : List (Nat × Nat × Nat)) (now : Nat), S.Cover lim now rest → tot (jAll H fr tb pre).1 ≤ now → tot (cAll H pre).1 ≤ now → now ≤ lim → (jAll H fr tb pre).1.length ≤ 65536 → (cAll H pre).1.length ≤ 2 * H →
    tot (jAll H fr tb (pre ++ rest)).1 ≤ lim ∧ tot (cAll H (pre ++ rest)).1 ≤ lim ∧ (jAll H fr tb (pre ++ rest)).1.length ≤ 65536 ∧ (cAll H (pre ++ rest)).1.length ≤ 2 * H
  | [], pre, now, _, t1, t2, h, l1, l2 => by rw [List.append_nil]; exact ⟨by omega, by omega, l1, l2⟩
  | s :: rest, pre, now, ⟨e1, h2, h3, h4, h5⟩, t1, t2, h, l1, l2 => by
    have ih := all_end S H fr tb lim rest (pre ++ [s]) (now + s.2.1) h5
      (by rw [jAll_snoc]; unfold jStep; split
          · have := layP_tot 65536 fr tb (jAll H fr tb pre) s.1 (min s.2.1 (H - s.1)) s.2.2; omega
          · omega)
      (by rw [cAll_snoc]; unfold cStep; split
          · have := addP_tot (2 * H) (cAll H pre) (s.1 + s.2.1 - max s.1 H) s.2.2; omega
          · omega) h3
      (by rw [jAll_snoc]; unfold jStep; split
          · exact layP_len _ _ _ _ _ _ _ l1
          · exact l1)
      (by rw [cAll_snoc]; unfold cStep; split
          · exact addP_len _ _ _ _ l2
          · exact l2)
    rw [List.append_assoc] at ih
    exact ih
theorem tot_take_succ (l : List (Nat × Nat)) (i : Nat) (h : i < l.length) : tot (l.take (i + 1)) = tot (l.take i) + (l[i]).1 := by
  rw [List.take_succ_eq_append_getElem h, tot_append]; simp [tot]
theorem tot_take_le (l : List (Nat × Nat)) (i : Nat) : tot (l.take i) ≤ tot l := by
  have := tot_append (l.take i) (l.drop i)
  rw [List.take_append_drop] at this
  omega

/-- A cycle's slots laid from a tick on. -/
def layC (fr tb : Nat) : List (Nat × Nat) → Nat → List (Nat × Nat) × Bool → List (Nat × Nat) × Bool
  | [], _, s => s
  | c :: l, at_, s => layC fr tb l (at_ + c.1) (layP 65536 fr tb s at_ c.1 c.2)
/-- Cycle behind cycle, till the span's end or till there are too many. -/
def turns (H fr tb : Nat) (cyc : List (Nat × Nat)) : Nat → Nat → List (Nat × Nat) × Bool → List (Nat × Nat) × Bool
  | 0, _, s => s
  | f + 1, k, s => if H + k * H < tb ∧ s.2 = false then turns H fr tb cyc f (k + 1) (layC fr tb cyc (H + k * H) s) else s
/-- What Runs comes to: the slots, and whether there are too many. -/
def runsV (l : List S30) (H fr tb : Nat) : List (Nat × Nat) × Bool :=
  if (cAll H (segs l H)).1.length = 1 then addP 65536 (jAll H fr tb (segs l H)) (tb - max fr H) (((cAll H (segs l H)).1.getD 0 (0, 0)).2)
  else turns H fr tb (cAll H (segs l H)).1 (tb + 1) ((fr - H) / H) (jAll H fr tb (segs l H))
theorem k0_plain (H fr : Nat) : mxI 0 (Int.tdiv ((fr : Int) - (H : Int)) (H : Int)) = (((fr - H) / H : Nat) : Int) := by
  by_cases c : H ≤ fr
  · rw [show (fr : Int) - (H : Int) = ((fr - H : Nat) : Int) by omega, ← Int.ofNat_tdiv]
    generalize (fr - H) / H = d
    unfold mxI; split <;> omega
  · rw [show fr - H = 0 by omega, Nat.zero_div]
    have e : (fr : Int) - (H : Int) = -((H - fr : Nat) : Int) := by omega
    rw [e, Int.neg_tdiv, ← Int.ofNat_tdiv]
    generalize (H - fr) / H = d
    unfold mxI; split <;> omega
end Go.Proofs.YtmphhgcmmcomjaaDoor.B
