/- Slots of two numbers in a row of the call's own, as plain facts of a world; slots.joined; no conditions but bounds. -/
import Derived.Test.YtckdjcidbpnfeaaDoorHMakeMath
import Derived.Test.YtckdjcidbpnfeaaDoorHStretch
import Derived.BigQuiet
import Derived.RegionTactic
import Derived.ChangeAlike
import Derived.Outline
namespace Go.Proofs.YtckdjcidbpnfeaaDoor.B
open Go.RowKit Go.Proofs.YtckdjcidbpnfeaaDoorW.PrintWords Go.Proofs.YtckdjcidbpnfeaaDoorW.PrintLast Go.Proofs.YtckdjcidbpnfeaaDoorW.PrintMore

def flat : List (Nat × Nat) → List Value
  | [] => []
  | p :: l => .int .i64 (p.1 : Nat) :: .int .i64 (p.2 : Nat) :: flat l
theorem flat_length : ∀ l, (flat l).length = l.length * 2
  | [] => rfl
  | p :: l => by show (flat l).length + 1 + 1 = _; rw [flat_length l, List.length_cons]; omega
theorem flat_append (a b : List (Nat × Nat)) : flat (a ++ b) = flat a ++ flat b := by
  induction a with
  | nil => rfl
  | cons p a ih => show _ :: _ :: flat (a ++ b) = _; rw [ih]; rfl
theorem flat_last (a : List (Nat × Nat)) (p : Nat × Nat) : (flat (a ++ [p]))[a.length * 2]? = some (.int .i64 (p.1 : Nat)) ∧ (flat (a ++ [p]))[a.length * 2 + 1]? = some (.int .i64 (p.2 : Nat)) := by
  rw [flat_append, List.getElem?_append_right (by rw [flat_length]; omega), List.getElem?_append_right (by rw [flat_length]; omega), flat_length]
  constructor
  · rw [Nat.sub_self]; rfl
  · rw [show a.length * 2 + 1 - a.length * 2 = 1 by omega]; rfl
theorem flat_set (a : List (Nat × Nat)) (l p m : Nat) : (flat (a ++ [(l, p)])).set (a.length * 2) (.int .i64 (m : Nat)) = flat (a ++ [(m, p)]) := by
  rw [flat_append, flat_append, List.set_append_right _ _ (by rw [flat_length]; omega), flat_length, Nat.sub_self]; rfl

/-- Slots laid behind one another, neighbours joined; too many are told. -/
theorem own2_kept {w1 w2 : World} {base e sz : Nat} {V : Value} {n : Nat} {xs : List Value} (h : w1.ownsRow base e sz V n xs) (hb : ∀ k, k < w1.heap.size → some k = V.ownBlock → w2.heap[k]? = w1.heap[k]?) : w2.ownsRow base e sz V n xs := by
  obtain ⟨h0, h1 | ⟨g, cap, cur, e1, e2, e3, e4⟩⟩ := h
  · exact ⟨h0, .inl h1⟩
  · subst e1
    exact ⟨h0, .inr ⟨g, cap, cur, rfl, e2, (hb g (blk_lt e3) rfl).trans e3, e4⟩⟩
theorem own2_set {w1 : World} {base e sz g n cap : Nat} {xs : List Value} (h : w1.ownsRow base e sz (.slice (some ⟨g, 0, none⟩) n cap) n xs) (j : Nat) (u : Value) : (w1.setCell ⟨g, j, none⟩ u).ownsRow base e sz (.slice (some ⟨g, 0, none⟩) n cap) n (xs.set j u) := by
  obtain ⟨h0, h1 | ⟨g', cap', cur, e1, e2, e3, e4, e5, e6, e7⟩⟩ := h
  · cases h1.1
  · cases e1
    refine ⟨by rw [List.length_set]; exact h0, .inr ⟨g, cap, _, rfl, e2, blk_set e3 j u, e4, e5, by simp; omega, ?_⟩⟩
    rw [Array.toList_setIfInBounds, List.take_set, e7]
theorem own2_cell {w1 : World} {base e sz g n cap : Nat} {xs : List Value} (h : w1.ownsRow base e sz (.slice (some ⟨g, 0, none⟩) n cap) n xs) (j : Nat) (u : Value) (hj : xs[j]? = some u) : w1.cell? ⟨g, j, none⟩ = some u ∧ w1.frozen? ⟨g, j, none⟩ = false := by
  obtain ⟨h0, h1 | ⟨g', cap', cur, e1, e2, e3, e4, e5, e6, e7⟩⟩ := h
  · cases h1.1
  · cases e1
    refine ⟨?_, blk_frozen e3 j⟩
    rw [blk_cell e3]
    rw [← e7, List.getElem?_take] at hj
    split at hj
    · rw [← Array.getElem?_toList]; exact hj
    · cases hj
theorem own2_some {w1 : World} {base e sz : Nat} {V : Value} {n : Nat} {xs : List Value} (h : w1.ownsRow base e sz V (n + 1) xs) : ∃ g cap, V = .slice (some ⟨g, 0, none⟩) (n + 1) cap ∧ base ≤ g ∧ n + 1 ≤ cap ∧ (∃ cur, w1.heap[g]? = some (.cells cur e (0, 0))) := by
  obtain ⟨h0, h1 | ⟨g', cap', cur, e1, e2, e3, e4, e5, e6, e7⟩⟩ := h
  · omega
  · exact ⟨g', cap', e1, e2, e4, cur, e3⟩
theorem infoSlot : (Tryd.prog.info? 72).map (fun i => (i.zero, i.size, i.bytes)) = some (some (.agg #[.int .i64 0, .int .i64 0]), 2, 16) := by kernel_rfl
theorem own2_base {w : World} {base e sz : Nat} {V : Value} {n : Nat} {xs : List Value} (h : w.ownsRow base e sz V n xs) : ∀ k, some k = V.ownBlock → base ≤ k ∧ k < w.heap.size ∧ ∃ cs, w.heap[k]? = some (.cells cs e (0, 0)) := by
  obtain ⟨h0, ⟨rfl, e⟩ | ⟨g, cap, cur, rfl, e2, e3, e4⟩⟩ := h
  · intro k hk; cases hk
  · intro k hk
    cases hk
    exact ⟨e2, blk_lt e3, cur, e3⟩
def toS (p : Nat × Nat) : S72 := ⟨(p.1 : Nat), (p.2 : Nat)⟩
theorem flat_drop : ∀ (l : List (Nat × Nat)) (j : Nat) (p : Nat × Nat), l[j]? = some p → ((flat l).drop (j * 2)).take 2 = [.int .i64 (p.1 : Nat), .int .i64 (p.2 : Nat)]
  | [], j, p, h => by simp at h
  | q :: l, 0, p, h => by
    simp at h; subst h; rfl
  | q :: l, j + 1, p, h => by
    have := flat_drop l j p (by simpa using h)
    rw [show (j + 1) * 2 = j * 2 + 1 + 1 by omega]
    exact this
theorem slots_R {w : World} {base : Nat} {V : Value} {l : List (Nat × Nat)} (h : w.ownsRow base 72 2 V l.length (flat l)) : Kd.R k72 72 w base (fun _ => True) V (l.map toS) := by
  refine ⟨fun _ _ => trivial, flat l, by rw [List.length_map]; exact h, by rw [flat_length, List.length_map]; rfl, fun j p hp => ?_⟩
  rw [List.getElem?_map] at hp
  cases e : l[j]? with
  | none => rw [e] at hp; cases hp
  | some q =>
    rw [e] at hp
    cases hp
    have := flat_drop l j q e
    show k72.M _ _ _ _ (((flat l).drop (j * 2)).take 2)
    rw [this]
    exact k72_mkM _ _ _ (toS q)

/-- What a call keeps that writes to one row alone. -/
structure RowKeeps (W W' : World) (V V' : Value) : Prop where
  at_ : V'.ownBlock = V.ownBlock ∨ ∃ b, V'.ownBlock = some b ∧ W.heap.size ≤ b
  size : W.heap.size ≤ W'.heap.size
  same : ∀ k, k < W.heap.size → some k ≠ V.ownBlock → W'.heap[k]? = W.heap[k]?
  oth : W'.os = W.os ∧ W'.tape = W.tape ∧ W'.output = W.output
theorem jn_nil (len p : Nat) (h : len ≠ 0) : jn [] len p = [(len, p)] := by unfold jn; rw [if_neg h]; rfl
theorem jn_same (l : List (Nat × Nat)) (n p len : Nat) : jn (l ++ [(n, p)]) len p = l ++ [(n + len, p)] := by
  unfold jn
  by_cases c : len = 0
  · rw [if_pos c, c]; rfl
  · rw [if_neg c, addL_snoc, if_pos rfl]
theorem jn_other (l : List (Nat × Nat)) (n q len p : Nat) (h : len ≠ 0) (hq : q ≠ p) : jn (l ++ [(n, q)]) len p = l ++ [(n, q)] ++ [(len, p)] := by
  unfold jn; rw [if_neg h, addL_snoc, if_neg hq]
theorem jn_none (l : List (Nat × Nat)) (p : Nat) : jn l 0 p = l := by unfold jn; rw [if_pos rfl]

set_option maxHeartbeats 8000000 in
set_option maxRecDepth 100000 in
theorem joinedS_is (base : Nat) (V : Value) (out : List (Nat × Nat)) (len part : Nat) (W : World) (h : W.ownsRow base 72 2 V out.length (flat out)) (hbase : base ≤ W.heap.size)
    (hlen : len ≤ 4398046511104) (hout : ∀ p, p ∈ out → p.1 ≤ 4398046511104) (hn : out.length ≤ 4194304) :
    Calls Tryd.prog 39 #[V, .agg #[.int .i64 (len : Nat), .int .i64 (part : Nat)]] W fun e W' =>
      ∃ V', e = .returned V' ∧ W'.ownsRow base 72 2 V' (jn out len part).length (flat (jn out len part)) ∧ RowKeeps W W' V V' := by
  have hu55 := Tryd.underlying72
  obtain ⟨w1, hw1⟩ : ∃ w1, W.alloc (.cells #[.int .i64 (len : Nat), .int .i64 (part : Nat)] 72) = w1 := ⟨_, rfl⟩
  have hbx : w1.heap[W.heap.size]? = some (.cells #[.int .i64 (len : Nat), .int .i64 (part : Nat)] 72 (0, 0)) := by rw [← hw1]; exact heap_alloc_new _ _
  have b0 := (blk_cell hbx 0).trans rfl
  have b1 := (blk_cell hbx 1).trans rfl
  have hB1 : Below W.heap.size W w1 := by rw [← hw1]; exact (Below.refl _ _).alloc (Nat.le_refl _) _
  have HB1 := Aside0.mk hB1
  have hrow1 := own2_kept h fun k hk _ => hB1.block k hk
  have HRow := Aside0.mk hrow1
  have HOL := Aside0.mk (own2_base h)
  have KP := Aside0.mk (show ∀ w2 V', w1.heap.size ≤ w2.heap.size → (∀ k, k < w1.heap.size → some k ≠ V.ownBlock → w2.heap[k]? = w1.heap[k]?) → (w2.os = w1.os ∧ w2.tape = w1.tape ∧ w2.output = w1.output) → (V'.ownBlock = V.ownBlock ∨ ∃ b, V'.ownBlock = some b ∧ W.heap.size ≤ b) → RowKeeps W w2 V V' from
    fun w2 V' h1 h2 h3 h4 => ⟨h4, Nat.le_trans hB1.size h1, fun k hk hne => (h2 k (Nat.lt_of_lt_of_le hk hB1.size) hne).trans (hB1.block k hk), h3.1.trans hB1.os, h3.2.1.trans hB1.tape, h3.2.2.trans hB1.output⟩)
  have hs1 : w1.heap.size = W.heap.size + 1 := by rw [← hw1]; simp
  have HS1 := Aside0.mk hs1
  clear hbx hB1 hrow1 hs1
  rcases List.eq_nil_or_concat out with rfl | ⟨init, x, rfl⟩
  · obtain ⟨A, c, rfl⟩ : ∃ A c, V = .slice A 0 c := by
      obtain ⟨_, ⟨rfl, e⟩ | ⟨g', cap', cur, e1, _⟩⟩ := h
      · exact ⟨none, 0, rfl⟩
      · exact ⟨_, _, e1⟩
    have HR0 := Aside0.mk (show w1.ownsRow base 72 2 (.slice A 0 c) 0 [] from HRow.out)
    clear h hout hn HRow
    by_cases hl0 : len = 0
    · subst hl0
      simp only [show ((0 : Nat) : Int) = 0 from rfl] at hw1 b0 ⊢
      go_enter Tryd.func39, Tryd.ntmps39
      go_wp2
      (try rw [hw1])
      clear hw1
      repeat (go_quiet (fail); try go_wp2)
      go_ret
      rw [jn_none]
      exact ⟨_, rfl, HR0.out, KP.out _ _ (Nat.le_refl _) (fun _ _ _ => rfl) ⟨rfl, rfl, rfl⟩ (.inl rfl)⟩
    · have hl1 : ¬ ((len : Int) = 0) := by omega
      have hl2 : ((len : Int) == 0) = false := by rw [beq_eq_false_iff_ne]; omega
      go_enter Tryd.func39, Tryd.ntmps39
      go_wp2
      (try rw [hw1])
      clear hw1
      go_quiet (fail)
      go_wp2_with ((with_reducible refine gate_builtin (b := .append) (xs := #[.tmp 37, .tmp 39]) rfl ?_); at_builtin; refine print_append_cells (w0 := w1.drewN nq) base rfl (.tmp 37) (.tmp 39) 25 72 (.agg #[.int .i64 0, .int .i64 0]) 2 16 rfl Tryd.underlying25 infoSlot rfl (by decide) (by decide) _ 0 [] [.int .i64 (len : Nat), .int .i64 (part : Nat)] rfl rfl rfl (by simp [Value.oneCell']) HR0.out (Below.refl _ _) (by have := HS1.out; show base ≤ w1.heap.size; omega) (by omega) ?_; intro v1 w2 hown hb1 hg1 hat1; have HO := Aside0.mk hown; have HB2 := Aside0.mk hb1; have HG2 := Aside0.mk hg1; have HT2 := Aside0.mk hat1; clear hown hb1 hg1 hat1)
      go_ret
      rw [jn_nil _ _ hl0]
      refine ⟨_, rfl, HO.out, KP.out _ _ HB2.out.size (fun k h1 h2 => HG2.out.block k h1 h2) ⟨HG2.out.os, HG2.out.tape, HG2.out.output⟩ ?_⟩
      rcases HT2.out with h | ⟨b, h1, h2⟩
      · exact .inl h
      · exact .inr ⟨b, h1, by have := HS1.out; have h3 : w1.heap.size ≤ b := h2; omega⟩
  · obtain ⟨l, p⟩ := x
    rw [List.concat_eq_append] at h hout hn HRow ⊢
    have hlast := flat_last init (l, p)
    obtain ⟨r, cap, rfl, hr1, hr2, cur, hr3⟩ := own2_some (n := init.length) (by have := h; rw [List.length_append] at this; exact this)
    have hrow : w1.ownsRow base 72 2 (.slice (some ⟨r, 0, none⟩) (init.length + 1) cap) (init.length + 1) (flat (init ++ [(l, p)])) := by have := HRow.out; rw [List.length_append] at this; exact this
    have q0 := own2_cell hrow _ _ hlast.1
    have q1 := own2_cell hrow _ _ hlast.2
    obtain ⟨q0, qf⟩ := q0
    have q1 := q1.1
    have hlb := hout (l, p) (by simp)
    have hnb : init.length + 1 ≤ 4194304 := by rw [List.length_append] at hn; exact hn
    have hne : ¬ (r = W.heap.size) := by
      intro e
      have := (HOL.out r rfl).2.1
      omega
    have hidx : IntKind.i64.wrap ((init.length : Int) + 1 - 1) = (init.length : Int) := (IntWalk.i64_in _ (by omega)).trans (by omega)
    have HR1 := Aside0.mk hrow
    dsimp only at q0 q1 hlb
    clear h hout hn hlast hr3 hrow HRow hidx
    by_cases hp : p = part
    · subst hp
      go_enter Tryd.func39, Tryd.ntmps39
      go_wp2
      (try rw [hw1])
      clear hw1
      go_quiet (fail)
      go_wp2
      go_region
      all_goals go_wp2
      all_goals go_ret
      all_goals rw [jn_same]
      all_goals
        have hs := own2_set HR1.out (init.length * 2) (.int .i64 ((l + len : Nat) : Int))
        rw [flat_set] at hs
        exact ⟨_, rfl, by rw [List.length_append]; exact hs, KP.out _ _ (by simp [World.setCell]) (fun k h1 h2 => Below.heap_setCell _ _ _ k (fun e => h2 (by rw [e]; rfl))) ⟨rfl, rfl, rfl⟩ (.inl rfl)⟩
    · have hp2 : ¬ ((p : Int) = (part : Int)) := by omega
      have hp3 : ((p : Int) == (part : Int)) = false := by rw [beq_eq_false_iff_ne]; omega
      by_cases hl0 : len = 0
      · subst hl0
        simp only [show ((0 : Nat) : Int) = 0 from rfl] at hw1 b0 ⊢
        go_enter Tryd.func39, Tryd.ntmps39
        go_wp2
        (try rw [hw1])
        clear hw1
        repeat (go_quiet (fail); try go_wp2)
        go_ret
        rw [jn_none]
        exact ⟨_, rfl, by rw [List.length_append]; exact HR1.out, KP.out _ _ (Nat.le_refl _) (fun _ _ _ => rfl) ⟨rfl, rfl, rfl⟩ (.inl rfl)⟩
      · have hl1 : ¬ ((len : Int) = 0) := by omega
        have hl2 : ((len : Int) == 0) = false := by rw [beq_eq_false_iff_ne]; omega
        go_enter Tryd.func39, Tryd.ntmps39
        go_wp2
        (try rw [hw1])
        clear hw1
        go_quiet (fail)
        go_wp2_with ((with_reducible refine gate_builtin (b := .append) (xs := #[.tmp 37, .tmp 39]) rfl ?_); at_builtin; refine print_append_cells (w0 := w1.drewN nq) base rfl (.tmp 37) (.tmp 39) 25 72 (.agg #[.int .i64 0, .int .i64 0]) 2 16 rfl Tryd.underlying25 infoSlot rfl (by decide) (by decide) _ (init.length + 1) (flat (init ++ [(l, p)])) [.int .i64 (len : Nat), .int .i64 (part : Nat)] rfl rfl rfl (by simp [Value.oneCell']) HR1.out (Below.refl _ _) (by have := HS1.out; show base ≤ w1.heap.size; omega) (by omega) ?_; intro v1 w2 hown hb1 hg1 hat1; have HO := Aside0.mk hown; have HB2 := Aside0.mk hb1; have HG2 := Aside0.mk hg1; have HT2 := Aside0.mk hat1; clear hown hb1 hg1 hat1)
        go_ret
        rw [jn_other _ _ _ _ _ hl0 hp]
        refine ⟨_, rfl, ?_, KP.out _ _ HB2.out.size (fun k h1 h2 => HG2.out.block k h1 h2) ⟨HG2.out.os, HG2.out.tape, HG2.out.output⟩ ?_⟩
        · have e2 := flat_append (init ++ [(l, p)]) [(len, part)]
          rw [List.length_append, List.length_append, e2]
          exact HO.out
        · rcases HT2.out with h | ⟨b, h1, h2⟩
          · exact .inl h
          · exact .inr ⟨b, h1, by have := HS1.out; have h3 : w1.heap.size ≤ b := h2; omega⟩
end Go.Proofs.YtckdjcidbpnfeaaDoor.B
