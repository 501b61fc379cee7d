/- Proved: the contract of occ.supplier.within, in the form that printed texts cite: the ticks of a partition below one. Conditions: servers that may be, an end of at most 2^22. -/
import Derived.Test.YtmphhgcmmcomjaaDoorHAt
namespace Go.Proofs.YtmphhgcmmcomjaaDoor.B
open Go.RowKit Go.Shelf Go.Proofs.YtmphhgcmmcomjaaDoorW.PrintWords Go.Proofs.YtmphhgcmmcomjaaDoorW.PrintLast Go.Proofs.YtmphhgcmmcomjaaDoorW.PrintMore

/-- May these servers be, each by itself and among the others? -/
def okL (l : List S30) : Bool := decide (l.length ≤ 32) && (List.range l.length).all (okAt l)
theorem okL_iff (l : List S30) : okL l = true ↔ l.length ≤ 32 ∧ ∀ i, i < l.length → okAt l i = true := by
  unfold okL; rw [Bool.and_eq_true, decide_eq_true_eq, all_ok]

def occ_supplier_within.f (_h _p _c : Int) (l : List S30) (q lim : Int) : Option Int :=
  if okL l = true ∧ 0 ≤ q ∧ 0 ≤ lim ∧ lim ≤ 4194304 then some (((sv l).count q.toNat 0 lim.toNat : Nat) : Int) else none

def sumOf (q : Nat) (pre : List (Nat × Nat × Nat)) : Nat := pre.foldl (fun n s => if s.2.2 = q then n + s.2.1 else n) 0
theorem sumOf_snoc (q : Nat) (pre : List (Nat × Nat × Nat)) (x : Nat × Nat × Nat) : sumOf q (pre ++ [x]) = if x.2.2 = q then sumOf q pre + x.2.1 else sumOf q pre := by simp [sumOf]
theorem sumOf_mono (q : Nat) (a b : List (Nat × Nat × Nat)) : sumOf q a ≤ sumOf q (a ++ b) := by
  unfold sumOf
  rw [List.foldl_append]
  generalize a.foldl (fun n s => if s.2.2 = q then n + s.2.1 else n) 0 = n
  induction b generalizing n with
  | nil => exact Nat.le_refl _
  | cons x b ih =>
    refine Nat.le_trans ?_ (ih _)
    dsimp only
    split <;> omega

theorem count_le (S : OccMath.Sv) (q a : Nat) : ∀ d, S.count q a d ≤ d
  | 0 => Nat.le_refl _
  | d + 1 => by
    have := count_le S q a d
    show S.count q a d + (if S.occ (a + d) = q then 1 else 0) ≤ _
    split <;> omega

theorem within_world {w w3 : World} {A0 : Option Addr} {n c0 : Nat} {lim : Int} {ss cs : Array Value} {u1 u t1 t2 : TypeId}
    (hw3 : w3 = ((((w.alloc (.cells ss u1)).alloc (.cells cs u)).alloc (.cells #[.slice A0 n c0] t1)).alloc (.cells #[.int .i64 lim] t2))) :
    w3.heap.size = w.heap.size + 4 ∧ w3.heap[w.heap.size]? = some (.cells ss u1 (0, 0)) ∧ w3.heap[w.heap.size + 1]? = some (.cells cs u (0, 0)) ∧ w3.cell? ⟨w.heap.size + 2, 0, none⟩ = some (.slice A0 n c0) ∧
    w3.cell? ⟨w.heap.size + 3, 0, none⟩ = some (.int .i64 lim) ∧ Below w.heap.size w w3 := by
  have e0 := heap_alloc_new w (.cells ss u1)
  have e1 := heap_alloc_new (w.alloc (.cells ss u1)) (.cells cs u)
  have e2 := heap_alloc_new ((w.alloc (.cells ss u1)).alloc (.cells cs u)) (.cells #[.slice A0 n c0] t1)
  have e3 := heap_alloc_new (((w.alloc (.cells ss u1)).alloc (.cells cs u)).alloc (.cells #[.slice A0 n c0] t1)) (.cells #[.int .i64 lim] t2)
  simp only [World.size_alloc] at e1 e2 e3
  subst hw3
  refine ⟨by simp, blk_alloc (blk_alloc (blk_alloc e0 _) _) _, blk_alloc (blk_alloc e1 _) _, (blk_cell (blk_alloc e2 _) 0).trans rfl, (blk_cell e3 0).trans rfl, ?_⟩
  exact ((((Below.refl _ w).alloc (Nat.le_refl _) _).alloc (by simp) _).alloc (by simp; omega) _).alloc (by simp; omega) _

attribute [local go_sem] Oper.semAt_some
set_option maxHeartbeats 4000000 in
set_option maxRecDepth 100000 in
theorem within_is (a0 a1 a2 : Int) (A0 : Option Addr) (c0 : Nat) (l0 : List S30) (q L : Nat) (w : World) (hr0 : Kd.C k30 w A0 l0.length l0) (hok : l0.length ≤ 32 ∧ ∀ i, i < l0.length → okAt l0 i = true) (hLb : L ≤ 4194304) :
    Calls Tryd.prog 56 #[.agg #[.int .i64 a0, .int .i64 a1, .int .i64 a2, .slice A0 l0.length c0, .int .i64 (q : Nat)], .int .i64 (L : Nat)] w fun e w' => e = .returned (.int .i64 ((sv l0).count q 0 L : Nat)) ∧ Below w.heap.size w w' := by
  have hbd := bd_of hok.1 hok.2
  have HSv := Aside0.mk (fun n0 (hn : w.heap.size ≤ n0) => srv_of hok.2 hr0 hn)
  have hV0 : sumOf q ((sv l0).play L L (fun _ => 0) 0) = (sv l0).count q 0 L := by
    unfold sumOf
    rw [(sv l0).cover_count q L _ 0 0 ((sv l0).play_zero (fun i hi => (hbd.2 i hi).1) L L (Nat.le_refl _)) (Nat.zero_le _), Nat.zero_add, Nat.sub_zero]
  have HV := Aside0.mk hV0
  have HVb := Aside0.mk (show ∀ pre rest, (sv l0).play L L (fun _ => 0) 0 = pre ++ rest → sumOf q pre ≤ L from fun pre rest e => by
    have h1 := sumOf_mono q pre rest
    rw [← e, hV0] at h1
    exact Nat.le_trans h1 (count_le _ _ _ _))
  have HBd := Aside0.mk hbd
  obtain ⟨V, hV⟩ : ∃ V, (sv l0).count q 0 L = V := ⟨_, rfl⟩
  rw [hV] at HV ⊢
  clear hV hV0 hok hbd hr0
  refine (callsIn_wide (n := 5)).1 ?_
  refine callsIn_of_wp_marks Tryd.func56 rfl trivial ?_ rfl
  simp only [Tryd.ntmps56, List.size_toArray, List.length_cons, List.length_nil, Nat.reduceAdd, Nat.reduceSub, Array.replicate_succ, Array.replicate_zero, List.push_toArray, List.append_toArray, List.nil_append, List.cons_append]
  have hu69 := Tryd.underlying69
  gi_wp2
  refine ⟨trivial, ?_⟩
  gi_at_call 34
  refine (callsIn_wide.2 (play_is _ _ _ _ _)).mono ?_
  rintro e w3 ⟨rfl, hw3⟩
  obtain ⟨q3, hsb, hcb, hx1, hx2, hB⟩ := within_world (w := w) hw3
  clear hw3
  gi_wp2
  have hs3 : Srv w.heap.size A0 l0 w3 := (HSv.out w.heap.size (Nat.le_refl _)).kept fun k hk => hB.block k hk
  refine wpIn_rangeFunc_cells rfl (by omega) (gf := 54) (lb := #[.pointer (some ⟨w.heap.size + 1 + 1, 0, none⟩), .pointer (some ⟨w.heap.size + 1 + 1 + 1, 0, none⟩)]) rfl trivial (enters_of Tryd.func54 (by kernel_rfl) rfl)
    (play1_is w.heap.size (w.heap.size + 2) (w.heap.size + 2) (w.heap.size + 3) A0 c0 l0 L _ (by omega) HBd.out hLb w3 hs3 (by omega) hx1 hx2 (by omega) (by omega) (by omega) (by omega))
    PKp_t (fun W l o o' hl h _ _ => PKp_b (by omega) W l o o' hl h) (Below.refl _ _) (fun _ => rfl)
    (fun pre W => W.heap[w.heap.size]? = some (.cells #[.int .i64 a0, .int .i64 a1, .int .i64 a2, .slice A0 l0.length c0, .int .i64 (q : Nat)] 69 (0, 0)) ∧ W.heap[w.heap.size + 1]? = some (.cells #[.int .i64 (sumOf q pre : Nat)] 3 (0, 0)) ∧ Below w.heap.size w W)
    (fun _ _ _ => False)
    (fun s A B h hb => ⟨(hb.block _ (by omega)).trans h.1, (hb.block _ (by omega)).trans h.2.1, h.2.2.trans (hb.toBelow.mono (by omega))⟩)
    (fun _ _ _ _ h _ => h) ⟨hsb, hcb, hB⟩
    (fun x a' W => ∃ b, w3.heap.size + 2 ≤ b ∧ W.heap[b]? = some (.cells #[.int .i64 (x.2.1 : Nat), .int .i64 (x.2.2 : Nat)] 55 (0, 0)) ∧ a' = { tmps := #[.agg #[.int .i64 a0, .int .i64 a1, .int .i64 a2, .slice A0 l0.length c0, .int .i64 (q : Nat)], .int .i64 (L : Nat), .pointer (some ⟨w.heap.size, 0, none⟩), undef, .int .i64 0, .pointer (some ⟨w.heap.size + 1, 0, none⟩), undef, .pointer (some ⟨b, 0, none⟩), .pointer (some ⟨w.heap.size, 3, none⟩), .slice A0 l0.length c0, .int .i64 (L : Nat), .func (.func 54) #[] #[.pointer (some ⟨w.heap.size + 1 + 1, 0, none⟩), .pointer (some ⟨w.heap.size + 1 + 1 + 1, 0, none⟩)], .int .i64 (x.1 : Nat), .agg #[.int .i64 (x.2.1 : Nat), .int .i64 (x.2.2 : Nat)], undef, undef, undef, undef, undef, undef, undef, undef, undef, undef], defers := [] })
    (fun x a' W o o' hl ho ⟨b, hb, h, e⟩ => ⟨b, hb, (World.putObj_heap_other (by omega)).trans h, e⟩) ?assign ?body ?done ?stop
  case assign =>
    intro pre x W K hi hsz hK
    dsimp only [encSeg]
    gi_wp2
    refine hK _ _ ((KeepsOthers.alloc _ _).from _) ⟨by simp, fun k hs hk => Below.heap_alloc _ _ _ hs⟩ ⟨blk_alloc hi.1 _, blk_alloc hi.2.1 _, hi.2.2.alloc (by have := hi.2.2.size; omega) _⟩ ⟨W.heap.size, by omega, heap_alloc_new _ _, rfl⟩
  case body =>
    rintro pre x a' W - ⟨hsu, hw, hBW⟩ ⟨b, hb, hs, rfl⟩ ⟨rest, hRd⟩
    have hb1 := HVb.out (pre ++ [x]) rest (by rw [hRd]; simp)
    rw [sumOf_snoc] at hb1
    have s0 := blk_cell hs 0
    have s1 := blk_cell hs 1
    have su := blk_cell hsu 4
    have fw := blk_frozen hw 0
    have cw := blk_cell hw 0
    simp only [List.getElem?_toArray, List.getElem?_cons_zero, List.getElem?_cons_succ] at s0 s1 su cw
    clear hRd
    obtain ⟨x1, x2, x3⟩ := x
    dsimp only at hb1 s0 s1 hs
    by_cases hq : x3 = q
    · subst hq
      rw [if_pos rfl] at hb1
      gi_wp2
      refine ⟨(KeepsOthers.setCell _ _ _).from _, ⟨by simp, fun k _ hk => Below.heap_setCell _ _ _ _ (by simp; omega)⟩, blk_far hsu (by simp) _, ?_, hBW.setCell (p := ⟨w.heap.size + 1, 0, none⟩) (by simp) _⟩
      rw [sumOf_snoc, if_pos rfl]
      exact blk_put hw 0 _ rfl
    · rw [if_neg hq] at hb1
      have hq2 : ((x3 : Int) == (q : Int)) = false := by rw [beq_eq_false_iff_ne]; omega
      have hq3 : ¬ ((x3 : Int) = (q : Int)) := by omega
      gi_wp2
      refine ⟨KeepsFrom.refl _ _, ⟨Nat.le_refl _, fun k _ hk => rfl⟩, hsu, ?_, hBW⟩
      rw [sumOf_snoc, if_neg hq]
      exact hw
  case done =>
    rintro D xs W hD rfl ⟨hsu, hw, hBW⟩ hK
    have cw := blk_cell hw 0
    simp only [List.getElem?_toArray, List.getElem?_cons_zero, HV.out] at cw
    gi_wp2
    refine ⟨by simp, .inl ⟨_, _, rfl, run_takeDeferred hK, ?_⟩⟩
    exact ⟨_, results_tmp rfl _ _ _, rfl, hBW.trans (below_put _ hK (by omega))⟩
  case stop =>
    rintro D c pre W _ _ h _
    exact h.elim

theorem occ_supplier_within.calls (a0_0 : Int) (a0_1 : Int) (a0_2 : Int) (A0_3 : Option Addr) (c0_3 : Nat) (l0_3 : List S30) (a0_4 : Int) (a1 : Int) (r : Int) (w : World) (hr0_3 : Kd.C k30 w A0_3 l0_3.length l0_3) (_hc0_3 : l0_3.length ≤ c0_3) (h : occ_supplier_within.f a0_0 a0_1 a0_2 l0_3 a0_4 a1 = some r) :
    Calls Tryd.prog 56 #[.agg #[.int .i64 a0_0, .int .i64 a0_1, .int .i64 a0_2, .slice A0_3 l0_3.length c0_3, .int .i64 a0_4], .int .i64 a1] w fun e w' => e = .returned (.int .i64 r) ∧ Below w.heap.size w w' := by
  unfold occ_supplier_within.f at h
  by_cases c : okL l0_3 = true ∧ 0 ≤ a0_4 ∧ 0 ≤ a1 ∧ a1 ≤ 4194304
  · rw [if_pos c] at h
    obtain rfl := Option.some.inj h
    obtain ⟨c1, c2, c3, c4⟩ := c
    have := within_is a0_0 a0_1 a0_2 A0_3 c0_3 l0_3 a0_4.toNat a1.toNat w hr0_3 ((okL_iff _).1 c1) (by omega)
    rw [Int.toNat_of_nonneg c2, Int.toNat_of_nonneg c3] at this
    exact this
  · rw [if_neg c] at h; cases h
end Go.Proofs.YtmphhgcmmcomjaaDoor.B
