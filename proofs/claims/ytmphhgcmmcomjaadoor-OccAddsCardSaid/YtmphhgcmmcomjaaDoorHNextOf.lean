/- Proved: the contract of occ.NextOf, in the form that printed texts cite. Condition: the variable errors.errorType holds what the program's text lays (GH). -/
import Derived.Test.YtmphhgcmmcomjaaDoorHAt
import Derived.Test.YtmphhgcmmcomjaaDoorHSupply2
import Derived.Test.YtmphhgcmmcomjaaDoorBx1
namespace Go.Proofs.YtmphhgcmmcomjaaDoor.B
open Go.RowKit Go.Shelf Go.Proofs.YtmphhgcmmcomjaaDoorW.PrintWords Go.Proofs.YtmphhgcmmcomjaaDoorW.PrintLast Go.Proofs.YtmphhgcmmcomjaaDoorW.PrintMore

/-- What NextOf's own variables hold. -/
structure NfAt (w : World) (a b : Nat) (q fr H F v1 v2 : Int) (W : World) : Prop where
  part : W.heap[w.heap.size]? = some (.cells #[.int .i64 q] 3 (0, 0))
  frm : W.heap[w.heap.size + 1]? = some (.cells #[.int .i64 fr] 3 (0, 0))
  r1 : W.heap[w.heap.size + 2]? = some (.cells #[.int .i64 v1] 3 (0, 0))
  r2 : W.heap[w.heap.size + 3]? = some (.cells #[.int .i64 v2] 23 (0, 0))
  hh : W.heap[a]? = some (.cells #[.int .i64 H] 3 (0, 0))
  at_ : W.heap[b]? = some (.cells #[.int .i64 F] 3 (0, 0))
  bel : Below w.heap.size w W
  la : w.heap.size + 4 ≤ a
  lb : a < b

theorem NfAt.kept {w : World} {a b : Nat} {q fr H F v1 v2 : Int} {W W' : World} (h : NfAt w a b q fr H F v1 v2 W) (hb : ∀ k, k ≤ b → W'.heap[k]? = W.heap[k]?) (hB : Below w.heap.size w W') : NfAt w a b q fr H F v1 v2 W' := by
  have h1 := h.la
  have h2 := h.lb
  exact ⟨(hb _ (by omega)).trans h.part, (hb _ (by omega)).trans h.frm, (hb _ (by omega)).trans h.r1, (hb _ (by omega)).trans h.r2, (hb _ (by omega)).trans h.hh, (hb _ (by omega)).trans h.at_, hB, h1, h2⟩
theorem NfAt.below {w : World} {a b B : Nat} {q fr H F v1 v2 : Int} {W W' : World} (h : NfAt w a b q fr H F v1 v2 W) (hb : Below B W W') (hB : b < B) : NfAt w a b q fr H F v1 v2 W' :=
  h.kept (fun k hk => hb.block k (by omega)) (h.bel.trans (hb.mono (by have := h.la; have := h.lb; omega)))
theorem NfAt.alloc {w : World} {a b : Nat} {q fr H F v1 v2 : Int} {W : World} (h : NfAt w a b q fr H F v1 v2 W) (o : Obj) : NfAt w a b q fr H F v1 v2 (W.alloc o) :=
  h.below ((Below.refl _ W).alloc (Nat.le_refl _) o) (blk_lt h.at_)
theorem NfAt.put {w : World} {a b : Nat} {q fr H F v1 v2 : Int} {W : World} (h : NfAt w a b q fr H F v1 v2 W) (u1 u2 : Int) : NfAt w a b q fr H F u1 u2 ((W.setCell ⟨w.heap.size + 2, 0, none⟩ (.int .i64 u1)).setCell ⟨w.heap.size + 3, 0, none⟩ (.int .i64 u2)) := by
  have h1 := h.la
  have h2 := h.lb
  have far : ∀ k cs t, k ≠ w.heap.size + 2 → k ≠ w.heap.size + 3 → W.heap[k]? = some (.cells cs t (0, 0)) → ((W.setCell ⟨w.heap.size + 2, 0, none⟩ (.int .i64 u1)).setCell ⟨w.heap.size + 3, 0, none⟩ (.int .i64 u2)).heap[k]? = some (.cells cs t (0, 0)) :=
    fun k cs t e1 e2 hk => blk_far (blk_far hk e1 _) e2 _
  exact ⟨far _ _ _ (by omega) (by omega) h.part, far _ _ _ (by omega) (by omega) h.frm, blk_far (blk_put h.r1 0 _ rfl) (by simp) _, blk_put (blk_far h.r2 (by simp) _) 0 _ rfl, far _ _ _ (by omega) (by omega) h.hh, far _ _ _ (by omega) (by omega) h.at_,
    (h.bel.setCell (p := ⟨w.heap.size + 2, 0, none⟩) (by simp) _).setCell (p := ⟨w.heap.size + 3, 0, none⟩) (by simp) _, h1, h2⟩

open OccMath in
theorem nextIn_snoc (q a : Nat) (x : Nat × Nat × Nat) : ∀ pre : List (Nat × Nat × Nat), nextIn q a pre = none → nextIn q a (pre ++ [x]) = if x.2.2 = q ∧ a < x.1 + x.2.1 then some (max x.1 a) else none
  | [], _ => rfl
  | s :: pre, h => by
    unfold nextIn at h
    by_cases c : s.2.2 = q ∧ a < s.1 + s.2.1
    · rw [if_pos c] at h; cases h
    · rw [if_neg c] at h
      show (if s.2.2 = q ∧ a < s.1 + s.2.1 then some (max s.1 a) else nextIn q a (pre ++ [x])) = _
      rw [if_neg c]; exact nextIn_snoc q a x pre h
open OccMath in
theorem nextIn_more (q a t : Nat) (rest : List (Nat × Nat × Nat)) : ∀ pre : List (Nat × Nat × Nat), nextIn q a pre = some t → nextIn q a (pre ++ rest) = some t
  | [], h => by simp [nextIn] at h
  | s :: pre, h => by
    show (if s.2.2 = q ∧ a < s.1 + s.2.1 then some (max s.1 a) else nextIn q a (pre ++ rest)) = _
    unfold nextIn at h
    by_cases c : s.2.2 = q ∧ a < s.1 + s.2.1
    · rw [if_pos c] at h ⊢; exact h
    · rw [if_neg c] at h ⊢; exact nextIn_more q a t rest pre h

def segs (l : List S30) (H : Nat) : List (Nat × Nat × Nat) := (sv l).play (2 * H) (2 * H) (fun _ => 0) 0
def soonI (t : Int) : Int := if 1099511627776 ≤ t then -1 else t
theorem soon_plain (t : Int) : occ_soon.f t = some (soonI t) := by
  unfold occ_soon.f soonI
  by_cases c : t ≥ 1099511627776
  · rw [if_pos c, if_pos c]
  · rw [if_neg c, if_neg c]

/-- The least tick of a partition from one on, folded, by the segments of 2 H ticks. -/
def nextV (l : List S30) (H q F : Nat) (fr : Int) : Int :=
  match OccMath.nextIn q F (segs l H) with
  | some t => soonI ((t : Int) + fr - (F : Int))
  | none => match OccMath.nextIn q H (segs l H) with
    | some t => soonI ((t : Int) + (H : Int) + fr - (F : Int))
    | none => -1

/-- What NextOf tells. -/
def occ_NextOf.f (l : List S30) (q fr : Int) : Option (Int × Int) :=
  some (if (hypS lcmF l).2 = 0 then (if q < 1 ∨ (l.length : Int) < q then (0, 220) else if fr < 0 ∨ 1099511627776 < fr then (0, 2) else (nextV l (hyp l) q.toNat (foldN fr.toNat (hyp l)) fr, 0)) else (0, (hypS lcmF l).2))

theorem results_two {P : Program} {fn : Func} {p p' : Tmp} {t t' : TypeId} (h : fn.results = #[.cell p t, .cell p' t']) (tmps : Array Value) (w : World) (g g' : Nat) (v v' : Value)
    (hp : tmps.getD p undef = .pointer (some ⟨g, 0, none⟩)) (hp' : tmps.getD p' undef = .pointer (some ⟨g', 0, none⟩)) (hv : (loadVar t ⟨g, 0, none⟩).run P w = .ok v w) (hv' : (loadVar t' ⟨g', 0, none⟩).run P w = .ok v' w) :
    (results fn tmps).run P w = .ok (.tuple #[v, v']) w := by
  have e1 : tmps[p]?.getD undef = .pointer (some ⟨g, 0, none⟩) := by simpa using hp
  have e2 : tmps[p']?.getD undef = .pointer (some ⟨g', 0, none⟩) := by simpa using hp'
  simp [results, h, e1, e2, asAddr, hv, hv']

/-- The greater. -/
def mxI (x y : Int) : Int := if x < y then y else x
theorem mxI_nat (x y : Nat) : mxI (x : Int) (y : Int) = (max x y : Nat) := by unfold mxI; split <;> omega
theorem max2_mx (k k' : IntKind) (x y : Int) : Builtin.max2 (.int k x) (.int k' y) = pure (.int k (mxI x y)) := max2_int k k' x y

theorem cover_bound (S : OccMath.Sv) (lim : Nat) : ∀ (l : List (Nat × Nat × Nat)) (now : Nat), S.Cover lim now l → ∀ x, x ∈ l → now ≤ x.1 ∧ 1 ≤ x.2.1 ∧ x.1 + x.2.1 ≤ lim
  | [], _, _, x, hx => by cases hx
  | s :: l, now, ⟨e1, h2, h3, h4, h5⟩, x, hx => by
    rcases List.mem_cons.1 hx with rfl | hx
    · exact ⟨by omega, h2, by omega⟩
    · have := cover_bound S lim l (now + s.2.1) h5 x hx
      omega

/-- The world where NextOf's first loop begins. -/
theorem next_world {w w1 w2 : World} {q fr h f : Int} {t4 : TypeId} {cs : Array Value} {w0 : World} (h0 : w0 = (((w.alloc (.cells #[.int .i64 q] 3)).alloc (.cells #[.int .i64 fr] 3)).alloc (.cells #[.int .i64 0] 3)).alloc (.cells #[.int .i64 0] 23))
    (hb : Below w0.heap.size w0 w1) (hd : Below (w1.alloc (.cells #[.int .i64 h] 3)).heap.size (w1.alloc (.cells #[.int .i64 h] 3)) w2) (_hc : cs = #[.int .i64 f]) (_ht : t4 = 3) :
    NfAt w w1.heap.size w2.heap.size q fr h f 0 0 (w2.alloc (.cells cs t4)) := by
  subst _hc _ht
  have e0 := heap_alloc_new w (.cells #[.int .i64 q] 3)
  have e1 := heap_alloc_new (w.alloc (.cells #[.int .i64 q] 3)) (.cells #[.int .i64 fr] 3)
  have e2 := heap_alloc_new ((w.alloc (.cells #[.int .i64 q] 3)).alloc (.cells #[.int .i64 fr] 3)) (.cells #[.int .i64 0] 3)
  have e3 := heap_alloc_new (((w.alloc (.cells #[.int .i64 q] 3)).alloc (.cells #[.int .i64 fr] 3)).alloc (.cells #[.int .i64 0] 3)) (.cells #[.int .i64 0] 23)
  simp only [World.size_alloc] at e1 e2 e3
  have z : w0.heap.size = w.heap.size + 4 := by rw [h0]; simp
  have b0 : Below w.heap.size w w0 := by rw [h0]; exact ((((Below.refl _ w).alloc (Nat.le_refl _) _).alloc (by simp) _).alloc (by simp; omega) _).alloc (by simp; omega) _
  have s1 := hb.size
  have s2 := hd.size
  simp only [World.size_alloc] at s2
  have e4 := heap_alloc_new w1 (.cells #[.int .i64 h] 3)
  have up : ∀ k o, k < w0.heap.size → w0.heap[k]? = some o → (w2.alloc (.cells #[.int .i64 f] 3)).heap[k]? = some o := fun k o hk ho =>
    blk_alloc ((hd.block k (by simp; omega)).trans (blk_alloc ((hb.block k hk).trans ho) _)) _
  subst h0
  exact ⟨up _ _ (by omega) (blk_alloc (blk_alloc (blk_alloc e0 _) _) _), up _ _ (by omega) (blk_alloc (blk_alloc e1 _) _), up _ _ (by omega) (blk_alloc e2 _), up _ _ (by omega) e3,
    blk_alloc ((hd.block _ (by simp)).trans e4) _, heap_alloc_new _ _,
    ((b0.trans (hb.mono (by omega))).alloc (by omega) _).trans ((hd.mono (by simp; omega)).alloc (by omega) _), by omega, by omega⟩

/-- The world where a loop over play begins, behind the two boxes. -/
theorem boxes_world {w3 w4 : World} {A0 : Option Addr} {n c0 : Nat} {lim : Int} {t1 t2 : TypeId} (hw : w4 = (w3.alloc (.cells #[.slice A0 n c0] t1)).alloc (.cells #[.int .i64 lim] t2)) :
    w4.heap.size = w3.heap.size + 2 ∧ w4.cell? ⟨w3.heap.size, 0, none⟩ = some (.slice A0 n c0) ∧ w4.cell? ⟨w3.heap.size + 1, 0, none⟩ = some (.int .i64 lim) ∧ Below w3.heap.size w3 w4 := by
  have c1 := heap_alloc_new w3 (.cells #[.slice A0 n c0] t1)
  have c2 := heap_alloc_new (w3.alloc (.cells #[.slice A0 n c0] t1)) (.cells #[.int .i64 lim] t2)
  rw [World.size_alloc] at c2
  subst hw
  exact ⟨by simp, (blk_cell (blk_alloc c1 _) 0).trans rfl, (blk_cell c2 0).trans rfl, ((Below.refl _ _).alloc (Nat.le_refl _) _).alloc (by simp) _⟩

attribute [local go_sem] Oper.semAt_some max2_mx max_two
set_option maxHeartbeats 8000000 in
set_option maxRecDepth 100000 in
theorem next_is (A0 : Option Addr) (c0 : Nat) (l0 : List S30) (q H F : Nat) (a2 : Int) (w : World) (HR : Aside0 (Kd.C k30 w A0 l0.length l0)) (HO : Aside0 (∀ i, i < l0.length → okAt l0 i = true)) (HBd : Aside0 (Bd (sv l0)))
    (hq1 : ¬ ((q : Int) < 1)) (hq2 : ¬ ((l0.length : Int) < (q : Int))) (h0 : ¬ (a2 < 0)) (h1 : ¬ ((1099511627776 : Int) < a2)) (hH : H ≤ 1048576) (hH1 : 1 ≤ H)
    (HH : Aside0 (∀ w1, Below w.heap.size w w1 → Calls Tryd.prog 10 #[.slice A0 l0.length c0] w1 fun e w' => e = .returned (.tuple #[.int .i64 (H : Nat), .int .i64 0]) ∧ Below w1.heap.size w1 w'))
    (HF : Aside0 (∀ w1, Calls Tryd.prog 35 #[.int .i64 a2, .int .i64 (H : Nat)] w1 fun e w' => e = .returned (.int .i64 (F : Nat)) ∧ Drawn0 w1 w')) (hF : F < 2 * H) :
    Calls Tryd.prog 28 #[.slice A0 l0.length c0, .int .i64 (q : Nat), .int .i64 a2] w fun e w' => e = .returned (.tuple #[.int .i64 (nextV l0 H q F a2), .int .i64 0]) ∧ Below w.heap.size w w' := by
  refine (callsIn_wide (n := 5)).1 ?_
  refine callsIn_of_wp_marks Tryd.func28 rfl trivial ?_ rfl
  simp only [Tryd.ntmps28, List.size_toArray, List.length_cons, List.length_nil, Nat.reduceAdd, Nat.reduceSub, Array.replicate_succ, Array.replicate_zero, List.push_toArray, List.append_toArray, List.nil_append, List.cons_append]
  gi_wp2
  refine ⟨trivial, ?_⟩
  gi_at_call 10
  refine (callsIn_wide.2 (HH.out _ ?hbb)).mono ?_
  case hbb => exact ((((Below.refl _ w).alloc (Nat.le_refl _) _).alloc (by simp) _).alloc (by simp; omega) _).alloc (by simp; omega) _
  rintro e w1 ⟨rfl, hb1⟩
  obtain ⟨w0, hw0⟩ : ∃ w0, (((w.alloc (.cells #[.int .i64 (q : Nat)] 3)).alloc (.cells #[.int .i64 a2] 3)).alloc (.cells #[.int .i64 0] 3)).alloc (.cells #[.int .i64 0] 23) = w0 := ⟨_, rfl⟩
  rw [hw0] at hb1
  have k0 : w0.heap.size = w.heap.size + 4 := by rw [← hw0]; simp
  have d0 : w0.heap[w.heap.size]? = some (.cells #[.int .i64 (q : Nat)] 3 (0, 0)) := by rw [← hw0]; exact blk_alloc (blk_alloc (blk_alloc (heap_alloc_new w _) _) _) _
  have d1 : w0.heap[w.heap.size + 1]? = some (.cells #[.int .i64 a2] 3 (0, 0)) := by
    have e1 := heap_alloc_new (w.alloc (.cells #[.int .i64 (q : Nat)] 3)) (.cells #[.int .i64 a2] 3)
    rw [World.size_alloc] at e1
    rw [← hw0]; exact blk_alloc (blk_alloc e1 _) _
  have c0' : (w1.alloc (.cells #[.int .i64 (H : Nat)] 3)).cell? ⟨w.heap.size, 0, none⟩ = some (.int .i64 (q : Nat)) := (blk_cell (blk_alloc ((hb1.block _ (by omega)).trans d0) _) 0).trans rfl
  have c1' : (w1.alloc (.cells #[.int .i64 (H : Nat)] 3)).cell? ⟨w.heap.size + 1, 0, none⟩ = some (.int .i64 a2) := (blk_cell (blk_alloc ((hb1.block _ (by omega)).trans d1) _) 0).trans rfl
  have hs1 : w.heap.size + 4 ≤ w1.heap.size := by have := hb1.size; omega
  clear d0 d1
  gi_wp2
  refine ⟨trivial, ?_⟩
  gi_at_call 35
  refine (callsIn_wide.2 (HF.out _)).mono ?_
  rintro e w2 ⟨rfl, hd⟩
  have hN := next_world (f := (F : Nat)) (cs := #[.int .i64 (F : Nat)]) (t4 := 3) hw0.symm hb1 hd.below rfl rfl
  have hs2 : w1.heap.size < w2.heap.size := hN.lb
  have HN := Aside0.mk hN
  have hh1 := (blk_cell hN.hh 0).trans rfl
  clear hb1 hd hN hw0 c0' c1'
  gi_wp2
  refine ⟨trivial, ?_⟩
  gi_at_call 34
  obtain ⟨w3, hw3⟩ : ∃ w3, w2.alloc (.cells #[.int .i64 (F : Nat)] 3) = w3 := ⟨_, rfl⟩
  have hs3 : w3.heap.size = w2.heap.size + 1 := by rw [← hw3]; simp
  rw [hw3] at HN hh1 ⊢
  clear hw3
  refine (callsIn_wide.2 (play_is _ _ _ _ _)).mono ?_
  rintro e w4 ⟨rfl, hw4⟩
  obtain ⟨hs4, hx1, hx2, hb4⟩ := boxes_world hw4
  have HN4 := Aside0.mk (HN.out.below hb4 (by omega))
  have HSv := Aside0.mk (srv_of HO.out HR.out (Nat.le_refl _))
  clear hw4 hb4 HN hh1
  rw [hs3] at hx1 hx2 hs4
  have hx2' : w4.cell? ⟨w2.heap.size + 1 + 1, 0, none⟩ = some (.int .i64 ((2 * H : Nat) : Int)) := hx2
  have hn4 := HN4.out.bel.size
  have HCov := Aside0.mk (cover_bound (sv l0) (2 * H) _ 0 ((sv l0).play_zero (fun i hi => (HBd.out.2 i hi).1) (2 * H) (2 * H) (Nat.le_refl _)))
  gi_wp2
  refine wpIn_rangeFunc_cells rfl (by omega) (gf := 54) (lb := #[.pointer (some ⟨w2.heap.size + 1, 0, none⟩), .pointer (some ⟨w2.heap.size + 1 + 1, 0, none⟩)]) rfl trivial (enters_of Tryd.func54 (by kernel_rfl) rfl)
    (play1_is w.heap.size (w2.heap.size + 1) (w2.heap.size + 1) (w2.heap.size + 1 + 1) A0 c0 l0 (2 * H) _ (by omega) HBd.out (by omega) w4 (HSv.out.kept fun k hk => HN4.out.bel.block k hk) hn4 hx1 hx2' (by omega) (by omega) (by omega) (by omega))
    PKp_t (fun W l o o' hl h _ _ => PKp_b (by omega) W l o o' hl h) (Below.refl _ _) (fun _ => rfl)
    (fun pre W => NfAt w w1.heap.size w2.heap.size (q : Nat) a2 (H : Nat) (F : Nat) 0 0 W ∧ OccMath.nextIn q F pre = none)
    (fun c pre W => c = .ret ∧ ∃ t, OccMath.nextIn q F pre = some t ∧ NfAt w w1.heap.size w2.heap.size (q : Nat) a2 (H : Nat) (F : Nat) (soonI ((t : Int) + a2 - (F : Int))) 0 W)
    (fun s A B h hb => ⟨h.1.below hb.toBelow (by omega), h.2⟩)
    (fun c s A B h hb => ⟨h.1, h.2.elim fun t ht => ⟨t, ht.1, ht.2.below hb.toBelow (by omega)⟩⟩) ⟨HN4.out, rfl⟩
    (fun x a' W => ∃ b, w4.heap.size + 2 ≤ b ∧ W.heap[b]? = some (.cells #[.int .i64 (x.2.1 : Nat), .int .i64 (x.2.2 : Nat)] 55 (0, 0)) ∧ a' = { tmps := #[.slice A0 l0.length c0, .int .i64 (q : Nat), .int .i64 a2, undef, .pointer (some ⟨w.heap.size, 0, none⟩), .pointer (some ⟨w.heap.size + 1, 0, none⟩), .pointer (some ⟨w.heap.size + 1 + 1, 0, none⟩), .pointer (some ⟨w.heap.size + 1 + 1 + 1, 0, none⟩), .pointer (some ⟨w1.heap.size, 0, none⟩), .int .i64 0, .pointer (some ⟨w2.heap.size, 0, none⟩), .int .i64 (x.1 : Nat), .pointer (some ⟨b, 0, none⟩), undef, undef, .tuple #[.int .i64 (H : Nat), .int .i64 0], .slice A0 l0.length c0, .tuple #[.int .i64 (H : Nat), .int .i64 0], .int .i64 (H : Nat), .int .i64 0, .bool false, .int .i64 0, .bool false, undef, .bool (decide (((q : Nat) : Int) < 1)), .int .i64 (q : Nat), .bool (decide (((q : Nat) : Int) < 1)), .bool (decide (((q : Nat) : Int) < 1)), .int .i64 (q : Nat), .slice A0 l0.length c0, .int .i64 (l0.length : Nat), .bool false, .bool (decide (((q : Nat) : Int) < 1)), .bool (decide (a2 < 0) || decide (1099511627776 < a2)), .int .i64 a2, .bool (decide (a2 < 0)), .bool (decide (a2 < 0)), .int .i64 a2, .bool (decide (1099511627776 < a2)), .bool (decide (a2 < 0) || decide (1099511627776 < a2)), .int .i64 a2, .int .i64 (H : Nat), .int .i64 (F : Nat), .slice A0 l0.length c0, .int .i64 (H : Nat), .int .i64 (2 * (H : Nat)), .func (.func 54) #[] #[.pointer (some ⟨w2.heap.size + 1, 0, none⟩), .pointer (some ⟨w2.heap.size + 1 + 1, 0, none⟩)], .int .i64 (x.1 : Nat), .agg #[.int .i64 (x.2.1 : Nat), .int .i64 (x.2.2 : Nat)], undef, undef, undef, undef, undef, undef, undef, undef, undef, undef, undef, undef, undef, undef, undef, undef, undef, undef, undef, undef, undef, undef, undef, undef, undef, undef, undef, undef, undef, undef, undef, undef, undef, undef, undef, undef, undef, undef, undef, undef, undef, undef, undef, undef, undef, undef, undef, undef], defers := [] })
    (fun x a' W o o' hl ho ⟨b, hb, h, e⟩ => ⟨b, hb, (World.putObj_heap_other (by omega)).trans h, e⟩) ?assign ?body ?done ?stop
  case assign =>
    intro pre x W K hi hsz hK
    dsimp only [encSeg]
    gi_wp2
    refine hK _ _ ((KeepsOthers.alloc _ _).from _) ⟨by simp, fun k hs hk => Below.heap_alloc _ _ _ hs⟩ ⟨hi.1.alloc _, hi.2⟩ ⟨W.heap.size, by omega, heap_alloc_new _ _, rfl⟩
  case body =>
    rintro pre x a' W - ⟨hN, hnone⟩ ⟨b, hb, hs, rfl⟩ ⟨rest, hRd⟩
    have hxb := (HCov.out x (by rw [hRd]; simp)).2.2
    have s0 := blk_cell hs 0
    have s1 := blk_cell hs 1
    have p0 := blk_cell hN.part 0
    have p1 := blk_cell hN.frm 0
    have p2 := blk_cell hN.at_ 0
    have u1 := blk_cell hN.r1 0
    have u2 := blk_cell hN.r2 0
    have v1 := blk_frozen hN.r1 0
    have v2 := blk_frozen hN.r2 0
    simp only [List.getElem?_toArray, List.getElem?_cons_zero, List.getElem?_cons_succ] at s0 s1 p0 p1 p2 u1 u2
    have hsn := nextIn_snoc q F x pre hnone
    have HN := Aside0.mk hN
    have HSN := Aside0.mk hsn
    clear hRd hN hsn hnone hs
    obtain ⟨x1, x2, x3⟩ := x
    dsimp only at hxb s0 s1 HSN
    by_cases hq : x3 = q
    · subst hq
      by_cases hat : F < x1 + x2
      · have hat1 : (F : Int) < (x1 : Int) + (x2 : Int) := by omega
        have hM := mxI_nat x1 F
        obtain ⟨M, hMe⟩ : ∃ M, max x1 F = M := ⟨_, rfl⟩
        rw [hMe] at hM
        have hMb : M ≤ 4194304 := by omega
        have hE := HSN.out
        rw [if_pos ⟨rfl, hat⟩, hMe] at hE
        have HE := Aside0.mk hE
        clear hE hMe HSN
        gi_wp2
        refine ⟨trivial, ?_⟩
        gi_at_call 50
        refine (CallsIn.inRound _ (callsIn_wide.2 (occ_soon.calls _ _ _ (soon_plain _)))).mono ?_
        rintro e w' ⟨rfl, ⟨nd, rfl⟩⟩
        gi_wp2
        have hk0 : KeepsOthers W (W.drewN nd) := ⟨Nat.le_refl _, fun _ _ h _ => h⟩
        exact ⟨((hk0.trans (KeepsOthers.setCell _ _ _)).trans (KeepsOthers.setCell _ _ _)).from _, rfl, M, HE.out, (HN.out.kept (W' := W.drewN nd) (fun _ _ => rfl) (pw_below_drewN HN.out.bel nd)).put _ _⟩
      · have hat1 : ¬ ((F : Int) < (x1 : Int) + (x2 : Int)) := by omega
        have hE := HSN.out
        rw [if_neg (fun h => hat h.2)] at hE
        have HE := Aside0.mk hE
        clear hE HSN
        gi_wp2
        exact ⟨KeepsFrom.refl _ _, ⟨Nat.le_refl _, fun k _ hk => rfl⟩, HN.out, HE.out⟩
    · have hq2 : ((x3 : Int) == (q : Int)) = false := by rw [beq_eq_false_iff_ne]; omega
      have hq3 : ¬ ((x3 : Int) = (q : Int)) := by omega
      have hE := HSN.out
      rw [if_neg (fun h => hq h.1)] at hE
      have HE := Aside0.mk hE
      clear hE HSN
      gi_wp2
      exact ⟨KeepsFrom.refl _ _, ⟨Nat.le_refl _, fun k _ hk => rfl⟩, HN.out, HE.out⟩
  case stop =>
    rintro D c pre W hD ⟨rest, hRd⟩ ⟨rfl, t, ht, hN⟩ hK
    gi_wp2
    have hN' := hN.kept (W' := W.putObj D (.deferred none)) (fun k hk => World.putObj_heap_other (by omega)) (hN.bel.trans (below_put _ hK (by omega)))
    have e1 := (blk_cell hN'.r1 0).trans rfl
    have e2 := (blk_cell hN'.r2 0).trans rfl
    refine ⟨by simp, .inl ⟨_, _, rfl, run_takeDeferred hK, ?_⟩⟩
    refine ⟨_, results_two rfl _ _ (w.heap.size + 2) (w.heap.size + 3) _ _ rfl rfl (by simp [go_sem, e1]; rfl) (by simp [go_sem, e2]; rfl), ?_, hN'.bel⟩
    have hv : nextV l0 H q F a2 = soonI ((t : Int) + a2 - (F : Int)) := by
      unfold nextV segs
      rw [hRd, nextIn_more _ _ _ _ _ ht]
    rw [hv]
  case done =>
    rintro D xs W hD rfl ⟨hN, hnone⟩ hK
    have hh1 := (blk_cell hN.hh 0).trans rfl
    have HN := Aside0.mk hN
    have HNone := Aside0.mk hnone
    have HK := Aside0.mk hK
    have hDl := blk_lt hK
    clear hN hnone hK HN4
    have hsW := HN.out.bel.size
    gi_wp2
    refine ⟨trivial, ?_⟩
    gi_at_call 34
    refine (callsIn_wide.2 (play_is _ _ _ _ _)).mono ?_
    rintro e w5 ⟨rfl, hw5⟩
    obtain ⟨hs5, hx3, hx4, hb5⟩ := boxes_world hw5
    have HN5 := Aside0.mk (HN.out.below hb5 (by omega))
    have HK5 := Aside0.mk ((hb5.block D hDl).trans HK.out)
    clear hw5 hb5 HN hh1 HK
    have hx4' : w5.cell? ⟨W.heap.size + 1, 0, none⟩ = some (.int .i64 ((2 * H : Nat) : Int)) := hx4
    have hn5 := HN5.out.bel.size
    gi_wp2
    refine wpIn_rangeFunc_cells rfl (by omega) (gf := 54) (lb := #[.pointer (some ⟨W.heap.size, 0, none⟩), .pointer (some ⟨W.heap.size + 1, 0, none⟩)]) rfl trivial (enters_of Tryd.func54 (by kernel_rfl) rfl)
      (play1_is w.heap.size W.heap.size W.heap.size (W.heap.size + 1) A0 c0 l0 (2 * H) _ (by omega) HBd.out (by omega) w5 (HSv.out.kept fun k hk => HN5.out.bel.block k hk) hn5 hx3 hx4' (by omega) (by omega) (by omega) (by omega))
      PKp_t (fun W l o o' hl h _ _ => PKp_b (by omega) W l o o' hl h) (Below.refl _ _) (fun _ => rfl)
      (fun pre W => NfAt w w1.heap.size w2.heap.size (q : Nat) a2 (H : Nat) (F : Nat) 0 0 W ∧ OccMath.nextIn q H pre = none ∧ W.heap[D]? = some (.deferred (some [])))
      (fun c pre W => c = .ret ∧ ∃ t, OccMath.nextIn q H pre = some t ∧ NfAt w w1.heap.size w2.heap.size (q : Nat) a2 (H : Nat) (F : Nat) (soonI ((t : Int) + (H : Int) + a2 - (F : Int))) 0 W ∧ W.heap[D]? = some (.deferred (some [])))
      (fun s A B h hb => ⟨h.1.below hb.toBelow (by omega), h.2.1, (hb.block D (by omega)).trans h.2.2⟩)
      (fun c s A B h hb => ⟨h.1, h.2.elim fun t ht => ⟨t, ht.1, ht.2.1.below hb.toBelow (by omega), (hb.block D (by omega)).trans ht.2.2⟩⟩) ⟨HN5.out, rfl, HK5.out⟩
      (fun x a' Wn => ∃ b, w5.heap.size + 2 ≤ b ∧ Wn.heap[b]? = some (.cells #[.int .i64 (x.2.1 : Nat), .int .i64 (x.2.2 : Nat)] 55 (0, 0)) ∧ a' = { tmps := #[.slice A0 l0.length c0, .int .i64 ((q : Nat) : Int), .int .i64 a2, undef, .pointer (some ⟨w.heap.size, 0, none⟩), .pointer (some ⟨w.heap.size + 1, 0, none⟩), .pointer (some ⟨w.heap.size + 1 + 1, 0, none⟩), .pointer (some ⟨w.heap.size + 1 + 1 + 1, 0, none⟩), .pointer (some ⟨w1.heap.size, 0, none⟩), .int .i64 0, .pointer (some ⟨w2.heap.size, 0, none⟩), undef, undef, .int .i64 (x.1 : Nat), .pointer (some ⟨b, 0, none⟩), .tuple #[.int .i64 ((H : Nat) : Int), .int .i64 0], .slice A0 l0.length c0, .tuple #[.int .i64 ((H : Nat) : Int), .int .i64 0], .int .i64 ((H : Nat) : Int), .int .i64 0, .bool false, .int .i64 0, .bool false, undef, .bool (decide (((q : Nat) : Int) < 1)), .int .i64 ((q : Nat) : Int), .bool (decide (((q : Nat) : Int) < 1)), .bool (decide (((q : Nat) : Int) < 1)), .int .i64 ((q : Nat) : Int), .slice A0 l0.length c0, .int .i64 ((l0.length : Nat) : Int), .bool false, .bool (decide (((q : Nat) : Int) < 1)), .bool (decide (a2 < 0) || decide (1099511627776 < a2)), .int .i64 a2, .bool (decide (a2 < 0)), .bool (decide (a2 < 0)), .int .i64 a2, .bool (decide (1099511627776 < a2)), .bool (decide (a2 < 0) || decide (1099511627776 < a2)), .int .i64 a2, .int .i64 ((H : Nat) : Int), .int .i64 ((F : Nat) : Int), .slice A0 l0.length c0, .int .i64 ((H : Nat) : Int), .int .i64 (2 * ((H : Nat) : Int)), .func (.func 54) #[] #[.pointer (some ⟨w2.heap.size + 1, 0, none⟩), .pointer (some ⟨w2.heap.size + 1 + 1, 0, none⟩)], undef, undef, undef, undef, undef, undef, undef, undef, undef, undef, undef, undef, undef, undef, undef, undef, undef, undef, undef, undef, undef, undef, .slice A0 l0.length c0, .int .i64 ((H : Nat) : Int), .int .i64 (2 * ((H : Nat) : Int)), .func (.func 54) #[] #[.pointer (some ⟨W.heap.size, 0, none⟩), .pointer (some ⟨W.heap.size + 1, 0, none⟩)], .int .i64 (x.1 : Nat), .agg #[.int .i64 (x.2.1 : Nat), .int .i64 (x.2.2 : Nat)], undef, undef, undef, undef, undef, undef, undef, undef, undef, undef, undef, undef, undef, undef, undef, undef, undef, undef, undef, undef, undef, undef], defers := [] })
      (fun x a' W o o' hl ho ⟨b, hb, h, e⟩ => ⟨b, hb, (World.putObj_heap_other (by omega)).trans h, e⟩) ?assign2 ?body2 ?done2 ?stop2
    case assign2 =>
      intro pre x W2 K hi hsz hK
      dsimp only [encSeg]
      gi_wp2
      refine hK _ _ ((KeepsOthers.alloc _ _).from _) ⟨by simp, fun k hs hk => Below.heap_alloc _ _ _ hs⟩ ⟨hi.1.alloc _, hi.2.1, blk_alloc hi.2.2 _⟩ ⟨W2.heap.size, by omega, heap_alloc_new _ _, rfl⟩
    case body2 =>
      rintro pre x a' W2 - ⟨hN, hnone, hKD⟩ ⟨b, hb, hs, rfl⟩ ⟨rest, hRd⟩
      have hxb := (HCov.out x (by rw [hRd]; simp)).2.2
      have s0 := blk_cell hs 0
      have s1 := blk_cell hs 1
      have p0 := blk_cell hN.part 0
      have p1 := blk_cell hN.frm 0
      have p2 := blk_cell hN.at_ 0
      have p3 := blk_cell hN.hh 0
      have u1 := blk_cell hN.r1 0
      have u2 := blk_cell hN.r2 0
      have v1 := blk_frozen hN.r1 0
      have v2 := blk_frozen hN.r2 0
      simp only [List.getElem?_toArray, List.getElem?_cons_zero, List.getElem?_cons_succ] at s0 s1 p0 p1 p2 p3 u1 u2
      have hsn := nextIn_snoc q H x pre hnone
      have HN := Aside0.mk hN
      have HSN := Aside0.mk hsn
      have HKD := Aside0.mk hKD
      clear hRd hN hsn hnone hs hKD
      obtain ⟨x1, x2, x3⟩ := x
      dsimp only at hxb s0 s1 HSN
      by_cases hq : x3 = q
      · subst hq
        by_cases hat : H < x1 + x2
        · have hat1 : (H : Int) < (x1 : Int) + (x2 : Int) := by omega
          have hM := mxI_nat x1 H
          obtain ⟨M, hMe⟩ : ∃ M, max x1 H = M := ⟨_, rfl⟩
          rw [hMe] at hM
          have hMb : M ≤ 4194304 := by omega
          have hE := HSN.out
          rw [if_pos ⟨rfl, hat⟩, hMe] at hE
          have HE := Aside0.mk hE
          clear hE hMe HSN
          gi_wp2
          refine ⟨trivial, ?_⟩
          gi_at_call 50
          refine (CallsIn.inRound _ (callsIn_wide.2 (occ_soon.calls _ _ _ (soon_plain _)))).mono ?_
          rintro e w' ⟨rfl, ⟨nd, rfl⟩⟩
          gi_wp2
          have hk0 : KeepsOthers W2 (W2.drewN nd) := ⟨Nat.le_refl _, fun _ _ h _ => h⟩
          exact ⟨((hk0.trans (KeepsOthers.setCell _ _ _)).trans (KeepsOthers.setCell _ _ _)).from _, rfl, M, HE.out, (HN.out.kept (W' := W2.drewN nd) (fun _ _ => rfl) (pw_below_drewN HN.out.bel nd)).put _ _,
            ((hk0.trans (KeepsOthers.setCell _ _ _)).trans (KeepsOthers.setCell _ _ _)).same D _ HKD.out rfl⟩
        · have hat1 : ¬ ((H : Int) < (x1 : Int) + (x2 : Int)) := by omega
          have hE := HSN.out
          rw [if_neg (fun h => hat h.2)] at hE
          have HE := Aside0.mk hE
          clear hE HSN
          gi_wp2
          exact ⟨KeepsFrom.refl _ _, ⟨Nat.le_refl _, fun k _ hk => rfl⟩, HN.out, HE.out, HKD.out⟩
      · have hq2 : ((x3 : Int) == (q : Int)) = false := by rw [beq_eq_false_iff_ne]; omega
        have hq3 : ¬ ((x3 : Int) = (q : Int)) := by omega
        have hE := HSN.out
        rw [if_neg (fun h => hq h.1)] at hE
        have HE := Aside0.mk hE
        clear hE HSN
        gi_wp2
        exact ⟨KeepsFrom.refl _ _, ⟨Nat.le_refl _, fun k _ hk => rfl⟩, HN.out, HE.out, HKD.out⟩
    case stop2 =>
      rintro D2 c pre W2 hD2 ⟨rest, hRd⟩ ⟨rfl, t, ht, hN, hKD⟩ hK2
      gi_wp2
      have hKD2 : (W2.putObj D2 (.deferred none)).heap[D]? = some (.deferred (some [])) := (World.putObj_heap_other (by omega)).trans hKD
      have hN' := hN.kept (W' := (W2.putObj D2 (.deferred none)).putObj D (.deferred none)) (fun k hk => (World.putObj_heap_other (by omega)).trans (World.putObj_heap_other (by omega))) ((hN.bel.trans (below_put _ hK2 (by omega))).trans (below_put _ hKD2 (by omega)))
      have e1 := (blk_cell hN'.r1 0).trans rfl
      have e2 := (blk_cell hN'.r2 0).trans rfl
      refine ⟨by simp, .inl ⟨_, _, rfl, run_takeDeferred hK2, ?_⟩⟩
      refine ⟨by simp, .inl ⟨_, _, rfl, run_takeDeferred hKD2, ?_⟩⟩
      refine ⟨_, results_two rfl _ _ (w.heap.size + 2) (w.heap.size + 3) _ _ rfl rfl (by simp [go_sem, e1]; rfl) (by simp [go_sem, e2]; rfl), ?_, hN'.bel⟩
      have hv : nextV l0 H q F a2 = soonI ((t : Int) + (H : Int) + a2 - (F : Int)) := by
        unfold nextV segs
        rw [HNone.out, hRd, nextIn_more _ _ _ _ _ ht]
      rw [hv]
    case done2 =>
      rintro D2 xs W2 hD2 rfl ⟨hN, hnone2, hKD⟩ hK2
      have u1 := blk_cell hN.r1 0
      have u2 := blk_cell hN.r2 0
      have v1 := blk_frozen hN.r1 0
      have v2 := blk_frozen hN.r2 0
      simp only [List.getElem?_toArray, List.getElem?_cons_zero] at u1 u2
      have HN := Aside0.mk hN
      have HNone2 := Aside0.mk hnone2
      have HKD := Aside0.mk hKD
      have HK2 := Aside0.mk hK2
      clear hN hnone2 hKD hK2
      gi_wp2
      have hP := HN.out.put (-1) 0
      have ko : KeepsOthers W2 ((W2.setCell ⟨w.heap.size + 2, 0, none⟩ (.int .i64 (-1))).setCell ⟨w.heap.size + 3, 0, none⟩ (.int .i64 0)) := (KeepsOthers.setCell _ _ _).trans (KeepsOthers.setCell _ _ _)
      have hK2 := ko.same D2 _ HK2.out rfl
      have hKD := ko.same D _ HKD.out rfl
      obtain ⟨W3, hW3⟩ : ∃ W3, (W2.setCell ⟨w.heap.size + 2, 0, none⟩ (.int .i64 (-1))).setCell ⟨w.heap.size + 3, 0, none⟩ (.int .i64 0) = W3 := ⟨_, rfl⟩
      rw [hW3] at hP hK2 hKD
      rw [hW3]
      have hKD2 : (W3.putObj D2 (.deferred none)).heap[D]? = some (.deferred (some [])) := (World.putObj_heap_other (by omega)).trans hKD
      have hN' := hP.kept (W' := (W3.putObj D2 (.deferred none)).putObj D (.deferred none)) (fun k hk => (World.putObj_heap_other (by omega)).trans (World.putObj_heap_other (by omega))) ((hP.bel.trans (below_put _ hK2 (by omega))).trans (below_put _ hKD2 (by omega)))
      have e1 := (blk_cell hN'.r1 0).trans rfl
      have e2 := (blk_cell hN'.r2 0).trans rfl
      refine ⟨by simp, .inl ⟨_, _, rfl, run_takeDeferred hK2, ?_⟩⟩
      refine ⟨by simp, .inl ⟨_, _, rfl, run_takeDeferred hKD2, ?_⟩⟩
      refine ⟨_, results_two rfl _ _ (w.heap.size + 2) (w.heap.size + 3) _ _ rfl rfl (by simp [go_sem, e1]; rfl) (by simp [go_sem, e2]; rfl), ?_, hN'.bel⟩
      have hv : nextV l0 H q F a2 = -1 := by
        unfold nextV segs
        rw [HNone.out, HNone2.out]
      rw [hv]
theorem err_world {w w1 : World} {q fr : Int} (hb : Below ((((w.alloc (.cells #[.int .i64 q] 3)).alloc (.cells #[.int .i64 fr] 3)).alloc (.cells #[.int .i64 0] 3)).alloc (.cells #[.int .i64 0] 23)).heap.size ((((w.alloc (.cells #[.int .i64 q] 3)).alloc (.cells #[.int .i64 fr] 3)).alloc (.cells #[.int .i64 0] 3)).alloc (.cells #[.int .i64 0] 23)) w1) (h : Int) :
    (w1.alloc (.cells #[.int .i64 h] 3)).heap[w.heap.size]? = some (.cells #[.int .i64 q] 3 (0, 0)) ∧ (w1.alloc (.cells #[.int .i64 h] 3)).heap[w.heap.size + 1]? = some (.cells #[.int .i64 fr] 3 (0, 0)) ∧
    (w1.alloc (.cells #[.int .i64 h] 3)).heap[w.heap.size + 2]? = some (.cells #[.int .i64 0] 3 (0, 0)) ∧ (w1.alloc (.cells #[.int .i64 h] 3)).heap[w.heap.size + 3]? = some (.cells #[.int .i64 0] 23 (0, 0)) ∧ Below w.heap.size w (w1.alloc (.cells #[.int .i64 h] 3)) := by
  obtain ⟨w2, hw2⟩ : ∃ w2, w1.alloc (.cells #[.int .i64 h] 3) = w2 := ⟨_, rfl⟩
  have hd : Below (w1.alloc (.cells #[.int .i64 h] 3)).heap.size (w1.alloc (.cells #[.int .i64 h] 3)) w2 := by rw [hw2]; exact Below.refl _ _
  have hN := next_world (f := 0) (cs := #[.int .i64 0]) (t4 := 3) rfl hb hd rfl rfl
  have hs := hb.size
  simp only [World.size_alloc] at hs
  have down : ∀ k, k < w2.heap.size → w2.heap[k]? = (w2.alloc (.cells #[.int .i64 0] 3)).heap[k]? := fun k hk => (Below.heap_alloc _ _ _ hk).symm
  have hs2 : w2.heap.size = w1.heap.size + 1 := by rw [← hw2]; simp
  rw [hw2]
  refine ⟨(down _ (by omega)).trans hN.part, (down _ (by omega)).trans hN.frm, (down _ (by omega)).trans hN.r1, (down _ (by omega)).trans hN.r2, ?_⟩
  rw [← hw2]
  exact (((((Below.refl _ w).alloc (Nat.le_refl _) _).alloc (by simp) _).alloc (by simp; omega) _).alloc (by simp; omega) _ |>.trans (hb.mono (by simp; omega))).alloc (by omega) _

set_option maxHeartbeats 8000000 in
set_option maxRecDepth 100000 in
theorem next_err (A0 : Option Addr) (c0 : Nat) (l0 : List S30) (a1 a2 h1 h2 r2 : Int) (w : World)
    (HH : Aside0 (∀ w1, Below w.heap.size w w1 → Calls Tryd.prog 10 #[.slice A0 l0.length c0] w1 fun e w' => e = .returned (.tuple #[.int .i64 h1, .int .i64 h2]) ∧ Below w1.heap.size w1 w'))
    (hc : (¬ (h2 = 0) ∧ r2 = h2) ∨ (h2 = 0 ∧ (a1 < 1 ∨ (l0.length : Int) < a1) ∧ r2 = 220) ∨ (h2 = 0 ∧ ¬ (a1 < 1) ∧ ¬ ((l0.length : Int) < a1) ∧ (a2 < 0 ∨ 1099511627776 < a2) ∧ r2 = 2)) :
    Calls Tryd.prog 28 #[.slice A0 l0.length c0, .int .i64 a1, .int .i64 a2] w fun e w' => e = .returned (.tuple #[.int .i64 0, .int .i64 r2]) ∧ Below w.heap.size w w' := by
  rcases hc with ⟨he, rfl⟩ | ⟨rfl, hq, rfl⟩ | ⟨rfl, hq1, hq2, hf, rfl⟩
  · have he1 : (r2 != 0) = true := by simpa using he
    refine (callsIn_wide (n := 5)).1 ?_
    refine callsIn_of_wp_marks Tryd.func28 rfl trivial ?_ rfl
    simp only [Tryd.ntmps28, List.size_toArray, List.length_cons, List.length_nil, Nat.reduceAdd, Nat.reduceSub, Array.replicate_succ, Array.replicate_zero, List.push_toArray, List.append_toArray, List.nil_append, List.cons_append]
    gi_wp2
    refine ⟨trivial, ?_⟩
    gi_at_call 10
    refine (callsIn_wide.2 (HH.out _ ?hbb)).mono ?_
    case hbb => exact ((((Below.refl _ w).alloc (Nat.le_refl _) _).alloc (by simp) _).alloc (by simp; omega) _).alloc (by simp; omega) _
    rintro e w1 ⟨rfl, hb1⟩
    obtain ⟨g0, g1, g2, g3, gB⟩ := err_world hb1 h1
    clear hb1
    have c0' := (blk_cell g0 0).trans rfl
    have c1' := (blk_cell g1 0).trans rfl
    have c2' := (blk_cell g2 0).trans rfl
    have c3' := (blk_cell g3 0).trans rfl
    have f2' := blk_frozen g2 0
    have f3' := blk_frozen g3 0
    have G2 := Aside0.mk g2
    have G3 := Aside0.mk g3
    have GB := Aside0.mk gB
    clear g0 g1 g2 g3 gB
    gi_wp2
    have z1 := (blk_cell (blk_far (blk_put G2.out 0 (.int .i64 0) rfl) (p := ⟨w.heap.size + 3, 0, none⟩) (by simp) (.int .i64 r2)) 0).trans rfl
    have z2 := (blk_cell (blk_put (blk_far G3.out (p := ⟨w.heap.size + 2, 0, none⟩) (by simp) (.int .i64 0)) 0 (.int .i64 r2) rfl) 0).trans rfl
    refine ⟨_, results_two rfl _ _ (w.heap.size + 2) (w.heap.size + 3) _ _ rfl rfl (by simp [go_sem, z1]) (by simp [go_sem, z2]), rfl, ?_⟩
    exact (GB.out.setCell (p := ⟨w.heap.size + 2, 0, none⟩) (by simp) _).setCell (p := ⟨w.heap.size + 3, 0, none⟩) (by simp) _
  · by_cases hq1 : a1 < 1
    · clear hq
      refine (callsIn_wide (n := 5)).1 ?_
      refine callsIn_of_wp_marks Tryd.func28 rfl trivial ?_ rfl
      simp only [Tryd.ntmps28, List.size_toArray, List.length_cons, List.length_nil, Nat.reduceAdd, Nat.reduceSub, Array.replicate_succ, Array.replicate_zero, List.push_toArray, List.append_toArray, List.nil_append, List.cons_append]
      gi_wp2
      refine ⟨trivial, ?_⟩
      gi_at_call 10
      refine (callsIn_wide.2 (HH.out _ ?hbb)).mono ?_
      case hbb => exact ((((Below.refl _ w).alloc (Nat.le_refl _) _).alloc (by simp) _).alloc (by simp; omega) _).alloc (by simp; omega) _
      rintro e w1 ⟨rfl, hb1⟩
      obtain ⟨g0, g1, g2, g3, gB⟩ := err_world hb1 h1
      clear hb1
      have c0' := (blk_cell g0 0).trans rfl
      have c1' := (blk_cell g1 0).trans rfl
      have c2' := (blk_cell g2 0).trans rfl
      have c3' := (blk_cell g3 0).trans rfl
      have f2' := blk_frozen g2 0
      have f3' := blk_frozen g3 0
      have G2 := Aside0.mk g2
      have G3 := Aside0.mk g3
      have GB := Aside0.mk gB
      clear g0 g1 g2 g3 gB
      gi_wp2
      have z1 := (blk_cell (blk_far (blk_put G2.out 0 (.int .i64 0) rfl) (p := ⟨w.heap.size + 3, 0, none⟩) (by simp) (.int .i64 220)) 0).trans rfl
      have z2 := (blk_cell (blk_put (blk_far G3.out (p := ⟨w.heap.size + 2, 0, none⟩) (by simp) (.int .i64 0)) 0 (.int .i64 220) rfl) 0).trans rfl
      refine ⟨_, results_two rfl _ _ (w.heap.size + 2) (w.heap.size + 3) _ _ rfl rfl (by simp [go_sem, z1]) (by simp [go_sem, z2]), rfl, ?_⟩
      exact (GB.out.setCell (p := ⟨w.heap.size + 2, 0, none⟩) (by simp) _).setCell (p := ⟨w.heap.size + 3, 0, none⟩) (by simp) _
    · have hq2 : (l0.length : Int) < a1 := by omega
      clear hq
      refine (callsIn_wide (n := 5)).1 ?_
      refine callsIn_of_wp_marks Tryd.func28 rfl trivial ?_ rfl
      simp only [Tryd.ntmps28, List.size_toArray, List.length_cons, List.length_nil, Nat.reduceAdd, Nat.reduceSub, Array.replicate_succ, Array.replicate_zero, List.push_toArray, List.append_toArray, List.nil_append, List.cons_append]
      gi_wp2
      refine ⟨trivial, ?_⟩
      gi_at_call 10
      refine (callsIn_wide.2 (HH.out _ ?hbb)).mono ?_
      case hbb => exact ((((Below.refl _ w).alloc (Nat.le_refl _) _).alloc (by simp) _).alloc (by simp; omega) _).alloc (by simp; omega) _
      rintro e w1 ⟨rfl, hb1⟩
      obtain ⟨g0, g1, g2, g3, gB⟩ := err_world hb1 h1
      clear hb1
      have c0' := (blk_cell g0 0).trans rfl
      have c1' := (blk_cell g1 0).trans rfl
      have c2' := (blk_cell g2 0).trans rfl
      have c3' := (blk_cell g3 0).trans rfl
      have f2' := blk_frozen g2 0
      have f3' := blk_frozen g3 0
      have G2 := Aside0.mk g2
      have G3 := Aside0.mk g3
      have GB := Aside0.mk gB
      clear g0 g1 g2 g3 gB
      gi_wp2
      have z1 := (blk_cell (blk_far (blk_put G2.out 0 (.int .i64 0) rfl) (p := ⟨w.heap.size + 3, 0, none⟩) (by simp) (.int .i64 220)) 0).trans rfl
      have z2 := (blk_cell (blk_put (blk_far G3.out (p := ⟨w.heap.size + 2, 0, none⟩) (by simp) (.int .i64 0)) 0 (.int .i64 220) rfl) 0).trans rfl
      refine ⟨_, results_two rfl _ _ (w.heap.size + 2) (w.heap.size + 3) _ _ rfl rfl (by simp [go_sem, z1]) (by simp [go_sem, z2]), rfl, ?_⟩
      exact (GB.out.setCell (p := ⟨w.heap.size + 2, 0, none⟩) (by simp) _).setCell (p := ⟨w.heap.size + 3, 0, none⟩) (by simp) _
  · by_cases hf1 : a2 < 0
    · clear hf
      refine (callsIn_wide (n := 5)).1 ?_
      refine callsIn_of_wp_marks Tryd.func28 rfl trivial ?_ rfl
      simp only [Tryd.ntmps28, List.size_toArray, List.length_cons, List.length_nil, Nat.reduceAdd, Nat.reduceSub, Array.replicate_succ, Array.replicate_zero, List.push_toArray, List.append_toArray, List.nil_append, List.cons_append]
      gi_wp2
      refine ⟨trivial, ?_⟩
      gi_at_call 10
      refine (callsIn_wide.2 (HH.out _ ?hbb)).mono ?_
      case hbb => exact ((((Below.refl _ w).alloc (Nat.le_refl _) _).alloc (by simp) _).alloc (by simp; omega) _).alloc (by simp; omega) _
      rintro e w1 ⟨rfl, hb1⟩
      obtain ⟨g0, g1, g2, g3, gB⟩ := err_world hb1 h1
      clear hb1
      have c0' := (blk_cell g0 0).trans rfl
      have c1' := (blk_cell g1 0).trans rfl
      have c2' := (blk_cell g2 0).trans rfl
      have c3' := (blk_cell g3 0).trans rfl
      have f2' := blk_frozen g2 0
      have f3' := blk_frozen g3 0
      have G2 := Aside0.mk g2
      have G3 := Aside0.mk g3
      have GB := Aside0.mk gB
      clear g0 g1 g2 g3 gB
      gi_wp2
      have z1 := (blk_cell (blk_far (blk_put G2.out 0 (.int .i64 0) rfl) (p := ⟨w.heap.size + 3, 0, none⟩) (by simp) (.int .i64 2)) 0).trans rfl
      have z2 := (blk_cell (blk_put (blk_far G3.out (p := ⟨w.heap.size + 2, 0, none⟩) (by simp) (.int .i64 0)) 0 (.int .i64 2) rfl) 0).trans rfl
      refine ⟨_, results_two rfl _ _ (w.heap.size + 2) (w.heap.size + 3) _ _ rfl rfl (by simp [go_sem, z1]) (by simp [go_sem, z2]), rfl, ?_⟩
      exact (GB.out.setCell (p := ⟨w.heap.size + 2, 0, none⟩) (by simp) _).setCell (p := ⟨w.heap.size + 3, 0, none⟩) (by simp) _
    · have hf2 : (1099511627776 : Int) < a2 := by omega
      clear hf
      refine (callsIn_wide (n := 5)).1 ?_
      refine callsIn_of_wp_marks Tryd.func28 rfl trivial ?_ rfl
      simp only [Tryd.ntmps28, List.size_toArray, List.length_cons, List.length_nil, Nat.reduceAdd, Nat.reduceSub, Array.replicate_succ, Array.replicate_zero, List.push_toArray, List.append_toArray, List.nil_append, List.cons_append]
      gi_wp2
      refine ⟨trivial, ?_⟩
      gi_at_call 10
      refine (callsIn_wide.2 (HH.out _ ?hbb)).mono ?_
      case hbb => exact ((((Below.refl _ w).alloc (Nat.le_refl _) _).alloc (by simp) _).alloc (by simp; omega) _).alloc (by simp; omega) _
      rintro e w1 ⟨rfl, hb1⟩
      obtain ⟨g0, g1, g2, g3, gB⟩ := err_world hb1 h1
      clear hb1
      have c0' := (blk_cell g0 0).trans rfl
      have c1' := (blk_cell g1 0).trans rfl
      have c2' := (blk_cell g2 0).trans rfl
      have c3' := (blk_cell g3 0).trans rfl
      have f2' := blk_frozen g2 0
      have f3' := blk_frozen g3 0
      have G2 := Aside0.mk g2
      have G3 := Aside0.mk g3
      have GB := Aside0.mk gB
      clear g0 g1 g2 g3 gB
      gi_wp2
      have z1 := (blk_cell (blk_far (blk_put G2.out 0 (.int .i64 0) rfl) (p := ⟨w.heap.size + 3, 0, none⟩) (by simp) (.int .i64 2)) 0).trans rfl
      have z2 := (blk_cell (blk_put (blk_far G3.out (p := ⟨w.heap.size + 2, 0, none⟩) (by simp) (.int .i64 0)) 0 (.int .i64 2) rfl) 0).trans rfl
      refine ⟨_, results_two rfl _ _ (w.heap.size + 2) (w.heap.size + 3) _ _ rfl rfl (by simp [go_sem, z1]) (by simp [go_sem, z2]), rfl, ?_⟩
      exact (GB.out.setCell (p := ⟨w.heap.size + 2, 0, none⟩) (by simp) _).setCell (p := ⟨w.heap.size + 3, 0, none⟩) (by simp) _

theorem occ_NextOf.calls (A0 : Option Addr) (c0 : Nat) (l0 : List S30) (a1 a2 : Int) (r1 : Int) (r2 : Int) (w : World) (hr0 : Kd.C k30 w A0 l0.length l0) (hc0 : l0.length ≤ c0) (hG : GH w) (h : occ_NextOf.f l0 a1 a2 = some (r1, r2)) :
    Calls Tryd.prog 28 #[.slice A0 l0.length c0, .int .i64 a1, .int .i64 a2] w fun e w' => e = .returned (.tuple #[.int .i64 r1, .int .i64 r2]) ∧ Below w.heap.size w w' := by
  have HH := Aside0.mk (fun (w1 : World) (hb : Below w.heap.size w w1) => check_Hyper.calls A0 c0 l0 (hypS lcmF l0).1 (hypS lcmF l0).2 w1 (Kd.C_below hr0 hb) hc0 (GH_below hG hb) rfl)
  unfold occ_NextOf.f at h
  by_cases he : (hypS lcmF l0).2 = 0
  · rw [if_pos he] at h
    rw [he] at HH
    by_cases hq : a1 < 1 ∨ (l0.length : Int) < a1
    · rw [if_pos hq] at h
      obtain ⟨rfl, rfl⟩ : 0 = r1 ∧ 220 = r2 := by simpa using h
      exact next_err A0 c0 l0 a1 a2 _ 0 220 w HH (.inr (.inl ⟨rfl, hq, rfl⟩))
    · rw [if_neg hq] at h
      by_cases hf : a2 < 0 ∨ 1099511627776 < a2
      · rw [if_pos hf] at h
        obtain ⟨rfl, rfl⟩ : 0 = r1 ∧ 2 = r2 := by simpa using h
        exact next_err A0 c0 l0 a1 a2 _ 0 2 w HH (.inr (.inr ⟨rfl, fun h => hq (.inl h), fun h => hq (.inr h), hf, rfl⟩))
      · rw [if_neg hf] at h
        obtain ⟨hbd, hok, hH1, hH2, hHe, hOk⟩ := ok_of_hyp l0 he
        rw [hHe] at HH
        simp only [Option.some.injEq, Prod.mk.injEq] at h
        obtain ⟨rfl, rfl⟩ := h
        obtain ⟨q, rfl⟩ : ∃ q : Nat, a1 = (q : Int) := ⟨a1.toNat, by omega⟩
        have e2 : a2 = ((a2.toNat : Nat) : Int) := by omega
        rw [Int.toNat_natCast]
        refine next_is A0 c0 l0 q (hyp l0) (foldN a2.toNat (hyp l0)) a2 w ⟨hr0⟩ ⟨hok⟩ ⟨hbd⟩ (fun h => hq (.inl h)) (fun h => hq (.inr h)) (fun h => hf (.inl h)) (fun h => hf (.inr h)) hH2 hH1 HH ⟨fun w1 => ?_⟩ (foldN_lt _ _ hH1)
        exact occ_fold.calls _ _ _ w1 (by rw [e2, Int.toNat_natCast]; exact fold_plain a2.toNat (hyp l0) hH1 hH2 (by omega))
  · rw [if_neg he] at h
    obtain ⟨rfl, rfl⟩ : 0 = r1 ∧ (hypS lcmF l0).2 = r2 := by simpa using h
    exact next_err A0 c0 l0 a1 a2 _ _ _ w HH (.inl ⟨he, rfl⟩)
end Go.Proofs.YtmphhgcmmcomjaaDoor.B
