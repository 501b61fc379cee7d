/- Proved: the contract of slots.own: the parts lie in new memory. Conditions: bounds of the lengths. -/
import Derived.Test.YtckdjcidbpnfeaaDoorHJoin13
import Derived.Laws.Slices
import Derived.Laws.MakeOwn
import Derived.Deep.CutBlock
import Derived.Deep.DeepCutAuto
namespace Go.Proofs.YtckdjcidbpnfeaaDoor.B
open Go.RowKit Go.Proofs.YtckdjcidbpnfeaaDoorW.PrintWords Go.Proofs.YtckdjcidbpnfeaaDoorW.PrintLast Go.Proofs.YtckdjcidbpnfeaaDoorW.PrintMore

/-- A row that is read, in blocks of its elements' type. -/
def TV {α : Type} (d : Kd α) (e : Nat) (W : World) (_base : Nat) (ok : Nat → Prop) (v : Value) (xs : List α) : Prop :=
  ∃ A c, v = .slice A xs.length c ∧ xs.length ≤ c ∧ ∃ ok1 : Nat → Prop, Kd.F d W ok1 A xs.length xs ∧ ∀ k, ok1 k → ok k ∧ k < W.heap.size ∧ ∃ cells, W.heap[k]? = some (.cells cells e (0, 0))
section
variable {α : Type} {d : Kd α} {e base base' n c : Nat} {ok ok' : Nat → Prop} {W w1 : World} {A : Option Addr} {v : Value} {xs : List α}
theorem TV_step (h : TV d e W base ok v xs) (hm : ∀ k, ok k → k < W.heap.size → w1.heap[k]? = W.heap[k]?) : TV d e w1 base ok v xs := by
  obtain ⟨A, c, h1, h2, ok1, h3, h4⟩ := h
  refine ⟨A, c, h1, h2, ok1, Kd.F_step h3 fun k hk hlt => hm k (h4 k hk).1 hlt, fun k hk => ?_⟩
  obtain ⟨a, b, cells, hc⟩ := h4 k hk
  have e1 := (hm k a b).trans hc
  exact ⟨a, (Array.getElem?_eq_some_iff.1 e1).1, cells, e1⟩
theorem TV_below (h : TV d e W base ok v xs) (hb : Below W.heap.size W w1) : TV d e w1 base ok v xs := TV_step h fun k _ hlt => hb.block k hlt
theorem TV_alloc (h : TV d e W base ok v xs) (o : Obj) : TV d e (W.alloc o) base ok v xs := TV_below h (below_alloc (Below.refl _ _) o)
theorem TV_drew (h : TV d e W base ok v xs) : TV d e W.drew base ok v xs := TV_below h (below_drew (Below.refl _ _))
theorem TV_drewN (h : TV d e W base ok v xs) (m : Nat) : TV d e (W.drewN m) base ok v xs := TV_below h (pw_below_drewN (Below.refl _ _) m)
theorem TV_lower (h : TV d e W base ok v xs) (_ : base' ≤ base) : TV d e W base' ok v xs := h
theorem TV_mono (h : TV d e W base ok v xs) (hok : ∀ k, ok k → ok' k) : TV d e W base ok' v xs := by
  obtain ⟨A, c, h1, h2, ok1, h3, h4⟩ := h
  exact ⟨A, c, h1, h2, ok1, h3, fun k hk => ⟨hok k (h4 k hk).1, (h4 k hk).2⟩⟩
theorem TV_slice (h : TV d e W base ok v xs) : ∃ A c, v = .slice A xs.length c := by
  obtain ⟨A, c, h1, _⟩ := h
  exact ⟨A, c, h1⟩
theorem TV_reads' (h : TV d e W base ok (.slice A n c) xs) : n = xs.length ∧ n ≤ c ∧ d.C W A xs.length xs := by
  obtain ⟨A', c', h1, h2, ok1, h3, h4⟩ := h
  cases h1
  exact ⟨rfl, h2, Kd.F_now h3⟩
theorem TV_far (h : TV d e W base ok v xs) {p : Addr} (hok : ∀ k, ok k → k ≠ p.block) (u : Value) : TV d e (W.setCell p u) base ok v xs := TV_step h fun k hk _ => Below.heap_setCell W p u k (hok k hk)
theorem TV_types (h : TV d e W base ok v xs) {g t : Nat} {cells : Array Value} (hb : W.heap[g]? = some (.cells cells t (0, 0))) (ht : ∀ q, q ∈ e :: d.E → q ≠ t) : TV d e W base (fun k => ok k ∧ k ≠ g) v xs := by
  obtain ⟨A, c, h1, h2, ok1, h3, h4⟩ := h
  refine ⟨A, c, h1, h2, ok1, h3, fun k hk => ?_⟩
  obtain ⟨a, b, cs, hc⟩ := h4 k hk
  refine ⟨⟨a, ?_⟩, b, cs, hc⟩
  rintro rfl
  rw [hc] at hb
  injection hb with hb
  injection hb with _ hb
  exact ht e (by simp) hb
theorem TV_nil : TV d e W base ok (.slice none 0 0) [] := ⟨none, 0, rfl, Nat.le_refl _, fun _ => False, Kd.F_nil d W _, fun _ h => h.elim⟩
/-- A row of the call's own, whose elements lead nowhere, cut at its length. -/
theorem TV_of_R (hE : d.E = []) (h : Kd.R d e W base ok (.slice A n c) xs) : TV d e W base ok (.slice A n n) xs := by
  have hl := (Kd.R_reads' h).1
  have hb := Kd.R_F (Kd.R_bound h)
  refine ⟨A, n, by rw [hl], by omega, _, by rw [← hl]; exact hb, ?_⟩
  rintro k ⟨h1, h2, h3, q, hq, cells, hc⟩
  rw [hE] at hq
  rw [List.mem_singleton] at hq
  subst hq
  exact ⟨h1, h3, cells, hc⟩
end
theorem cut_tom {P : Program} (t e : TypeId) (kh km : IntKind) {i : TypeInfo} (ht : P.underlying t = some (.slice e)) (hi : P.info? e = some i) (A : Option Addr) (n c : Nat) (j : Int) (h0 : 0 ≤ j) (hm : j ≤ n) (hc : n ≤ c) :
    ∀ W : World, (Instr.slice t (.slice A n c) none (some (.int kh j)) (some (.int km j))).run P W = .ok (.slice A j.toNat j.toNat) W := by
  intro W
  have hel : P.elem t = e := by simp [Program.elem, ht]
  have hu : P.underlying t = some (.slice (P.elem t)) := by rw [hel]; exact ht
  have ha : (A.map fun x => x.add 0) = A := by cases A <;> simp [Addr.add]
  rw [run_slice_hm W t A n c hu kh km j j h0 (by omega) (by omega), hel]
  simp [sizeOf, typeInfo, hi, sliced, Result.andThen, ha]
theorem kSlot_E : k72.E = [] := rfl

set_option maxHeartbeats 8000000 in
set_option maxRecDepth 100000 in
theorem own_is (A1 : Option Addr) (c1 : Nat) (P : List S72) (A2 : Option Addr) (c2 : Nat) (C : List S72) (W : World) (hr1 : Kd.C k72 W A1 P.length P) (hr2 : Kd.C k72 W A2 C.length C) (hl1 : P.length ≤ 4194304) (hl2 : C.length ≤ 4194304) :
    Calls Tryd.prog 40 #[.agg #[.slice A1 P.length c1, .slice A2 C.length c2]] W fun e w' => ∃ v0 v1, e = .returned (.agg #[v0, v1]) ∧ TV k72 72 w' W.heap.size (fun _ => True) v0 P ∧ TV k72 72 w' W.heap.size (fun _ => True) v1 C ∧ Below W.heap.size W w' := by
  have hu55 := Tryd.underlying72
  have hu27 := Tryd.underlying27
  obtain ⟨i0, hi, hz0, hz1, hz2⟩ := info_parts infoSlot
  obtain ⟨n, hn⟩ : ∃ n, P.length = n := ⟨_, rfl⟩
  obtain ⟨m, hm⟩ : ∃ m, C.length = m := ⟨_, rfl⟩
  rw [hn] at hr1 hl1 ⊢
  rw [hm] at hr2 hl2 ⊢
  have hmk := fun W : World => run_make (P := Tryd.prog) W 25 72 i0 (.agg #[.int .i64 0, .int .i64 0]) Tryd.underlying25 hi hz0 .i64 .i64 0 (n : Int) (Int.le_refl _) (by omega) (by rw [hz2]; omega) (by omega)
  rw [hz1] at hmk
  simp only [Int.toNat_natCast, Int.toNat_zero] at hmk
  have hcut := fun (A : Option Addr) (k c : Nat) (h : k ≤ c) => cut_tom (P := Tryd.prog) 25 72 .i64 .i64 Tryd.underlying25 hi A k c (k : Int) (by omega) (by omega) h
  simp only [Int.toNat_natCast] at hcut
  have HCut := Aside0.mk hcut
  have HR1 := Aside0.mk hr1
  have HR2 := Aside0.mk hr2
  have HN := Aside0.mk hn
  have HM := Aside0.mk hm
  obtain ⟨y1, hy1⟩ : ∃ y : List S72, y = [] ++ P := ⟨_, rfl⟩
  obtain ⟨y2, hy2⟩ : ∃ y : List S72, y = [] ++ C := ⟨_, rfl⟩
  have NY1 := Aside0.mk hy1
  have NY2 := Aside0.mk hy2
  clear hr1 hr2 hn hm hcut hi hz0 hz1 hz2 hy1 hy2
  go_enter Tryd.func40, Tryd.ntmps40
  go_upto_region 2 with (fail)
  obtain ⟨w3, hw3⟩ : ∃ w3, (W.alloc (.cells #[.slice A1 n c1, .slice A2 m c2] 27)).alloc (.cells #[.slice none 0 0, .slice none 0 0] 27) = w3 := ⟨_, rfl⟩
  rw [hw3]
  have hz3 : w3.heap.size = W.heap.size + 2 := by rw [← hw3]; simp
  have t1 : w3.heap[W.heap.size]? = some (.cells #[.slice A1 n c1, .slice A2 m c2] 27 (0, 0)) := by rw [← hw3]; exact blk_alloc (heap_alloc_new W _) _
  have t2 : w3.heap[W.heap.size + 1]? = some (.cells #[.slice none 0 0, .slice none 0 0] 27 (0, 0)) := by
    rw [← hw3]
    have := heap_alloc_new (W.alloc (.cells #[.slice A1 n c1, .slice A2 m c2] 27)) (.cells #[.slice none 0 0, .slice none 0 0] 27)
    rwa [World.size_alloc] at this
  have hB3 : Below W.heap.size W w3 := by rw [← hw3]; exact ((Below.refl _ _).alloc (Nat.le_refl _) _).alloc (by simp) _
  have hO3 := slots_R (l := []) (World.ownsRow_made (base := W.heap.size) (e := 72) (size := 2) w3 (madeCells (Value.agg #[.int .i64 0, .int .i64 0]).cells (n * 2)) n (by omega) (by unfold maxLen; omega) (by rw [size_madeCells]))
  have HO3 := Aside0.mk (show Kd.R k72 72 (w3.alloc (.cells (madeCells (Value.agg #[.int .i64 0, .int .i64 0]).cells (n * 2)) 72)) W.heap.size (fun _ => True) (.slice (some ⟨w3.heap.size, 0, none⟩) 0 n) [] from hO3)
  have HB3 := Aside0.mk (hB3.alloc hB3.size (.cells (madeCells (Value.agg #[.int .i64 0, .int .i64 0]).cells (n * 2)) 72))
  have HR3 := Aside0.mk (Kd.C_below HR1.out HB3.out)
  have c0 := (blk_cell (blk_alloc t1 (.cells (madeCells (Value.agg #[.int .i64 0, .int .i64 0]).cells (n * 2)) 72)) 0).trans rfl
  have T1 := Aside0.mk (blk_alloc t1 (.cells (madeCells (Value.agg #[.int .i64 0, .int .i64 0]).cells (n * 2)) 72))
  have T2 := Aside0.mk (blk_alloc t2 (.cells (madeCells (Value.agg #[.int .i64 0, .int .i64 0]).cells (n * 2)) 72))
  have hmk3 := hmk w3
  obtain ⟨w4, hw4⟩ : ∃ w4, w3.alloc (.cells (madeCells (Value.agg #[.int .i64 0, .int .i64 0]).cells (n * 2)) 72) = w4 := ⟨_, rfl⟩
  obtain ⟨g3, hg3⟩ : ∃ g3, w3.heap.size = g3 := ⟨_, rfl⟩
  rw [hw4] at HO3 HB3 HR3 c0 T1 T2 hmk3
  rw [hg3] at HO3 hmk3
  have HG3 := Aside0.mk (show W.heap.size + 2 ≤ g3 by omega)
  clear hw3 hO3 hB3 t1 t2 hmk hw4 hg3 hz3
  go_wp2_with (first
    | ((with_reducible refine gate_builtin (b := .append) (xs := #[.tmp 11, .tmp 13]) rfl ?_); at_builtin; refine Kd.R_append_rows k72 (w0 := W) W.heap.size rfl (.tmp 11) (.tmp 13) 25 72 (.agg #[.int .i64 0, .int .i64 0]) 16 rfl Tryd.underlying25 infoSlot rfl (by decide) (by omega) (.slice (some ⟨g3, 0, none⟩) 0 n) ([] : List S72) P _ _ _ (fun _ => True) (fun _ => False) rfl rfl ?aO ?aR (fun _ _ h => h) (fun _ h => h.elim) ?aF ?aB ?aS ?aL ?_; (case aR => exact HR3.out); (case aF => exact (fun _ _ => trivial)); (case aO => exact HO3.out); (case aB => exact HB3.out); (case aS => exact HB3.out.size); (case aL => simp only [List.length_nil]; omega); intro v1 w1 ho hb hg hat; rw [← NY1.out] at ho; obtain ⟨Ao, co, rfl⟩ := Kd.R_slice ho; have HO := Aside0.mk ho; have HB := Aside0.mk hb; have HL1 := Aside0.mk (show y1.length = n by rw [NY1.out]; exact HN.out); have c1' := (blk_cell ((hg.block W.heap.size (blk_lt T1.out) (by have := HG3.out; simp [Value.ownBlock]; omega)).trans T1.out) 1).trans rfl; have T3 := Aside0.mk ((hg.block (W.heap.size + 1) (blk_lt T2.out) (by have := HG3.out; simp [Value.ownBlock]; omega)).trans T2.out); clear ho hb hg hat)
    | ((with_reducible refine gate_builtin (b := .append) (xs := #[.const (.slice none 0 0), .tmp 16]) rfl ?_); at_builtin; refine Kd.R_append_rows k72 (w0 := W) W.heap.size rfl (.const (.slice none 0 0)) (.tmp 16) 25 72 (.agg #[.int .i64 0, .int .i64 0]) 16 rfl Tryd.underlying25 infoSlot rfl (by decide) (by omega) (.slice none 0 0) ([] : List S72) C _ _ _ (fun _ => True) (fun _ => False) rfl rfl ?aO ?aR (fun _ _ h => h) (fun _ h => h.elim) ?aF ?aB ?aS ?aL ?_; (case aR => exact Kd.C_below HR2.out HB.out); (case aF => exact (fun _ _ => trivial)); (case aO => exact Kd.R_nil _ _ _ _ _); (case aB => exact HB.out); (case aS => exact HB.out.size); (case aL => simp only [List.length_nil]; omega); intro v2 w2 ho hb hg hat; rw [← NY2.out] at ho; obtain ⟨Bo, bo, rfl⟩ := Kd.R_slice ho; have HO2 := Aside0.mk ho; have HB2 := Aside0.mk hb; have HL2 := Aside0.mk (show y2.length = m by rw [NY2.out]; exact HM.out); have T4 := Aside0.mk ((hg.block (W.heap.size + 1) (blk_lt T3.out) (by simp [Value.ownBlock])).trans T3.out); have HO1 := Aside0.mk (Kd.R_step HO.out fun k _ hk => hg.block k hk (by simp [Value.ownBlock])); clear ho hb hg hat))
  have hL1 := HL1.out
  have hL2 := HL2.out
  have hRR1 := Kd.R_reads' HO1.out
  have hRR2 := Kd.R_reads' HO2.out
  rw [hL1] at hRR1 HO1
  rw [hL2] at hRR2 HO2
  rw [hL1, hL2]
  have hcut1 := HCut.out Ao n co hRR1.2.1
  have hcut2 := HCut.out Bo m bo hRR2.2.1
  have u0 := (blk_cell T4.out 0).trans rfl
  have u1 := (blk_cell T4.out 1).trans rfl
  have uf0 := blk_frozen T4.out 0
  have uf1 := blk_frozen T4.out 1
  clear hL1 hL2 hRR1 hRR2 c1' hmk3
  have FIN := Aside0.mk (show ∀ w5, w5.heap.size = w2.heap.size → (∀ k, k ≠ W.heap.size + 1 → w5.heap[k]? = w2.heap[k]?) → Below w2.heap.size w2 w5 ∨ True → (w5.os = w2.os ∧ w5.tape = w2.tape ∧ w5.output = w2.output) → TV k72 72 w5 W.heap.size (fun _ => True) (.slice Ao n n) P ∧ TV k72 72 w5 W.heap.size (fun _ => True) (.slice Bo m m) C ∧ Below W.heap.size W w5 from by
    intro w5 h1 h2 _ h4
    have e1 := NY1.out
    have e2 := NY2.out
    rw [List.nil_append] at e1 e2
    subst e1 e2
    have a := TV_types (TV_of_R kSlot_E HO1.out) T4.out (by decide)
    have b := TV_types (TV_of_R kSlot_E HO2.out) T4.out (by decide)
    refine ⟨TV_mono (TV_step a fun k hk _ => h2 k hk.2) (fun _ _ => trivial), TV_mono (TV_step b fun k hk _ => h2 k hk.2) (fun _ _ => trivial), ?_⟩
    have c := HB2.out
    exact ⟨h4.1.trans c.os, h4.2.1.trans c.tape, h4.2.2.trans c.output, by rw [h1]; exact c.size, fun k hk => (h2 k (by omega)).trans (c.block k hk)⟩)
  have e5 := blk_put (blk_put T4.out 0 (.slice Ao n n) rfl) 1 (.slice Bo m m) rfl
  have z0 := (blk_cell e5 0).trans rfl
  have z1 := (blk_cell e5 1).trans rfl
  have Z0 := Aside0.mk z0
  have Z1 := Aside0.mk z1
  clear e5 z0 z1
  go_region
  all_goals go_wp2
  all_goals exact bodyPost_ret (v := .agg #[.slice Ao n n, .slice Bo m m]) (by simp [results, Tryd.results40, go_sem, Z0.out, Z1.out]) rfl ⟨_, _, rfl, FIN.out _ (by simp [World.setCell]) (fun k hk => (Below.heap_setCell _ _ _ k hk).trans (Below.heap_setCell _ _ _ k hk)) (.inr trivial) ⟨rfl, rfl, rfl⟩⟩
end Go.Proofs.YtckdjcidbpnfeaaDoor.B
