/- Proved: the contracts of occ.play and occ.At, in the form that printed texts cite. Condition: the variable errors.errorType holds what the program's text lays (GH). -/
import Derived.Test.YtckdjcidbpnfeaaDoorHPlay
import Derived.Test.YtckdjcidbpnfeaaDoorHOcc
import Derived.Outline
import Derived.LoopTactic
namespace Go.Proofs.YtckdjcidbpnfeaaDoor.B
open Go.RowKit Go.Shelf Go.Proofs.YtckdjcidbpnfeaaDoorW.PrintWords Go.Proofs.YtckdjcidbpnfeaaDoorW.PrintLast Go.Proofs.YtckdjcidbpnfeaaDoorW.PrintMore

/-- play lays two boxes and hands the iterator. -/
theorem play_is (A0 : Option Addr) (n c0 : Nat) (lim : Int) (w : World) :
    Calls Tryd.prog 51 #[.slice A0 n c0, .int .i64 lim] w fun e w' => e = .returned (.func (.func 83) #[] #[.pointer (some ⟨w.heap.size, 0, none⟩), .pointer (some ⟨w.heap.size + 1, 0, none⟩)]) ∧
      w' = (w.alloc (.cells #[.slice A0 n c0] 22)).alloc (.cells #[.int .i64 lim] 3) := by
  go_enter Tryd.func51, Tryd.ntmps51
  go_wp2
  go_ret
  exact ⟨by simp, rfl⟩

/-- What At tells. -/
def occ_At.f (l : List S24) (t : Int) : Option (Int × Int) :=
  some (if (hypS lcmF l).2 = 0 then (if t < 0 ∨ 1099511627776 ≤ t then (0, 2) else ((((sv l).occ t.toNat : Nat) : Int), 0)) else (0, (hypS lcmF l).2))

def lastOf (pre : List (Nat × Nat × Nat)) : Nat := pre.foldl (fun _ s => s.2.2) 0
theorem lastOf_snoc (pre : List (Nat × Nat × Nat)) (x : Nat × Nat × Nat) : lastOf (pre ++ [x]) = x.2.2 := by simp [lastOf]

theorem PKp_t {n0 m l : Nat} {A B C : World} (h : PKp n0 m l A B) (k : PKp n0 m l B C) : PKp n0 m l A C := ⟨Nat.le_trans h.1 k.1, fun i hs hi => (k.2 i (by have := h.1; omega) hi).trans (h.2 i hs hi)⟩
theorem PKp_b {n0 m B : Nat} (hn : n0 ≤ B) (W : World) (l : Nat) (o o' : Obj) (hl : B ≤ l) (_h : W.heap[l]? = some o) : PKp n0 m l W (W.putObj l o') :=
  ⟨by simp, fun k _ hk => World.putObj_heap_other (by omega)⟩

/-- The world where a loop over play begins: the caller's cell, the two boxes. -/
theorem play_world {w w1 w2 w3 : World} {A0 : Option Addr} {n c0 : Nat} {lim : Int} {cs : Array Value} {u t1 t2 : TypeId} (hb1 : Below w.heap.size w w1) (hd : Below (w1.alloc (.cells cs u)).heap.size (w1.alloc (.cells cs u)) w2)
    (hw3 : w3 = (w2.alloc (.cells #[.slice A0 n c0] t1)).alloc (.cells #[.int .i64 lim] t2)) :
    w.heap.size ≤ w1.heap.size ∧ w1.heap.size < w2.heap.size ∧ w3.heap.size = w2.heap.size + 2 ∧ w3.heap[w1.heap.size]? = some (.cells cs u (0, 0)) ∧ w3.cell? ⟨w2.heap.size, 0, none⟩ = some (.slice A0 n c0) ∧
    w3.cell? ⟨w2.heap.size + 1, 0, none⟩ = some (.int .i64 lim) ∧ Below w.heap.size w w3 := by
  have s1 := hb1.size
  have s2 := hd.size
  simp only [World.size_alloc] at s2
  have h0 : w2.heap[w1.heap.size]? = some (.cells cs u (0, 0)) := (hd.block _ (by simp)).trans (heap_alloc_new _ _)
  have c1 := heap_alloc_new w2 (.cells #[.slice A0 n c0] t1)
  have c2 := heap_alloc_new (w2.alloc (.cells #[.slice A0 n c0] t1)) (.cells #[.int .i64 lim] t2)
  rw [World.size_alloc] at c2
  have c1' := blk_alloc c1 (.cells #[.int .i64 lim] t2)
  have h1 : Below w.heap.size w w2 := ((hb1.alloc s1 (.cells cs u)).trans (hd.mono (by simp; omega)))
  subst hw3
  refine ⟨s1, by omega, by simp, blk_alloc (blk_alloc h0 _) _, by rw [blk_cell c1']; rfl, by rw [blk_cell c2]; rfl, ?_⟩
  exact (h1.alloc (by omega) _).alloc (by simp; omega) _

attribute [local go_sem] Oper.semAt_some
set_option maxHeartbeats 4000000 in
set_option maxRecDepth 100000 in
theorem occ_At.calls (A0 : Option Addr) (c0 : Nat) (l0 : List S24) (a1 : Int) (r1 : Int) (r2 : Int) (w : World) (hr0 : Kd.C k24 w A0 l0.length l0) (_hc0 : l0.length ≤ c0) (hG : GH w) (h : occ_At.f l0 a1 = some (r1, r2)) :
    Calls Tryd.prog 25 #[.slice A0 l0.length c0, .int .i64 a1] w fun e w' => e = .returned (.tuple #[.int .i64 r1, .int .i64 r2]) ∧ Below w.heap.size w w' := by
  have HH := Aside0.mk (check_Hyper.calls A0 c0 l0 (hypS lcmF l0).1 (hypS lcmF l0).2 w hr0 _hc0 hG rfl)
  have HR := Aside0.mk hr0
  clear hr0 hG
  unfold occ_At.f at h
  by_cases he : (hypS lcmF l0).2 = 0
  · rw [if_pos he] at h
    by_cases hb : a1 < 0 ∨ 1099511627776 ≤ a1
    · rw [if_pos hb] at h
      obtain ⟨rfl, rfl⟩ : 0 = r1 ∧ 2 = r2 := by simpa using h
      rw [he] at HH
      clear h he
      rcases hb with hb | hb
      · go_enter Tryd.func25, Tryd.ntmps25
        go_wp2_with (go_at_call 23; refine HH.out.mono ?_; rintro e w' ⟨rfl, hb⟩)
        go_ret2
        exact ⟨rfl, by assumption⟩
      · by_cases hb2 : a1 < 0
        · omega
        · go_enter Tryd.func25, Tryd.ntmps25
          go_wp2_with (go_at_call 23; refine HH.out.mono ?_; rintro e w' ⟨rfl, hb⟩)
          go_ret2
          exact ⟨rfl, by assumption⟩
    · rw [if_neg hb] at h
      obtain ⟨hbd, hok, hH1, hH2, hHe, hOk⟩ := ok_of_hyp l0 he
      obtain ⟨T, hTa⟩ : ∃ T : Nat, a1.toNat = T := ⟨_, rfl⟩
      have hTc : a1 = (T : Int) := by omega
      have hT : T ≤ 1099511627776 := by omega
      have hT0 : ¬ (a1 < 0) := by omega
      have hT1 : ¬ ((1099511627776 : Int) ≤ a1) := by omega
      rw [hTa] at h
      simp only [Option.some.injEq, Prod.mk.injEq] at h
      obtain ⟨rfl, rfl⟩ := h
      rw [he, hHe] at HH
      obtain ⟨H, hH⟩ : ∃ H, hyp l0 = H := ⟨_, rfl⟩
      rw [hH] at hH1 hH2 HH hOk
      obtain ⟨L, hL⟩ : ∃ L, foldN T H = L := ⟨_, rfl⟩
      have hLb := foldN_lt T H hH1
      have HFo := Aside0.mk (fun w => occ_fold.calls _ _ _ w (fold_plain T H hH1 hH2 hT))
      rw [hL] at hLb HFo
      rw [← hTc] at HFo
      have HSv := Aside0.mk (fun n0 (hn : w.heap.size ≤ n0) => srv_of hok HR.out hn)
      have HV := Aside0.mk (show lastOf ((sv l0).play (L + 1) (L + 1) (fun _ => 0) 0) = (sv l0).occ T by
        unfold lastOf
        rw [(sv l0).cover_last (L + 1) _ 0 0 ((sv l0).play_zero (fun i hi => (hbd.2 i hi).1) (L + 1) (L + 1) (Nat.le_refl _)) (by omega), Nat.add_sub_cancel, ← hL]
        exact OccMath.Sv.fold_occ hOk T)
      have HBd := Aside0.mk hbd
      obtain ⟨V, hV⟩ : ∃ V, (sv l0).occ T = V := ⟨_, rfl⟩
      rw [hV] at HV ⊢
      clear hV hH hL hok hOk hHe he hb hbd hTa hTc hT
      refine (callsIn_wide (n := 5)).1 ?_
      refine callsIn_of_wp_marks Tryd.func25 rfl trivial ?_ rfl
      simp only [Tryd.ntmps25, List.size_toArray, List.length_cons, List.length_nil, Nat.reduceAdd, Nat.reduceSub, Array.replicate_succ, Array.replicate_zero, List.push_toArray, List.append_toArray, List.nil_append, List.cons_append]
      gi_wp2
      refine ⟨trivial, ?_⟩
      gi_at_call 23
      refine (callsIn_wide.2 HH.out).mono ?_
      rintro e w1 ⟨rfl, hb1⟩
      gi_wp2
      refine ⟨trivial, ?_⟩
      gi_at_call 52
      refine (callsIn_wide.2 (HFo.out _)).mono ?_
      rintro e w2 ⟨rfl, hd⟩
      replace hd := hd.below
      gi_wp2
      refine ⟨trivial, ?_⟩
      gi_at_call 51
      refine (callsIn_wide.2 (play_is _ _ _ _ _)).mono ?_
      rintro e w3 ⟨rfl, hw3⟩
      obtain ⟨q1, q2, q3, hq, hx1, hx2, hB⟩ := play_world hb1 hd hw3
      clear hd hw3 hb1 HFo HH
      gi_wp2
      have hs3 : Srv w.heap.size A0 l0 w3 := (HSv.out w.heap.size (Nat.le_refl _)).kept fun k hk => hB.block k hk
      refine wpIn_rangeFunc_cells rfl (by omega) (gf := 83) (lb := #[.pointer (some ⟨w2.heap.size, 0, none⟩), .pointer (some ⟨w2.heap.size + 1, 0, none⟩)]) rfl trivial (enters_of Tryd.func83 (by kernel_rfl) rfl)
        (play1_is w.heap.size w2.heap.size w2.heap.size (w2.heap.size + 1) A0 c0 l0 (L + 1) _ (by omega) HBd.out (by omega) w3 hs3 (by omega) hx1 hx2 (by omega) (by omega) (by omega) (by omega))
        PKp_t (fun W l o o' hl h _ _ => PKp_b (by omega) W l o o' hl h) (Below.refl _ _) (fun _ => rfl)
        (fun pre W => W.heap[w1.heap.size]? = some (.cells #[.int .i64 (lastOf pre : Nat)] 3 (0, 0)) ∧ Below w.heap.size w W)
        (fun _ _ _ => False)
        (fun s A B h hb => ⟨(hb.block _ (by omega)).trans h.1, h.2.trans (hb.toBelow.mono (by omega))⟩)
        (fun _ _ _ _ h _ => h) ⟨hq, hB⟩
        (fun x a' W => ∃ b, w3.heap.size + 2 ≤ b ∧ W.heap[b]? = some (.cells #[.int .i64 (x.2.1 : Nat), .int .i64 (x.2.2 : Nat)] 72 (0, 0)) ∧ a' = { tmps := #[.slice A0 l0.length c0, .int .i64 a1, undef, undef, .int .i64 0, .int .i64 0, .int .i64 (H : Nat), .int .i64 0, .pointer (some ⟨w1.heap.size, 0, none⟩), undef, .pointer (some ⟨b, 0, none⟩), .tuple #[.int .i64 (H : Nat), .int .i64 0], .slice A0 l0.length c0, .tuple #[.int .i64 (H : Nat), .int .i64 0], .int .i64 (H : Nat), .int .i64 0, .bool false, .int .i64 0, .bool false, undef, .bool (decide (a1 < 0) || decide (1099511627776 ≤ a1)), .int .i64 a1, .bool (decide (a1 < 0)), .bool (decide (a1 < 0)), .int .i64 a1, .bool (decide (1099511627776 ≤ a1)), .bool (decide (a1 < 0) || decide (1099511627776 ≤ a1)), .slice A0 l0.length c0, .int .i64 a1, .int .i64 (H : Nat), .int .i64 (L : Nat), .int .i64 ((L : Nat) + 1), .func (.func 83) #[] #[.pointer (some ⟨w2.heap.size, 0, none⟩), .pointer (some ⟨w2.heap.size + 1, 0, none⟩)], .int .i64 (x.1 : Nat), .agg #[.int .i64 (x.2.1 : Nat), .int .i64 (x.2.2 : Nat)], undef, undef, undef], defers := [] })
        (fun x a' W o o' hl ho ⟨b, hb, h, e⟩ => ⟨b, hb, (World.putObj_heap_other (by omega)).trans h, e⟩) ?assign ?body ?done ?stop
      case assign =>
        intro pre x W K hi hsz hK
        dsimp only [encSeg]
        gi_wp2
        refine hK _ _ ((KeepsOthers.alloc _ _).from _) ⟨by simp, fun k hs hk => Below.heap_alloc _ _ _ hs⟩ ⟨blk_alloc hi.1 _, hi.2.alloc (by have := hi.2.size; omega) _⟩ ⟨W.heap.size, by omega, heap_alloc_new _ _, rfl⟩
      case body =>
        rintro pre x a' W - ⟨hw, hBW⟩ ⟨b, hb, hs, rfl⟩ -
        have s1 := blk_cell hs 1
        have fw := blk_frozen hw 0
        have cw := blk_cell hw 0
        simp only [List.getElem?_toArray, List.getElem?_cons_zero, List.getElem?_cons_succ] at s1 cw
        gi_wp2
        refine ⟨(KeepsOthers.setCell _ _ _).from _, ⟨by simp, fun k _ hk => Below.heap_setCell _ _ _ _ (by simp; omega)⟩, ?_, hBW.setCell (p := ⟨w1.heap.size, 0, none⟩) q1 _⟩
        rw [lastOf_snoc]
        exact blk_put hw 0 _ rfl
      case done =>
        rintro D xs W hD rfl ⟨hw, hBW⟩ hK
        have cw := blk_cell hw 0
        simp only [List.getElem?_toArray, List.getElem?_cons_zero, HV.out] at cw
        gi_wp2
        refine ⟨by simp, .inl ⟨_, _, rfl, run_takeDeferred hK, ?_⟩⟩
        exact ⟨_, results_tmp2 rfl _ _ _, rfl, hBW.trans (below_put _ hK (by omega))⟩
      case stop =>
        rintro D c pre W _ _ h _
        exact h.elim
  · rw [if_neg he] at h
    obtain ⟨rfl, rfl⟩ : 0 = r1 ∧ (hypS lcmF l0).2 = r2 := by simpa using h
    go_enter Tryd.func25, Tryd.ntmps25
    go_wp2_with (go_at_call 23; refine HH.out.mono ?_; rintro e w' ⟨rfl, hb⟩)
    go_ret2
    exact ⟨rfl, by assumption⟩
end Go.Proofs.YtckdjcidbpnfeaaDoor.B
