/- Proved: the contracts of the reference's In (a reader): its state turns as the Reader's does. Conditions: bounds of the lengths. -/
import Derived.Test.YtceeoifbimlkdaaHLent
import Derived.Test.YtceeoifbimlkdaaHRdF
import Derived.Deep.RegionHeld3
namespace Go.Proofs.Ytceeoifbimlkdaa.B
open Go.RowKit Go.Proofs.YtceeoifbimlkdaaW.PrintWords Go.Proofs.YtceeoifbimlkdaaW.PrintLast Go.Proofs.YtceeoifbimlkdaaW.PrintMore

theorem types_ne {w : World} {c1 c2 : Array Value} {t1 t2 b : Nat} (h1 : w.heap[b]? = some (.cells c1 t1 (0, 0))) (h2 : w.heap[b]? = some (.cells c2 t2 (0, 0))) (h : t1 ≠ t2) : False := by
  rw [h1] at h2
  injection h2 with h2
  injection h2 with _ h2
  exact h h2
/-- An In at block g: the bytes, the place, the fault; its state is what is left and the fault. -/
structure InAt (W : World) (g : Nat) (A : Option Addr) (c : Nat) (b : List Int) (a : Nat) (s : List Int × Int) : Prop where
  le : a ≤ b.length
  rest : s.1 = b.drop a
  blk : W.heap[g]? = some (.cells #[.slice A b.length c, .int .i64 (a : Nat), .int .i64 s.2] 64 (0, 0))
  room : b.length ≤ c
  row : Kd.C (Kd.int .u8) W A b.length b
  off : 0 < b.length → ∀ ad, A = some ad → ad.block ≠ g
theorem InAt.below {W W' : World} {g : Nat} {A : Option Addr} {c : Nat} {b : List Int} {a : Nat} {s : List Int × Int} (h : InAt W g A c b a s) (hb : Below W.heap.size W W') : InAt W' g A c b a s :=
  ⟨h.le, h.rest, (hb.block g (blk_lt h.blk)).trans h.blk, h.room, Kd.C_below h.row hb, h.off⟩
set_option maxHeartbeats 4000000 in
set_option maxRecDepth 100000 in
theorem inLeft_is (W : World) (g : Nat) (A : Option Addr) (c : Nat) (b : List Int) (a : Nat) (s : List Int × Int) (h : InAt W g A c b a s) (hl : b.length < 140737488355328) :
    Calls Try.prog 44 #[.pointer (some ⟨g, 0, none⟩)] W fun e w' => e = .returned (.int .i64 (s.1.length : Nat)) ∧ Below W.heap.size W w' := by
  have hu64 := Try.underlying64
  have j0 : W.cell? ⟨g, 0, none⟩ = some (.slice A b.length c) := (blk_cell h.blk 0).trans rfl
  have j1 : W.cell? ⟨g, 1, none⟩ = some (.int .i64 (a : Nat)) := (blk_cell h.blk 1).trans rfl
  have hle := h.le
  have hs : s.1.length = b.length - a := by rw [h.rest, List.length_drop]
  rw [hs]
  generalize b.length = N at *
  clear h hs
  go_enter Try.func44, Try.ntmps44
  go_wp2
  repeat (go_quiet (fail); try go_wp2)
  first | go_ret | go_ret2
  refine ⟨?_, by repeat (first | exact Below.refl _ _ | apply pw_below_drewN | apply below_drew1)⟩
  congr 2
  first | omega | (simp; omega)
set_option maxHeartbeats 4000000 in
set_option maxRecDepth 100000 in
theorem inFail_is (x : Int) (W : World) (g : Nat) (A : Option Addr) (c : Nat) (b : List Int) (a : Nat) (s : List Int × Int) (h : InAt W g A c b a s) :
    Calls Try.prog 130 #[.pointer (some ⟨g, 0, none⟩), .int .i64 x] W fun e w' => e = .returned (.tuple #[]) ∧ (s.2 = 0 → w' = W.setCell ⟨g, 2, none⟩ (.int .i64 x)) ∧ (s.2 ≠ 0 → w' = W) := by
  have hu64 := Try.underlying64
  have j2 : W.cell? ⟨g, 2, none⟩ = some (.int .i64 s.2) := (blk_cell h.blk 2).trans rfl
  have hfr : W.frozen? ⟨g, 2, none⟩ = false := blk_frozen h.blk 2
  obtain ⟨f, hf⟩ : ∃ f, s.2 = f := ⟨_, rfl⟩
  rw [hf] at j2 ⊢
  clear h hf
  by_cases h0 : f = 0
  · subst h0
    go_enter Try.func130, Try.ntmps130
    go_wp2
    go_end0
    exact ⟨rfl, fun _ => rfl, fun h => absurd rfl h⟩
  · have h1 : (f == 0) = false := by rw [beq_eq_false_iff_ne]; exact h0
    go_enter Try.func130, Try.ntmps130
    go_wp2
    go_end0
    exact ⟨rfl, fun h => absurd h h0, fun _ => rfl⟩
theorem inFail0 (x : Int) (W : World) (g : Nat) (A : Option Addr) (c : Nat) (b : List Int) (a : Nat) (xs : List Int) (h : InAt W g A c b a (xs, 0)) :
    Calls Try.prog 130 #[.pointer (some ⟨g, 0, none⟩), .int .i64 x] W fun e w' => e = .returned (.tuple #[]) ∧ w' = W.setCell ⟨g, 2, none⟩ (.int .i64 x) :=
  (inFail_is x W g A c b a (xs, 0) h).mono fun e w' ⟨h1, h2, _⟩ => ⟨h1, h2 rfl⟩
theorem in_set {W w1 : World} (hb : Below W.heap.size W w1) (g j : Nat) (x : Value) (hg : g < W.heap.size) : KeepBut W (w1.setCell ⟨g, j, none⟩ x) g none ∧ ∀ B, B ≤ g → Below B W (w1.setCell ⟨g, j, none⟩ x) := by
  refine ⟨⟨by simp; exact hb.size, fun k hk h1 _ => (Below.heap_setCell _ _ _ k h1).trans (hb.block k hk)⟩, fun B hB => ⟨hb.os, hb.tape, hb.output, by simp; exact hb.size, fun k hk => ?_⟩⟩
  have h1 : k ≠ g := by omega
  rw [Below.heap_setCell _ _ _ k h1]
  exact hb.block k (by omega)
/-- A row of numbers lies on where its block does; a row of none lies anywhere. -/
theorem c_blk2 {k : IntKind} {W W' : World} {A : Option Addr} {n : Nat} {xs : List Int} (h : (Kd.int k).C W A n xs) (hb : 0 < n → ∀ ad, A = some ad → W'.heap[ad.block]? = W.heap[ad.block]?) : (Kd.int k).C W' A n xs := by
  have h1 := Kd.reads_of_C (d := (0 : Int)) h
  refine Kd.C_of_reads (d := (0 : Int)) ⟨h1.1, h1.2.1, fun hn => ?_⟩
  obtain ⟨ad, e, hc⟩ := h1.2.2 hn
  exact ⟨ad, e, fun j hj => (World.cell?_of_block (w := W) (by rw [add_block]; exact hb hn ad e)).trans (hc j hj)⟩
theorem C_set {W : World} {A : Option Addr} {b : List Int} (h : Kd.C (Kd.int .u8) W A b.length b) {g j : Nat} {x : Value} (hoff : 0 < b.length → ∀ ad, A = some ad → ad.block ≠ g) : Kd.C (Kd.int .u8) (W.setCell ⟨g, j, none⟩ x) A b.length b :=
  c_blk2 h fun hn ad e => Below.heap_setCell _ _ _ _ (hoff hn ad e)
/-- An append at a step of a region that draws its order, the old slice still as it was. -/
theorem step_append_both {P : Program} {ops : Array Oper} {o : Oper} {a : Act} {K : Act → World → Prop} {Q : Exit → Act → World → Prop} {E : Prop} {w0 W W1 : World} (base : Nat) (hgd : o.guard = none) (s x : Operand) (t e : TypeId) (z : Value) (bytes : Nat)
    (ho : o.op = .call { callee := .builtin .append, args := #[s, x], argTypes := #[t, t] })
    (ht : P.underlying t = some (.slice e)) (hinfo : (P.info? e).map (fun i => (i.zero, i.size, i.bytes)) = some (some z, 1, bytes)) (hz : z.cells.size = 1) (hb0 : 0 < bytes)
    (v : Value) (xs : List Value) (y : Value) (hs : a.eval s = v) (hx : a.eval x = .slice (some ⟨W.heap.size, 0, none⟩) 1 1) (h1 : y.oneCell' = true) (hW : W1 = W.alloc (.cells #[y] e))
    (HO : W.ownsRow base e 1 v xs.length xs) (HB : Below base w0 W) (hbase : base ≤ W.heap.size) (hl : (xs.length + 1) * bytes ≤ 140737488355328)
    (h : ∀ v1 w1, w1.ownsRow base e 1 v1 (xs ++ [y]).length (xs ++ [y]) → w1.ownsRow base e 1 v xs.length xs → Below base w0 w1 → W.grownBy w1 v.ownBlock → (v1.ownBlock = v.ownBlock ∨ ∃ b, v1.ownBlock = some b ∧ W.heap.size ≤ b) → K (a.put o.dst v1) w1) :
    if Region.wanted o (yielded ops a.tmps) = true then Oper.wp P o a W1 K Q else E := by
  subst hW
  have hw : Region.wanted o (yielded ops a.tmps) = true := by simp [Region.wanted, hgd]
  rw [if_pos hw]
  obtain ⟨i0, hi, hzz⟩ := Option.map_eq_some_iff.1 hinfo
  simp only [Prod.mk.injEq] at hzz
  obtain ⟨hz0, hz1, hz2⟩ := hzz
  have hlen : xs.length + 1 ≤ 140737488355328 := Nat.le_trans (Nat.le_mul_of_pos_right _ hb0) hl
  have hmx : xs.length + 1 ≤ maxLen := by simp only [maxLen]; omega
  have hny : (W.alloc (.cells #[y] e)).cell? ⟨W.heap.size, 0, none⟩ = some y := (blk_cell (heap_alloc_new W (.cells #[y] e)) 0).trans rfl
  have HO1 : (W.alloc (.cells #[y] e)).ownsRow base e 1 v xs.length xs := HO.alloc _
  have hnews : ∀ j u, [y][j]? = some u → (W.alloc (.cells #[y] e)).cell? ((⟨W.heap.size, 0, none⟩ : Addr).add j) = some u := by
    intro j u hu
    cases j with
    | zero => simp at hu; subst hu; simp only [Addr.add]; exact hny
    | succ j => simp at hu
  obtain ⟨v', w', hr, h2, h3, _, h5⟩ := run_append_own_at (P := P) (W.alloc (.cells #[y] e)) base t o.type e i0 z 1 bytes ht hi hz0 hz1 hz2 hz (by omega) v xs.length xs HO1 ⟨W.heap.size, 0, none⟩ 1 1 [y] rfl hnews (by simpa using h1) hmx hl (by simp; omega)
  have h6 := appended_old ht hi hz0 hz1 hz2 HO1 hny h1 hmx hl hr
  have hgo : W.grownBy w' v.ownBlock := World.grownBy.trans (World.grownBy_alloc W _ _) h3
  unfold Oper.wp execOp
  simp only [ho, resolve, invoke, builtin, Sem.run_bind, Sem.run_pure, Result.andThen_ok, List.map_toArray, List.map_cons, List.map_nil, hs, hx, hr]
  refine h v' w' (by simpa using h2) h6 ((HB.alloc hbase _).grown h3 (by simp; omega) (own_base HO)) hgo ?_
  rcases h5 with h5 | h5
  · exact .inl h5
  · exact .inr ⟨_, h5, by simp⟩
/-- What In's Bytes leaves. -/
def InPost (W : World) (g : Nat) (A : Option Addr) (c : Nat) (b : List Int) (xs : List Int) (s' : List Int × Int) (e : Ending) (w' : World) : Prop :=
  ∃ A' n' c', e = .returned (.slice A' n' c') ∧ Own .u8 5 w' W.heap.size ⟨A', n', c'⟩ xs ∧ (∃ a', InAt w' g A c b a' s') ∧ KeepBut W w' g none ∧ ∀ B, B ≤ g → Below B W w'
theorem in_failed {W w1 : World} {g : Nat} {A : Option Addr} {c : Nat} {b : List Int} {a : Nat} {xs : List Int} (h : InAt W g A c b a (xs, 0)) (hb : Below W.heap.size W w1) : InPost W g A c b [] (xs, 20) (.returned (.slice none 0 0)) (w1.setCell ⟨g, 2, none⟩ (.int .i64 20)) := by
  have h1 := h.below hb
  obtain ⟨k1, k2⟩ := in_set hb g 2 (.int .i64 20) (blk_lt h.blk)
  exact ⟨none, 0, 0, rfl, Own.nil, ⟨a, ⟨h1.le, h1.rest, blk_set h1.blk 2 (.int .i64 20), h1.room, C_set h1.row h1.off, h1.off⟩⟩, k1, k2⟩
set_option maxHeartbeats 8000000 in
set_option maxRecDepth 100000 in
theorem inBytes_is (n : Int) (W : World) (g : Nat) (A : Option Addr) (c : Nat) (b : List Int) (a : Nat) (s : List Int × Int) (h : InAt W g A c b a s) (hl : b.length ≤ 4398046511104) :
    Calls Try.prog 95 #[.pointer (some ⟨g, 0, none⟩), .int .i64 n] W (InPost W g A c b (rTake s n).1 (rTake s n).2) := by
  have hu64 := Try.underlying64
  have j0 : W.cell? ⟨g, 0, none⟩ = some (.slice A b.length c) := (blk_cell h.blk 0).trans rfl
  have j1 : W.cell? ⟨g, 1, none⟩ = some (.int .i64 (a : Nat)) := (blk_cell h.blk 1).trans rfl
  have j2 : W.cell? ⟨g, 2, none⟩ = some (.int .i64 s.2) := (blk_cell h.blk 2).trans rfl
  have hfr : W.frozen? ⟨g, 1, none⟩ = false := blk_frozen h.blk 1
  have H := Aside0.mk h
  have hle := h.le
  have hsl : s.1.length = b.length - a := by rw [h.rest, List.length_drop]
  obtain ⟨xs, f⟩ := s
  dsimp only at j2 hsl
  obtain ⟨N, hN⟩ : ∃ N, b.length = N := ⟨_, rfl⟩
  rw [hN] at j0 hle hsl hl
  have HN := Aside0.mk hN
  have HX := Aside0.mk hsl
  clear h hN hsl
  by_cases h0 : f = 0
  · subst h0
    by_cases hr : 0 ≤ n ∧ n ≤ (N : Int) - (a : Int)
    · obtain ⟨m, rfl⟩ : ∃ m : Nat, n = (m : Int) := ⟨n.toNat, by omega⟩
      have hma : a + m ≤ N := by omega
      have e : rTake (xs, 0) (m : Int) = (xs.take m, xs.drop m, 0) := by
        unfold rTake
        rw [if_pos ⟨rfl, by omega, by have := HX.out; dsimp only at *; omega⟩]
        simp
      rw [e]
      have hd0 : ¬ ((m : Int) < 0) := by omega
      have hd2 : ¬ ((N : Int) - (a : Int) < (m : Int)) := by omega
      clear e hr
      go_enter Try.func95, Try.ntmps95
      go_wp2
      go_quiet (fail)
      have hwr : IntKind.i64.wrap ((N : Int) - (a : Int)) = (N : Int) - (a : Int) := IntWalk.i64_in _ (by omega)
      have hno : ¬ ((m : Int) < 0 ∨ IntKind.i64.wrap ((N : Int) - (a : Int)) < (m : Int)) := by rw [hwr]; omega
      have hno2 : (decide ((m : Int) < 0) || decide (IntKind.i64.wrap ((N : Int) - (a : Int)) < (m : Int))) = false := by rw [hwr]; simp; omega
      go_wp2
      clear hwr hno hno2
      go_loopw [5, 6] (fun v5 v6 wr => ∃ (i : Nat) (t : Sl), v6 = .int .i64 (i : Nat) ∧ i ≤ m ∧ v5 = .slice t.A t.n t.c ∧ Aside0 (Own .u8 5 wr W.heap.size t (xs.take i)) ∧ Aside0 (Below W.heap.size W wr)) (fun _ v6 _ => m - (intOf v6).toNat)
      case atStart => exact ⟨0, ⟨none, 0, 0⟩, rfl, Nat.zero_le _, rfl, ⟨Own.nil⟩, ⟨by repeat (first | exact Below.refl _ _ | apply pw_below_drewN | apply below_drew1)⟩⟩
      case round =>
        obtain ⟨i, t, rfl, hi, rfl, HO, HB⟩ := hrel
        have HI := Aside0.mk (H.out.below HB.out)
        have y0 : wr.cell? ⟨g, 0, none⟩ = some (.slice A N c) := by rw [← HN.out]; exact (blk_cell HI.out.blk 0).trans rfl
        have y1 : wr.cell? ⟨g, 1, none⟩ = some (.int .i64 (a : Nat)) := (blk_cell HI.out.blk 1).trans rfl
        by_cases hlt : i < m
        · have hii : (i : Int) < (m : Int) := by omega
          obtain ⟨ad, e, hx⟩ := Kd.at_int HI.out.row ((a + i : Nat) : Int) (by omega) (by have := HN.out; omega)
          subst e
          rw [Int.toNat_natCast] at hx
          have HXE := Aside0.mk (show xs.take (i + 1) = xs.take i ++ [rd b ((a + i : Nat) : Int)] by
            have hl1 : i < xs.length := by have := HX.out; omega
            rw [List.take_succ_eq_append_getElem hl1]
            congr 2
            have h9 : xs = b.drop a := H.out.rest
            subst h9
            have h8 : a + i < b.length := by have := HN.out; omega
            rw [show rd b ((a + i : Nat) : Int) = b[a + i] by unfold rd; rw [Int.toNat_natCast]; simp [List.getD_eq_getElem?_getD, h8]]
            simp)
          have HSS := Aside0.mk (show ∀ w', Below W.heap.size W w' → w'.cell? ⟨g, 0, none⟩ = some (.slice (some ad) N c) ∧ w'.cell? ⟨g, 1, none⟩ = some (.int .i64 (a : Nat)) ∧ w'.cell? (ad.add (IntKind.i64.wrap ((a : Int) + (i : Int))).toNat) = some (.int .u8 (rd b ((a + i : Nat) : Int))) ∧ w'.cell? (ad.add ((a : Int) + (i : Int)).toNat) = some (.int .u8 (rd b ((a + i : Nat) : Int))) by
            intro w' hb
            have hi' := H.out.below hb
            have z0 : w'.cell? ⟨g, 0, none⟩ = some (.slice (some ad) N c) := by rw [← HN.out]; exact (blk_cell hi'.blk 0).trans rfl
            obtain ⟨ad', e', hx'⟩ := Kd.at_int hi'.row ((a + i : Nat) : Int) (by omega) (by have := HN.out; omega)
            injection e' with e'
            subst e'
            rw [Int.toNat_natCast] at hx'
            refine ⟨z0, (blk_cell hi'.blk 1).trans rfl, ?_, ?_⟩
            · rw [IntWalk.i64_in _ (by omega), show ((a : Int) + (i : Int)).toNat = a + i by omega]; exact hx'
            · rw [show ((a : Int) + (i : Int)).toNat = a + i by omega]; exact hx')
          generalize rd b ((a + i : Nat) : Int) = x at *
          have HLL := Aside0.mk (show ((xs.take i).length + 1) * 1 ≤ 140737488355328 by rw [List.length_take]; omega)
          have hw2 : IntKind.i64.wrap ((a : Int) + (i : Int)) = ((a + i : Nat) : Int) := by rw [IntWalk.i64_in _ (by omega)]; omega
          have hx2 : wr.cell? (ad.add (IntKind.i64.wrap ((a : Int) + (i : Int))).toNat) = some (.int .u8 x) := by rw [hw2, Int.toNat_natCast]; exact hx
          have hi0 : 0 ≤ IntKind.i64.wrap ((a : Int) + (i : Int)) := by rw [hw2]; omega
          have hi1 : IntKind.i64.wrap ((a : Int) + (i : Int)) < (N : Int) := by rw [hw2]; omega
          have hi2 : 0 ≤ (a : Int) + (i : Int) := by omega
          have hi3 : (a : Int) + (i : Int) < (N : Int) := by omega
          have hx3 : wr.cell? (ad.add ((a : Int) + (i : Int)).toNat) = some (.int .u8 x) := by rw [show ((a : Int) + (i : Int)).toNat = a + i by omega]; exact hx
          clear hw2
          go_wp2
          go_region_held3 (fun w' => w'.cell? ⟨g, 0, none⟩ = some (.slice (some ad) N c) ∧ w'.cell? ⟨g, 1, none⟩ = some (.int .i64 (a : Nat)) ∧ w'.cell? (ad.add (IntKind.i64.wrap ((a : Int) + (i : Int))).toNat) = some (.int .u8 x) ∧ w'.cell? (ad.add ((a : Int) + (i : Int)).toNat) = some (.int .u8 x))
            (first | exact HSS.out _ HB1.out | exact HSS.out _ (below_drew1 HB.out) | exact HSS.out _ ((below_drew1 HB.out).alloc (by simp; exact HB.out.size) _))
            (first | (refine step_append_both (w0 := W) (W := wr.drew) W.heap.size (by rfl) (.tmp 35) (.tmp 48) 37 5 (.int .u8 0) 1 (by rfl) Try.underlying37 infoU8 rfl (by decide) (.slice t.A t.n t.c) (nums .u8 (xs.take i)) (.int .u8 x) (by rfl) (by rfl) (by rfl) (by rfl) ?aO ?aB ?aS ?aL ?_; (case aO => rw [nums_length]; exact HO.out.drew); (case aB => exact below_drew1 HB.out); (case aS => simp; exact HB.out.size); (case aL => rw [nums_length]; exact HLL.out); intro v1 w1 ho _ hb hg hat; obtain ⟨t1, rfl, hsn⟩ := own_more_sl ho; have HO1 := Aside0.mk (own_more ho rfl); have HB1 := Aside0.mk hb; clear ho hb hg hat hsn))
          go_wp2
          go_roundw
          case rel => exact ⟨i + 1, t1, by go_num, by omega, rfl, ⟨by rw [HXE.out]; exact HO1.out⟩, HB1⟩
          case measure => simp [intOf]; omega
        · have hne : ¬ ((i : Int) < (m : Int)) := by omega
          have him : i = m := by omega
          subst him
          have hfr2 : wr.frozen? ⟨g, 1, none⟩ = false := blk_frozen HI.out.blk 1
          clear hlt
          go_wp2
          go_ret
          have h9 := HI.out
          obtain ⟨k1, k2⟩ := in_set HB.out g 1 (.int .i64 ((a + i : Nat) : Int)) (blk_lt H.out.blk)
          have hne2 : some g ≠ t.v.ownBlock := fun e => by
            obtain ⟨cs, hcs⟩ := HO.out.typed g e.symm
            exact types_ne h9.blk hcs (by decide)
          exact ⟨t.A, t.n, t.c, rfl, HO.out.far (p := ⟨g, 1, none⟩) (fun e => hne2 e.symm) _, ⟨a + i, by have := HN.out; omega, by rw [show xs = b.drop a from H.out.rest, List.drop_drop], blk_set h9.blk 1 (.int .i64 ((a + i : Nat) : Int)), h9.room, C_set h9.row h9.off, h9.off⟩, k1, k2⟩
    · have e : rTake (xs, 0) n = ([], xs, 20) := by
        unfold rTake
        rw [if_neg (by intro h; exact hr ⟨h.2.1, by have := h.2.2; have := HX.out; dsimp only at *; omega⟩)]
        rfl
      rw [e]
      have HF := Aside0.mk (fun (w' : World) (hb : Below W.heap.size W w') => inFail0 20 w' g A c b a xs (H.out.below hb))
      have hd : n < 0 ∨ ((N : Int) - (a : Int) < n) := by omega
      clear e
      rcases hd with hd | hd
      · have hd1 : decide (n < 0) = true := decide_eq_true hd
        go_enter Try.func95, Try.ntmps95
        go_wp2
        go_quiet (fail)
        go_wp2_with (go_at_call 130; refine (HF.out _ (by repeat (first | exact Below.refl _ _ | apply pw_below_drewN | apply below_drew1))).mono ?_; rintro e w1 ⟨rfl, rfl⟩)
        go_ret
        exact in_failed H.out (by repeat (first | exact Below.refl _ _ | apply pw_below_drewN | apply below_drew1))
      · have hd0 : ¬ n < 0 := by omega
        have hd1 : decide (n < 0) = false := decide_eq_false hd0
        go_enter Try.func95, Try.ntmps95
        go_wp2
        go_quiet (fail)
        go_wp2_with (go_at_call 130; refine (HF.out _ (by repeat (first | exact Below.refl _ _ | apply pw_below_drewN | apply below_drew1))).mono ?_; rintro e w1 ⟨rfl, rfl⟩)
        go_ret
        exact in_failed H.out (by repeat (first | exact Below.refl _ _ | apply pw_below_drewN | apply below_drew1))
  · have h1 : (f == 0) = false := by rw [beq_eq_false_iff_ne]; exact h0
    have h2 : (f != 0) = true := by rw [bne_iff_ne]; exact h0
    have e : rTake (xs, f) n = ([], xs, f) := by
      unfold rTake
      rw [if_neg (by intro h; exact h0 h.1)]
      simp [h0]
    rw [e]
    clear e
    go_enter Try.func95, Try.ntmps95
    go_wp2
    go_ret
    exact ⟨none, 0, 0, rfl, Own.nil, ⟨a, H.out⟩, KeepBut.refl _ _ _, fun B _ => Below.refl _ _⟩
end Go.Proofs.Ytceeoifbimlkdaa.B
