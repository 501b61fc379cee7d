/- Proved: the contract of the codec law's listsPlaced: lists and bytes handed in, written over where they lie, and handed in again. Conditions: bounds of the lengths. the contract of the codec law's listsPlaced. Conditions: bounds of the lengths. -/
import Derived.Test.YtceeoifbimlkdaaHPut
import Derived.Test.YtceeoifbimlkdaaHShelf
import Derived.Test.YtceeoifbimlkdaaPureSeals
namespace Go.Proofs.Ytceeoifbimlkdaa.B
open Go.RowKit Go.Proofs.YtceeoifbimlkdaaW.PrintWords Go.Proofs.YtceeoifbimlkdaaW.PrintLast Go.Proofs.YtceeoifbimlkdaaW.PrintMore
open Go.Proofs.Ytceeoifbimlkdaa.Pure (turnL)

theorem typed_ne {w : World} {c1 c2 : Array Value} {t1 t2 b : Nat} (h1 : w.heap[b]? = some (.cells c1 t1 (0, 0))) (h2 : w.heap[b]? = some (.cells c2 t2 (0, 0))) (h : t1 ≠ t2) : False := by
  rw [h1] at h2
  injection h2 with h2
  injection h2 with _ h3
  exact h h3
theorem R_typed {e base : Nat} {W : World} {v : Value} {xs : List Int} (h : Kd.R (Kd.int .u8) e W base (fun _ => True) v xs) {b : Nat} (hb : v.ownBlock = some b) : ∃ c, W.heap[b]? = some (.cells c e (0, 0)) := by
  obtain ⟨A, n, c, rfl, ho⟩ := R_own h
  exact ho.typed b hb
theorem WO.apart {w : World} {base b2 g q : Nat} {v u : Value} {s t : List Int × Int} {x : Sl} {ys : List Int} (h : WO w base g v s q u t) (ho : Own .i64 3 w b2 x ys) :
    (some g ≠ x.v.ownBlock ∧ some q ≠ x.v.ownBlock) ∧ (∀ b, v.ownBlock = some b → some b ≠ x.v.ownBlock) ∧ ∀ b, u.ownBlock = some b → some b ≠ x.v.ownBlock := by
  refine ⟨⟨fun e => ?_, fun e => ?_⟩, fun b hb e => ?_, fun b hb e => ?_⟩
  · obtain ⟨c, hc⟩ := ho.typed g e.symm
    exact typed_ne h.wr.blk hc (by decide)
  · obtain ⟨c, hc⟩ := ho.typed q e.symm
    exact typed_ne h.ou.blk hc (by decide)
  · obtain ⟨c, hc⟩ := ho.typed b e.symm
    obtain ⟨c2, hc2⟩ := R_typed h.wr.row hb
    exact typed_ne hc2 hc (by decide)
  · obtain ⟨c, hc⟩ := ho.typed b e.symm
    obtain ⟨c2, hc2⟩ := R_typed h.ou.row hb
    exact typed_ne hc2 hc (by decide)
/-- A Writer, an Out and two lists of numbers, all apart. -/
structure LpAt (W0 w : World) (g : Nat) (v : Value) (s : List Int × Int) (q : Nat) (u : Value) (t : List Int × Int) (x1 x2 : Sl) (y1 y2 : List Int) : Prop where
  wo : WO w W0.heap.size g v s q u t
  o1 : Own .i64 3 w W0.heap.size x1 y1
  o2 : Own .i64 3 w W0.heap.size x2 y2
  ne : ∀ b, x1.v.ownBlock = some b → x2.v.ownBlock ≠ some b
  bel : Below W0.heap.size W0 w
section
variable {W0 w w' : World} {g q : Nat} {v v' u u' : Value} {s s' t t' : List Int × Int} {x1 x2 z : Sl} {y1 y2 ys : List Int}
theorem LpAt.below (h : LpAt W0 w g v s q u t x1 x2 y1 y2) (hb : Below w.heap.size w w') : LpAt W0 w' g v s q u t x1 x2 y1 y2 :=
  ⟨h.wo.below hb, h.o1.below hb, h.o2.below hb, h.ne, h.bel.trans (hb.mono h.bel.size)⟩
theorem LpAt.wk (h : LpAt W0 w g v s q u t x1 x2 y1 y2) (hw : WrAt w' W0.heap.size g v' s'.1 s'.2) (hk : WrKeeps w w' g v v') : LpAt W0 w' g v' s' q u t x1 x2 y1 y2 :=
  ⟨h.wo.w hw hk, h.o1.move fun b hb => hk.block b (h.o1.lt b hb).2 (fun e => (h.wo.apart h.o1).1.1 (by rw [hb, e])) (fun e => (h.wo.apart h.o1).2.1 b e.symm hb.symm),
    h.o2.move fun b hb => hk.block b (h.o2.lt b hb).2 (fun e => (h.wo.apart h.o2).1.1 (by rw [hb, e])) (fun e => (h.wo.apart h.o2).2.1 b e.symm hb.symm), h.ne, h.bel.trans (hk.below h.wo.wr h.bel.size)⟩
theorem LpAt.o (h : LpAt W0 w g v s q u t x1 x2 y1 y2) (ho : OutAt w' W0.heap.size q u' t'.1 t'.2) (hk : WrKeeps w w' q u u') : LpAt W0 w' g v s q u' t' x1 x2 y1 y2 :=
  ⟨h.wo.o ho hk, h.o1.move fun b hb => hk.block b (h.o1.lt b hb).2 (fun e => (h.wo.apart h.o1).1.2 (by rw [hb, e])) (fun e => (h.wo.apart h.o1).2.2 b e.symm hb.symm),
    h.o2.move fun b hb => hk.block b (h.o2.lt b hb).2 (fun e => (h.wo.apart h.o2).1.2 (by rw [hb, e])) (fun e => (h.wo.apart h.o2).2.2 b e.symm hb.symm), h.ne, h.bel.trans (OutAt.keeps_below hk h.wo.ou h.bel.size)⟩
theorem LpAt.c1 (h : LpAt W0 w g v s q u t x1 x2 y1 y2) (ho : Own .i64 3 w' W0.heap.size z ys) (hg : w.grownBy w' x1.v.ownBlock) (hat : z.v.ownBlock = x1.v.ownBlock ∨ ∃ b, z.v.ownBlock = some b ∧ w.heap.size ≤ b) : LpAt W0 w' g v s q u t z x2 ys y2 := by
  have ha := h.wo.apart h.o1
  refine ⟨h.wo.grown hg ha.1.1 ha.1.2 ha.2.1 ha.2.2, ho, h.o2.grown hg (fun b hb e => h.ne b e.symm hb), fun b e1 e2 => ?_, h.bel.grown hg h.bel.size (fun k e => (h.o1.lt k e).1)⟩
  rcases hat with e | ⟨k, e, hk⟩
  · exact h.ne b (by rw [← e, e1]) e2
  · rw [e1] at e
    cases e
    have := (h.o2.lt b e2).2
    omega
theorem LpAt.c2 (h : LpAt W0 w g v s q u t x1 x2 y1 y2) (ho : Own .i64 3 w' W0.heap.size z ys) (hg : w.grownBy w' x2.v.ownBlock) (hat : z.v.ownBlock = x2.v.ownBlock ∨ ∃ b, z.v.ownBlock = some b ∧ w.heap.size ≤ b) : LpAt W0 w' g v s q u t x1 z y1 ys := by
  have ha := h.wo.apart h.o2
  refine ⟨h.wo.grown hg ha.1.1 ha.1.2 ha.2.1 ha.2.2, h.o1.grown hg (fun b hb e => h.ne b hb e.symm), ho, fun b e1 e2 => ?_, h.bel.grown hg h.bel.size (fun k e => (h.o2.lt k e).1)⟩
  rcases hat with e | ⟨k, e, hk⟩
  · exact h.ne b e1 (by rw [← e, e2])
  · rw [e2] at e
    cases e
    have := (h.o1.lt b e1).2
    omega
theorem LpAt.f1 (h : LpAt W0 w g v s q u t x1 x2 y1 y2) : Kd.F (Kd.int .i64) w (fun k => k ≠ g ∧ some k ≠ v.ownBlock) x1.A y1.length y1 := fun W' hk =>
  (h.o1.move (W' := W') fun b hb => hk b ⟨fun e => (h.wo.apart h.o1).1.1 (by rw [hb, e]), fun e => (h.wo.apart h.o1).2.1 b e.symm hb.symm⟩ (h.o1.lt b hb).2).reads
end
/-- A Writer, an Out and a row of bytes, all apart. -/
structure LbAt (W0 w : World) (g : Nat) (v : Value) (s : List Int × Int) (q : Nat) (u : Value) (t : List Int × Int) (x : Sl) (ys : List Int) : Prop where
  wo : WO w W0.heap.size g v s q u t
  own : Own .u8 5 w W0.heap.size x ys
  nv : ∀ b, x.v.ownBlock = some b → v.ownBlock ≠ some b
  nu : ∀ b, x.v.ownBlock = some b → u.ownBlock ≠ some b
  bel : Below W0.heap.size W0 w
section
variable {W0 w w' : World} {g q : Nat} {v v' u u' : Value} {s s' t t' : List Int × Int} {x : Sl} {ys zs : List Int}
theorem LbAt.ng (h : LbAt W0 w g v s q u t x ys) : some g ≠ x.v.ownBlock ∧ some q ≠ x.v.ownBlock := by
  refine ⟨fun e => ?_, fun e => ?_⟩
  · obtain ⟨c, hc⟩ := h.own.typed g e.symm
    exact typed_ne h.wo.wr.blk hc (by decide)
  · obtain ⟨c, hc⟩ := h.own.typed q e.symm
    exact typed_ne h.wo.ou.blk hc (by decide)
theorem LbAt.below (h : LbAt W0 w g v s q u t x ys) (hb : Below w.heap.size w w') : LbAt W0 w' g v s q u t x ys :=
  ⟨h.wo.below hb, h.own.below hb, h.nv, h.nu, h.bel.trans (hb.mono h.bel.size)⟩
theorem own_new {a b : Option Nat} {n k : Nat} (h : b = a ∨ ∃ j, b = some j ∧ n ≤ j) (h1 : a ≠ some k) (h2 : k < n) : b ≠ some k := fun e => by
  rcases h with h | ⟨j, h, hj⟩
  · exact h1 (by rw [← h, e])
  · rw [e] at h
    cases h
    omega
theorem LbAt.wk (h : LbAt W0 w g v s q u t x ys) (hw : WrAt w' W0.heap.size g v' s'.1 s'.2) (hk : WrKeeps w w' g v v') : LbAt W0 w' g v' s' q u t x ys :=
  ⟨h.wo.w hw hk, h.own.move fun b hb => hk.block b (h.own.lt b hb).2 (fun e => h.ng.1 (by rw [hb, e])) (fun e => h.nv b hb e.symm), fun b hb => own_new hk.own (h.nv b hb) (h.own.lt b hb).2, h.nu, h.bel.trans (hk.below h.wo.wr h.bel.size)⟩
theorem LbAt.o (h : LbAt W0 w g v s q u t x ys) (ho : OutAt w' W0.heap.size q u' t'.1 t'.2) (hk : WrKeeps w w' q u u') : LbAt W0 w' g v s q u' t' x ys :=
  ⟨h.wo.o ho hk, h.own.move fun b hb => hk.block b (h.own.lt b hb).2 (fun e => h.ng.2 (by rw [hb, e])) (fun e => h.nu b hb e.symm), h.nv, fun b hb => own_new hk.own (h.nu b hb) (h.own.lt b hb).2, h.bel.trans (OutAt.keeps_below hk h.wo.ou h.bel.size)⟩
theorem LbAt.laid (h : LbAt W0 w g v s q u t x ys) (ho : Own .u8 5 w' W0.heap.size x zs) (hg : w.grownBy w' x.v.ownBlock) : LbAt W0 w' g v s q u t x zs :=
  ⟨h.wo.grown hg h.ng.1 h.ng.2 (fun b hb e => h.nv b e.symm hb) (fun b hb e => h.nu b e.symm hb), ho, h.nv, h.nu, h.bel.grown hg h.bel.size (fun k e => (h.own.lt k e).1)⟩
theorem LbAt.make (h : WO w W0.heap.size g v s q u t) (hbel : Below W0.heap.size W0 w) (hb : Below w.heap.size w w') (ho : Own .u8 5 w' w.heap.size x ys) : LbAt W0 w' g v s q u t x ys :=
  ⟨h.below hb, ho.lower hbel.size, fun b hb e => by have := (ho.lt b hb).1; have := (row_lt h.wr.row e).2; omega, fun b hb e => by have := (ho.lt b hb).1; have := (row_lt h.ou.row e).2; omega, hbel.trans (hb.mono hbel.size)⟩
end
theorem turnedB_c (A : Option Addr) (n c : Nat) (xs : List Int) (W : World) (hl : xs.length ≤ 281474976710) (hr : Kd.C (Kd.int .u8) W A n xs) (hc : n ≤ c) : Calls Try.prog 67 #[.slice A n c] W fun e w' => ∃ A' n' c', e = .returned (.slice A' n' c') ∧ Own .u8 5 w' W.heap.size ⟨A', n', c'⟩ (turnL xs) ∧ Below W.heap.size W w' := by
  have hn : xs.length = n := hr.1
  subst hn
  refine (bulkheadlaw02_turned.calls _ A c xs _ W hr hc (Pure.turned_eq xs hl (xs.length + 1) (Nat.lt_succ_self _))).mono ?_
  rintro e w' ⟨v, rfl, hR, hB⟩
  obtain ⟨A', n', c', rfl, ho⟩ := Own.of_R3 hR
  exact ⟨A', n', c', rfl, ho, hB⟩
theorem src_neB {W : World} {B : Option Addr} {m d : Nat} {ys : List Int} (h : Kd.C (Kd.int .u8) W B m ys) (hp : 0 < ys.length) (b : Nat) (hb : (Value.slice B m d).ownBlock = some b) : b < W.heap.size := by
  have hm := h.1
  obtain ⟨ad, e, hx⟩ := Kd.at_int h 0 (by omega) (by omega)
  subst e
  have := World.block_lt_of_cell? W _ hx
  rw [add_blk] at this
  have e2 : ad.block = b := by simpa [Value.ownBlock] using hb
  omega


theorem step_set (l ys : List Int) (i : Nat) (hi : i < l.length) (hl : ys.length = l.length) : (l.take i ++ ys.drop i).set i (l[i]) = l.take (i + 1) ++ ys.drop (i + 1) := by
  apply List.ext_getElem?
  intro j
  rw [List.getElem?_set]
  by_cases h : i = j
  · subst h
    rw [if_pos rfl, if_pos (by simp; omega)]
    rw [List.getElem?_append_left (by simp; omega)]
    simp [hi]
  · rw [if_neg h]
    simp only [List.getElem?_append, List.getElem?_take, List.getElem?_drop, List.length_take]
    by_cases h2 : j < i
    · rw [if_pos (by omega), if_pos h2, if_pos (by omega), if_pos (by omega)]
    · rw [if_neg (by omega), if_neg (by omega)]
      congr 1
      omega
set_option maxHeartbeats 16000000 in
set_option maxRecDepth 100000 in
theorem listsPlaced_is (A2 : Option Addr) (c2 : Nat) (list : List Int) (A1 : Option Addr) (c1 : Nat) (bytes : List Int) (W : World) (hr2 : Kd.C (Kd.int .i64) W A2 list.length list) (hc2 : list.length ≤ c2) (hr1 : Kd.C (Kd.int .u8) W A1 bytes.length bytes) (hc1 : bytes.length ≤ c1)
    (hl2 : list.length ≤ 16777216) (hl1 : bytes.length ≤ 16777216) :
    Calls Try.prog 89 #[.slice A2 list.length c2, .slice A1 bytes.length c1] W fun e w' => e = .returned (.bool true) ∧ Below W.heap.size W w' := by
  have hu53 := Try.underlying53
  obtain ⟨N1, hN1⟩ : ∃ N, bytes.length = N := ⟨_, rfl⟩
  obtain ⟨N2, hN2⟩ : ∃ N, list.length = N := ⟨_, rfl⟩
  rw [hN1] at hr1 hc1 hl1 ⊢
  rw [hN2] at hr2 hc2 hl2 ⊢
  have HN1 := Aside0.mk hN1
  have HN2 := Aside0.mk hN2
  have HW := Aside0.mk (newWriter_is W)
  have HR1 := Aside0.mk (fun (w' : World) (hp : Below W.heap.size W w') => Kd.C_below hr1 hp)
  have HR2 := Aside0.mk (fun (w' : World) (hp : Below W.heap.size W w') => Kd.C_below hr2 hp)
  have HC1 := Aside0.mk hc1
  have HC2 := Aside0.mk hc2
  have HL1 := Aside0.mk hl1
  have HSL := Aside0.mk (fun (hp : 0 < bytes.length) (b : Nat) (hb : (Value.slice A1 N1 c1).ownBlock = some b) => src_neB hr1 hp b hb)
  obtain ⟨g, hg⟩ : ∃ g, W.heap.size = g := ⟨_, rfl⟩
  rw [hg] at HW
  have HG := Aside0.mk hg
  clear hr1 hc1 hr2 hc2 hN1 hN2 hl1 hg
  go_enter Try.func89, Try.ntmps89
  go_wp2_with (go_at_call 35; have HCC := HW.out; (with_reducible refine HCC.mono ?_); rintro e w1 ⟨rfl, hw1, hb1⟩; have HW1 := Aside0.mk hw1; have HB1 := Aside0.mk hb1; clear hw1 hb1 HCC HW)
  have hal := Aside0.mk ((Below.refl w1.heap.size w1).alloc (Nat.le_refl _) (.cells #[.slice none 0 0, .int .i64 0] 53))
  have HWO := Aside0.mk (show LpAt W (w1.alloc (.cells #[.slice none 0 0, .int .i64 0] 53)) g (.slice none 0 0) ([], 0) w1.heap.size (.slice none 0 0) ([], 0) ⟨none, 0, 0⟩ ⟨none, 0, 0⟩ [] [] from by
    have hb2 : Below W.heap.size W w1 := by have := HB1.out; rw [← HG.out] at this; exact this
    have hw : WrAt w1 W.heap.size g (.slice none 0 0) [] 0 := by rw [HG.out]; exact HW1.out
    exact ⟨⟨hw.below hal.out, ⟨hb2.size, heap_alloc_new _ _, Kd.R_nil _ _ _ _ _⟩, fun b hb => (by cases hb)⟩, Own.nil, Own.nil, fun b hb => (by cases hb), hb2.trans (hal.out.mono hb2.size)⟩)
  obtain ⟨q, hq⟩ : ∃ q, w1.heap.size = q := ⟨_, rfl⟩
  obtain ⟨w2, hw2⟩ : ∃ w2, w1.alloc (.cells #[.slice none 0 0, .int .i64 0] 53) = w2 := ⟨_, rfl⟩
  rw [hq, hw2] at HWO
  simp only [hq, hw2]
  clear hal HW1 HB1 hw2 hq
  go_loopw [7, 8, 9] (fun v7 v8 v9 wr => ∃ (i : Nat) (x1 x2 : Sl) (ys : List Int), v9 = .int .i64 (i : Nat) ∧ i ≤ N2 ∧ v7 = .slice x1.A x1.n x1.c ∧ v8 = .slice x2.A x2.n x2.c ∧ Aside0 (ys.length = i ∧ LpAt W wr g (.slice none 0 0) ([], 0) q (.slice none 0 0) ([], 0) x1 x2 ys ys)) (fun _ _ v9 _ => N2 - (intOf v9).toNat)
  case atStart => exact ⟨0, ⟨none, 0, 0⟩, ⟨none, 0, 0⟩, [], rfl, Nat.zero_le _, rfl, rfl, ⟨rfl, HWO.out⟩⟩
  case round =>
    clear HWO
    obtain ⟨i, x1, x2, ys, rfl, hi, rfl, rfl, HP⟩ := hrel
    by_cases hlt : i < N2
    · obtain ⟨ad, e, hx⟩ := Kd.at_int (HR2.out wr HP.out.2.bel) (i : Int) (by omega) (by omega)
      subst e
      rw [Int.toNat_natCast] at hx
      have hii : (i : Int) < (N2 : Int) := by omega
      have HRD := Aside0.mk (fun (w' : World) (hb : Below W.heap.size W w') => (show w'.cell? (ad.add i) = some (.int .i64 (rd list (i : Int))) from by
        obtain ⟨ad2, e2, hx2⟩ := Kd.at_int (HR2.out w' hb) (i : Int) (by omega) (by omega)
        cases e2
        rw [Int.toNat_natCast] at hx2
        exact hx2))
      generalize rd list (i : Int) = x at *
      have HLL := Aside0.mk (show (ys.length + 1) * 8 ≤ 140737488355328 by have := HP.out.1; omega)
      go_wp2_with (first
        | ((with_reducible refine gate_builtin (b := .append) (xs := #[.tmp 27, .tmp 33]) rfl ?_); at_builtin; refine print_append_both (w0 := W) W.heap.size rfl (.tmp 27) (.tmp 33) 56 3 (.int .i64 0) 8 rfl Try.underlying56 infoInt rfl (by decide) (.slice x1.A x1.n x1.c) (nums .i64 ys) _ rfl rfl rfl ?aO ?aB ?aS ?aL ?_; (case aO => rw [nums_length]; exact HP.out.2.o1); (case aB => exact HP.out.2.bel); (case aS => exact HP.out.2.bel.size); (case aL => rw [nums_length]; exact HLL.out); intro v1 w4 ho _ hb hg hat; obtain ⟨z1, rfl, hsn, hown⟩ := own_more_i ho; have HP1 := Aside0.mk (HP.out.2.c1 hown hg hat); have hx4 := HRD.out w4 HP1.out.bel; clear ho hb hg hat hsn hown)
        | ((with_reducible refine gate_builtin (b := .append) (xs := #[.tmp 35, .tmp 41]) rfl ?_); at_builtin; refine print_append_both (w0 := W) W.heap.size rfl (.tmp 35) (.tmp 41) 56 3 (.int .i64 0) 8 rfl Try.underlying56 infoInt rfl (by decide) (.slice x2.A x2.n x2.c) (nums .i64 ys) _ rfl rfl rfl ?aO ?aB ?aS ?aL ?_; (case aO => rw [nums_length]; exact HP1.out.o2); (case aB => exact HP1.out.bel); (case aS => exact HP1.out.bel.size); (case aL => rw [nums_length]; exact HLL.out); intro v1 w5 ho _ hb hg hat; obtain ⟨z2, rfl, hsn, hown⟩ := own_more_i ho; have HP2 := Aside0.mk (HP1.out.c2 hown hg hat); clear ho hb hg hat hsn hown))
      go_roundw
      case rel => exact ⟨i + 1, z1, z2, _, by go_num, by omega, rfl, rfl, ⟨by rw [List.length_append, HP.out.1]; rfl, HP2.out⟩⟩
      case measure => simp [intOf]; omega
    · have hne : ¬ ((i : Int) < (N2 : Int)) := by omega
      have HPE := Aside0.mk (show ys.length = N2 ∧ LpAt W wr g (.slice none 0 0) ([], 0) q (.slice none 0 0) ([], 0) x1 x2 ys ys from ⟨by have := HP.out.1; omega, HP.out.2⟩)
      clear hlt HP hi
      go_wp2
      have e1 : N2 = x1.n := by have := HPE.out.2.o1.len; have := HPE.out.1; omega
      have e2 : N2 = x2.n := by have := HPE.out.2.o2.len; have := HPE.out.1; omega
      obtain ⟨P1, m1, d1⟩ := x1
      obtain ⟨P2, m2, d2⟩ := x2
      dsimp only at e1 e2 ⊢
      subst e1
      subst e2
      clear hne
      go_loopw [10] (fun v10 wr => ∃ (k : Nat) (v u : Value) (s : List Int × Int) (zs : List Int), v10 = .int .i64 (k : Nat) ∧ k ≤ 2 ∧ Aside0 (zs.length = N2 ∧ s.1.length ≤ k * (4 + 2 * N2) ∧ LpAt W wr g v s q u s ⟨P1, N2, d1⟩ ⟨P2, N2, d2⟩ zs zs)) (fun v10 _ => 2 - (intOf v10).toNat)
      case atStart => exact ⟨0, _, _, _, ys, rfl, Nat.zero_le _, ⟨HPE.out.1, Nat.zero_le _, HPE.out.2⟩⟩
      case round =>
        clear HPE
        obtain ⟨k, v, u, s, zs, rfl, hk, HP⟩ := hrel
        have HBD := Aside0.mk (show s.1.length + 4 + 2 * N2 ≤ 4398046511104 by have := HP.out.2.1; have : k * (4 + 2 * N2) ≤ 2 * (4 + 2 * N2) := Nat.mul_le_mul_right _ hk; omega)
        by_cases hlt : k < 2
        · obtain ⟨sf, hsf⟩ : ∃ sf, wList s zs (N2 : Nat) = sf := ⟨_, rfl⟩
          have HE := Aside0.mk hsf
          have HSF := Aside0.mk (show sf.1.length ≤ (k + 1) * (4 + 2 * N2) by have h9 := wList_len s zs (N2 : Nat); rw [hsf] at h9; have := HP.out.1; have := HP.out.2.1; rw [Nat.succ_mul]; omega)
          have HCW := Aside0.mk (show Calls Try.prog 84 #[.pointer (some ⟨g, 0, none⟩), .slice P1 N2 d1, .int .i64 (N2 : Nat), .func (.func 128) #[] #[]] wr (WPost wr W.heap.size g v sf) from by
            have h9 := putListL_is P1 d1 zs (N2 : Nat) wr W.heap.size g v s HP.out.2.2.f1 HP.out.2.2.wo.wr HP.out.2.2.bel.size (by have := HP.out.1; have := HBD.out; omega)
            rw [hsf, HP.out.1] at h9
            exact h9)
          obtain ⟨f, hf⟩ : ∃ f, s.2 = f := ⟨_, rfl⟩
          have HF := Aside0.mk hf
          have hkk : (k : Int) < 2 := by omega
          clear hsf hf
          by_cases h0 : f = 0
          · subst h0
            go_wp2_with (first
              | (go_at_call 84; have HCC := HCW.out; (with_reducible refine HCC.mono ?_); rintro e w3 ⟨⟨vr, rfl⟩, v3, hw3, hk3⟩; have HL3 := Aside0.mk (HP.out.2.2.wk (s' := sf) hw3 hk3); have jf : w3.cell? ⟨q, 1, none⟩ = some (.int .i64 0) := (by rw [← HF.out]; exact (blk_cell HL3.out.wo.ou.blk 1).trans rfl); have HCN := Aside0.mk (oCount_is N2 (N2 : Nat) (by omega) w3 W.heap.size q u s HL3.out.wo.ou HL3.out.bel.size (by have := HBD.out; omega)); clear hw3 hk3 HCC HCW)
              | (go_at_call 87; have HCC := HCN.out; (with_reducible refine HCC.mono ?_); rintro e w5 ⟨rfl, u5, ho5, hk5⟩; have HLC := Aside0.mk (HL3.out.o ho5 hk5); clear ho5 hk5 HCC HCN))
            go_loopw [11] (fun vi wr => ∃ (j : Nat) (u6 : Value), vi = .int .i64 (j : Nat) ∧ j ≤ N2 ∧ Aside0 (LpAt W wr g v3 sf q u6 (wAt s zs (N2 : Nat) j) ⟨P1, N2, d1⟩ ⟨P2, N2, d2⟩ zs zs)) (fun vi _ => N2 - (intOf vi).toNat)
            case atStart => exact ⟨0, u5, rfl, Nat.zero_le _, ⟨by rw [wAt_zero, HP.out.1]; exact HLC.out⟩⟩
            case round =>
              clear HLC jf HL3
              obtain ⟨j, u6, rfl, hj, HWK⟩ := hrel
              obtain ⟨f6, hf6⟩ : ∃ f, (wAt s zs (N2 : Nat) j).2 = f := ⟨_, rfl⟩
              have j1 : wr.cell? ⟨q, 1, none⟩ = some (.int .i64 f6) := by rw [← hf6]; exact (blk_cell HWK.out.wo.ou.blk 1).trans rfl
              have HF6 := Aside0.mk hf6
              clear hf6
              by_cases hlt : j < N2
              · obtain ⟨ad, e, hx⟩ := Kd.at_int HWK.out.o2.reads (j : Int) (by omega) (by have := HP.out.1; omega)
                dsimp only at e
                subst e
                have hxe : rd zs (j : Int) = zs[j]'(by have := HP.out.1; omega) := by simp [rd, List.getD_eq_getElem?_getD, show j < zs.length by have := HP.out.1; omega]
                have HS := Aside0.mk (wAt_succ s zs (N2 : Nat) j (by have := HP.out.1; omega))
                have HCL := Aside0.mk (oU16_is (zs[j]'(by have := HP.out.1; omega)) wr W.heap.size q u6 (wAt s zs (N2 : Nat) j) HWK.out.wo.ou HWK.out.bel.size (by have := wAt_len s zs (N2 : Nat) j (by have := HP.out.1; omega); have := HBD.out; omega))
                have HST := Aside0.mk (fun h => wAt_stop s zs (N2 : Nat) j h)
                rw [hxe, Int.toNat_natCast] at hx
                generalize (zs[j]'(by have := HP.out.1; omega)) = x at *
                have hjj : (j : Int) < (N2 : Int) := by omega
                clear hxe
                by_cases h0 : f6 = 0
                · subst h0
                  go_wp2_with (go_at_call 74; have HCC := HCL.out; (with_reducible refine HCC.mono ?_); rintro e w7 ⟨rfl, u7, ho7, hk7⟩; have HWO7 := Aside0.mk (HWK.out.o ho7 hk7); clear ho7 hk7 HCC)
                  go_roundw
                  case rel => exact ⟨j + 1, u7, by go_num, by omega, ⟨by rw [HS.out]; exact HWO7.out⟩⟩
                  case measure => simp [intOf]; omega
                · have hq1 : (f6 == 0) = false := by rw [beq_eq_false_iff_ne]; exact h0
                  have hq2 : (f6 != 0) = true := by rw [bne_iff_ne]; exact h0
                  have HEN := Aside0.mk (show wAt s zs (N2 : Nat) j = sf by rw [HST.out (by rw [HF6.out]; exact h0)]; exact HE.out)
                  have HLE := Aside0.mk (show LpAt W wr g v3 sf q u6 sf ⟨P1, N2, d1⟩ ⟨some ad, N2, d2⟩ zs zs by have h9 := HWK.out; rw [HEN.out] at h9; exact h9)
                  clear hx
                  go_wp2
                  go_loopw [12] (fun vi wr => ∃ (j : Nat) (ys : List Int), vi = .int .i64 (j : Nat) ∧ j ≤ N2 ∧ Aside0 (ys.length = N2 ∧ LpAt W wr g v3 sf q u6 sf ⟨P1, N2, d1⟩ ⟨some ad, N2, d2⟩ ys ys)) (fun vi _ => N2 - (intOf vi).toNat)
                  case atStart => exact ⟨0, zs, rfl, Nat.zero_le _, ⟨HP.out.1, HLE.out⟩⟩
                  case round =>
                    clear HLE
                    obtain ⟨j, ys, rfl, hj, HY⟩ := hrel
                    by_cases hlt : j < N2
                    · obtain ⟨G1, hA1, -, -, -⟩ := HY.out.2.o1.form (by have := HY.out.1; omega)
                      obtain ⟨G2, hA2, -, -, -⟩ := HY.out.2.o2.form (by have := HY.out.1; omega)
                      obtain ⟨ad, e, hx⟩ := Kd.at_int (HR2.out wr HY.out.2.bel) (j : Int) (by omega) (by omega)
                      dsimp only at hA1 hA2
                      cases e
                      cases hA1
                      cases hA2
                      rw [Int.toNat_natCast] at hx
                      have hjj : (j : Int) < (N2 : Int) := by omega
                      have HRD := Aside0.mk (fun (w' : World) (hb : Below W.heap.size W w') => (show w'.cell? (ad.add j) = some (.int .i64 (rd list (j : Int))) from by
                        obtain ⟨ad2, e2, hx2⟩ := Kd.at_int (HR2.out w' hb) (j : Int) (by omega) (by omega)
                        cases e2
                        rw [Int.toNat_natCast] at hx2
                        exact hx2))
                      generalize rd list (j : Int) = x at *
                      obtain ⟨hc0, hc1⟩ := HY.out.2.o1.cell rfl j (by have := HY.out.1; omega)
                      have HY1 := Aside0.mk (HY.out.2.c1 (HY.out.2.o1.put (g := G1) rfl j x) (grown_set (p := ⟨G1, j, none⟩) (grown_refl wr (some G1)) rfl (.int .i64 x)) (.inl rfl))
                      have hx1 := HRD.out _ HY1.out.bel
                      obtain ⟨hd0, hd1⟩ := HY1.out.o2.cell rfl j (by have := HY.out.1; omega)
                      have HY2 := Aside0.mk (HY1.out.c2 (HY1.out.o2.put (g := G2) rfl j x) (grown_set (p := ⟨G2, j, none⟩) (grown_refl _ (some G2)) rfl (.int .i64 x)) (.inl rfl))
                      go_wp2
                      go_roundw
                      case rel => exact ⟨j + 1, ys.set j x, by go_num, by omega, ⟨by rw [List.length_set]; exact HY.out.1, HY2.out⟩⟩
                      case measure => simp [intOf]; omega
                    · have hne : ¬ ((j : Int) < (N2 : Int)) := by omega
                      clear hlt
                      go_wp2
                      go_roundw
                      case rel => exact ⟨k + 1, v3, u6, sf, ys, by go_num, by omega, ⟨HY.out.1, HSF.out, HY.out.2⟩⟩
                      case measure => simp [intOf]; omega
              · have hne : ¬ ((j : Int) < (N2 : Int)) := by omega
                have HEN := Aside0.mk (show wAt s zs (N2 : Nat) j = sf by rw [show j = zs.length by have := HP.out.1; omega, wAt_end]; exact HE.out)
                have HLE := Aside0.mk (show LpAt W wr g v3 sf q u6 sf ⟨P1, N2, d1⟩ ⟨P2, N2, d2⟩ zs zs by have h9 := HWK.out; rw [HEN.out] at h9; exact h9)
                clear hlt hj
                go_wp2
                go_loopw [12] (fun vi wr => ∃ (j : Nat) (ys : List Int), vi = .int .i64 (j : Nat) ∧ j ≤ N2 ∧ Aside0 (ys.length = N2 ∧ LpAt W wr g v3 sf q u6 sf ⟨P1, N2, d1⟩ ⟨P2, N2, d2⟩ ys ys)) (fun vi _ => N2 - (intOf vi).toNat)
                case atStart => exact ⟨0, zs, rfl, Nat.zero_le _, ⟨HP.out.1, HLE.out⟩⟩
                case round =>
                  clear HLE
                  obtain ⟨j, ys, rfl, hj, HY⟩ := hrel
                  by_cases hlt : j < N2
                  · obtain ⟨G1, hA1, -, -, -⟩ := HY.out.2.o1.form (by have := HY.out.1; omega)
                    obtain ⟨G2, hA2, -, -, -⟩ := HY.out.2.o2.form (by have := HY.out.1; omega)
                    obtain ⟨ad, e, hx⟩ := Kd.at_int (HR2.out wr HY.out.2.bel) (j : Int) (by omega) (by omega)
                    dsimp only at hA1 hA2
                    cases e
                    cases hA1
                    cases hA2
                    rw [Int.toNat_natCast] at hx
                    have hjj : (j : Int) < (N2 : Int) := by omega
                    have HRD := Aside0.mk (fun (w' : World) (hb : Below W.heap.size W w') => (show w'.cell? (ad.add j) = some (.int .i64 (rd list (j : Int))) from by
                      obtain ⟨ad2, e2, hx2⟩ := Kd.at_int (HR2.out w' hb) (j : Int) (by omega) (by omega)
                      cases e2
                      rw [Int.toNat_natCast] at hx2
                      exact hx2))
                    generalize rd list (j : Int) = x at *
                    obtain ⟨hc0, hc1⟩ := HY.out.2.o1.cell rfl j (by have := HY.out.1; omega)
                    have HY1 := Aside0.mk (HY.out.2.c1 (HY.out.2.o1.put (g := G1) rfl j x) (grown_set (p := ⟨G1, j, none⟩) (grown_refl wr (some G1)) rfl (.int .i64 x)) (.inl rfl))
                    have hx1 := HRD.out _ HY1.out.bel
                    obtain ⟨hd0, hd1⟩ := HY1.out.o2.cell rfl j (by have := HY.out.1; omega)
                    have HY2 := Aside0.mk (HY1.out.c2 (HY1.out.o2.put (g := G2) rfl j x) (grown_set (p := ⟨G2, j, none⟩) (grown_refl _ (some G2)) rfl (.int .i64 x)) (.inl rfl))
                    go_wp2
                    go_roundw
                    case rel => exact ⟨j + 1, ys.set j x, by go_num, by omega, ⟨by rw [List.length_set]; exact HY.out.1, HY2.out⟩⟩
                    case measure => simp [intOf]; omega
                  · have hne : ¬ ((j : Int) < (N2 : Int)) := by omega
                    clear hlt
                    go_wp2
                    go_roundw
                    case rel => exact ⟨k + 1, v3, u6, sf, ys, by go_num, by omega, ⟨HY.out.1, HSF.out, HY.out.2⟩⟩
                    case measure => simp [intOf]; omega
          · have hq1 : (f == 0) = false := by rw [beq_eq_false_iff_ne]; exact h0
            have hq2 : (f != 0) = true := by rw [bne_iff_ne]; exact h0
            go_wp2_with (go_at_call 84; have HCC := HCW.out; (with_reducible refine HCC.mono ?_); rintro e w3 ⟨⟨vr, rfl⟩, v3, hw3, hk3⟩; have HL3 := Aside0.mk (HP.out.2.2.wk (s' := sf) hw3 hk3); have jf : w3.cell? ⟨q, 1, none⟩ = some (.int .i64 f) := (by rw [← HF.out]; exact (blk_cell HL3.out.wo.ou.blk 1).trans rfl); have HLC := Aside0.mk (show LpAt W w3 g v3 sf q u (wHead s N2 (N2 : Nat)) ⟨P1, N2, d1⟩ ⟨P2, N2, d2⟩ zs zs by rw [wHead_stick s N2 (N2 : Nat) (by rw [HF.out]; exact h0)]; exact HL3.out); clear hw3 hk3 HCC HCW)
            go_loopw [11] (fun vi wr => ∃ (j : Nat) (u6 : Value), vi = .int .i64 (j : Nat) ∧ j ≤ N2 ∧ Aside0 (LpAt W wr g v3 sf q u6 (wAt s zs (N2 : Nat) j) ⟨P1, N2, d1⟩ ⟨P2, N2, d2⟩ zs zs)) (fun vi _ => N2 - (intOf vi).toNat)
            case atStart => exact ⟨0, u, rfl, Nat.zero_le _, ⟨by rw [wAt_zero, HP.out.1]; exact HLC.out⟩⟩
            case round =>
              clear HLC jf HL3
              obtain ⟨j, u6, rfl, hj, HWK⟩ := hrel
              obtain ⟨f6, hf6⟩ : ∃ f, (wAt s zs (N2 : Nat) j).2 = f := ⟨_, rfl⟩
              have j1 : wr.cell? ⟨q, 1, none⟩ = some (.int .i64 f6) := by rw [← hf6]; exact (blk_cell HWK.out.wo.ou.blk 1).trans rfl
              have HF6 := Aside0.mk hf6
              clear hf6
              by_cases hlt : j < N2
              · obtain ⟨ad, e, hx⟩ := Kd.at_int HWK.out.o2.reads (j : Int) (by omega) (by have := HP.out.1; omega)
                dsimp only at e
                subst e
                have hxe : rd zs (j : Int) = zs[j]'(by have := HP.out.1; omega) := by simp [rd, List.getD_eq_getElem?_getD, show j < zs.length by have := HP.out.1; omega]
                have HS := Aside0.mk (wAt_succ s zs (N2 : Nat) j (by have := HP.out.1; omega))
                have HCL := Aside0.mk (oU16_is (zs[j]'(by have := HP.out.1; omega)) wr W.heap.size q u6 (wAt s zs (N2 : Nat) j) HWK.out.wo.ou HWK.out.bel.size (by have := wAt_len s zs (N2 : Nat) j (by have := HP.out.1; omega); have := HBD.out; omega))
                have HST := Aside0.mk (fun h => wAt_stop s zs (N2 : Nat) j h)
                rw [hxe, Int.toNat_natCast] at hx
                generalize (zs[j]'(by have := HP.out.1; omega)) = x at *
                have hjj : (j : Int) < (N2 : Int) := by omega
                clear hxe
                by_cases h0 : f6 = 0
                · subst h0
                  go_wp2_with (go_at_call 74; have HCC := HCL.out; (with_reducible refine HCC.mono ?_); rintro e w7 ⟨rfl, u7, ho7, hk7⟩; have HWO7 := Aside0.mk (HWK.out.o ho7 hk7); clear ho7 hk7 HCC)
                  go_roundw
                  case rel => exact ⟨j + 1, u7, by go_num, by omega, ⟨by rw [HS.out]; exact HWO7.out⟩⟩
                  case measure => simp [intOf]; omega
                · have hq1 : (f6 == 0) = false := by rw [beq_eq_false_iff_ne]; exact h0
                  have hq2 : (f6 != 0) = true := by rw [bne_iff_ne]; exact h0
                  have HEN := Aside0.mk (show wAt s zs (N2 : Nat) j = sf by rw [HST.out (by rw [HF6.out]; exact h0)]; exact HE.out)
                  have HLE := Aside0.mk (show LpAt W wr g v3 sf q u6 sf ⟨P1, N2, d1⟩ ⟨some ad, N2, d2⟩ zs zs by have h9 := HWK.out; rw [HEN.out] at h9; exact h9)
                  clear hx
                  go_wp2
                  go_loopw [12] (fun vi wr => ∃ (j : Nat) (ys : List Int), vi = .int .i64 (j : Nat) ∧ j ≤ N2 ∧ Aside0 (ys.length = N2 ∧ LpAt W wr g v3 sf q u6 sf ⟨P1, N2, d1⟩ ⟨some ad, N2, d2⟩ ys ys)) (fun vi _ => N2 - (intOf vi).toNat)
                  case atStart => exact ⟨0, zs, rfl, Nat.zero_le _, ⟨HP.out.1, HLE.out⟩⟩
                  case round =>
                    clear HLE
                    obtain ⟨j, ys, rfl, hj, HY⟩ := hrel
                    by_cases hlt : j < N2
                    · obtain ⟨G1, hA1, -, -, -⟩ := HY.out.2.o1.form (by have := HY.out.1; omega)
                      obtain ⟨G2, hA2, -, -, -⟩ := HY.out.2.o2.form (by have := HY.out.1; omega)
                      obtain ⟨ad, e, hx⟩ := Kd.at_int (HR2.out wr HY.out.2.bel) (j : Int) (by omega) (by omega)
                      dsimp only at hA1 hA2
                      cases e
                      cases hA1
                      cases hA2
                      rw [Int.toNat_natCast] at hx
                      have hjj : (j : Int) < (N2 : Int) := by omega
                      have HRD := Aside0.mk (fun (w' : World) (hb : Below W.heap.size W w') => (show w'.cell? (ad.add j) = some (.int .i64 (rd list (j : Int))) from by
                        obtain ⟨ad2, e2, hx2⟩ := Kd.at_int (HR2.out w' hb) (j : Int) (by omega) (by omega)
                        cases e2
                        rw [Int.toNat_natCast] at hx2
                        exact hx2))
                      generalize rd list (j : Int) = x at *
                      obtain ⟨hc0, hc1⟩ := HY.out.2.o1.cell rfl j (by have := HY.out.1; omega)
                      have HY1 := Aside0.mk (HY.out.2.c1 (HY.out.2.o1.put (g := G1) rfl j x) (grown_set (p := ⟨G1, j, none⟩) (grown_refl wr (some G1)) rfl (.int .i64 x)) (.inl rfl))
                      have hx1 := HRD.out _ HY1.out.bel
                      obtain ⟨hd0, hd1⟩ := HY1.out.o2.cell rfl j (by have := HY.out.1; omega)
                      have HY2 := Aside0.mk (HY1.out.c2 (HY1.out.o2.put (g := G2) rfl j x) (grown_set (p := ⟨G2, j, none⟩) (grown_refl _ (some G2)) rfl (.int .i64 x)) (.inl rfl))
                      go_wp2
                      go_roundw
                      case rel => exact ⟨j + 1, ys.set j x, by go_num, by omega, ⟨by rw [List.length_set]; exact HY.out.1, HY2.out⟩⟩
                      case measure => simp [intOf]; omega
                    · have hne : ¬ ((j : Int) < (N2 : Int)) := by omega
                      clear hlt
                      go_wp2
                      go_roundw
                      case rel => exact ⟨k + 1, v3, u6, sf, ys, by go_num, by omega, ⟨HY.out.1, HSF.out, HY.out.2⟩⟩
                      case measure => simp [intOf]; omega
              · have hne : ¬ ((j : Int) < (N2 : Int)) := by omega
                have HEN := Aside0.mk (show wAt s zs (N2 : Nat) j = sf by rw [show j = zs.length by have := HP.out.1; omega, wAt_end]; exact HE.out)
                have HLE := Aside0.mk (show LpAt W wr g v3 sf q u6 sf ⟨P1, N2, d1⟩ ⟨P2, N2, d2⟩ zs zs by have h9 := HWK.out; rw [HEN.out] at h9; exact h9)
                clear hlt hj
                go_wp2
                go_loopw [12] (fun vi wr => ∃ (j : Nat) (ys : List Int), vi = .int .i64 (j : Nat) ∧ j ≤ N2 ∧ Aside0 (ys.length = N2 ∧ LpAt W wr g v3 sf q u6 sf ⟨P1, N2, d1⟩ ⟨P2, N2, d2⟩ ys ys)) (fun vi _ => N2 - (intOf vi).toNat)
                case atStart => exact ⟨0, zs, rfl, Nat.zero_le _, ⟨HP.out.1, HLE.out⟩⟩
                case round =>
                  clear HLE
                  obtain ⟨j, ys, rfl, hj, HY⟩ := hrel
                  by_cases hlt : j < N2
                  · obtain ⟨G1, hA1, -, -, -⟩ := HY.out.2.o1.form (by have := HY.out.1; omega)
                    obtain ⟨G2, hA2, -, -, -⟩ := HY.out.2.o2.form (by have := HY.out.1; omega)
                    obtain ⟨ad, e, hx⟩ := Kd.at_int (HR2.out wr HY.out.2.bel) (j : Int) (by omega) (by omega)
                    dsimp only at hA1 hA2
                    cases e
                    cases hA1
                    cases hA2
                    rw [Int.toNat_natCast] at hx
                    have hjj : (j : Int) < (N2 : Int) := by omega
                    have HRD := Aside0.mk (fun (w' : World) (hb : Below W.heap.size W w') => (show w'.cell? (ad.add j) = some (.int .i64 (rd list (j : Int))) from by
                      obtain ⟨ad2, e2, hx2⟩ := Kd.at_int (HR2.out w' hb) (j : Int) (by omega) (by omega)
                      cases e2
                      rw [Int.toNat_natCast] at hx2
                      exact hx2))
                    generalize rd list (j : Int) = x at *
                    obtain ⟨hc0, hc1⟩ := HY.out.2.o1.cell rfl j (by have := HY.out.1; omega)
                    have HY1 := Aside0.mk (HY.out.2.c1 (HY.out.2.o1.put (g := G1) rfl j x) (grown_set (p := ⟨G1, j, none⟩) (grown_refl wr (some G1)) rfl (.int .i64 x)) (.inl rfl))
                    have hx1 := HRD.out _ HY1.out.bel
                    obtain ⟨hd0, hd1⟩ := HY1.out.o2.cell rfl j (by have := HY.out.1; omega)
                    have HY2 := Aside0.mk (HY1.out.c2 (HY1.out.o2.put (g := G2) rfl j x) (grown_set (p := ⟨G2, j, none⟩) (grown_refl _ (some G2)) rfl (.int .i64 x)) (.inl rfl))
                    go_wp2
                    go_roundw
                    case rel => exact ⟨j + 1, ys.set j x, by go_num, by omega, ⟨by rw [List.length_set]; exact HY.out.1, HY2.out⟩⟩
                    case measure => simp [intOf]; omega
                  · have hne : ¬ ((j : Int) < (N2 : Int)) := by omega
                    clear hlt
                    go_wp2
                    go_roundw
                    case rel => exact ⟨k + 1, v3, u6, sf, ys, by go_num, by omega, ⟨HY.out.1, HSF.out, HY.out.2⟩⟩
                    case measure => simp [intOf]; omega
        · have hne : ¬ ((k : Int) < 2) := by omega
          clear hlt
          have HTL := Aside0.mk (show (turnL bytes).length = N1 by rw [Pure.turnL_length]; exact HN1.out)
          obtain ⟨s1, hs1⟩ : ∃ t, wPut s (turnL bytes) = t := ⟨_, rfl⟩
          obtain ⟨s2, hs2⟩ : ∃ t, wPut s1 bytes = t := ⟨_, rfl⟩
          have HS1 := Aside0.mk hs1
          have HS2 := Aside0.mk hs2
          have HSB := Aside0.mk (show s.1.length + N1 ≤ 4398046511104 by have := HP.out.2.1; have : k * (4 + 2 * N2) ≤ 2 * (4 + 2 * N2) := Nat.mul_le_mul_right _ hk; have := HL1.out; omega)
          have HSB1 := Aside0.mk (show s1.1.length + N1 ≤ 4398046511104 by have h9 := wPut_len s (turnL bytes); rw [hs1] at h9; have := HTL.out; have := HP.out.2.1; have : k * (4 + 2 * N2) ≤ 2 * (4 + 2 * N2) := Nat.mul_le_mul_right _ hk; have := HL1.out; omega)
          have HSB2 := Aside0.mk (show s2.1.length ≤ 4398046511104 by have h9 := wPut_len s1 bytes; rw [hs2] at h9; have := HN1.out; have := HSB1.out; omega)
          have HLT := Aside0.mk (show bytes.length ≤ 281474976710 by have := HN1.out; have := HL1.out; omega)
          have HLB := Aside0.mk (show bytes.length ≤ 4398046511104 by have := HN1.out; have := HL1.out; omega)
          have K1 := Aside0.mk (turnedB_c A1 N1 c1 bytes wr HLT.out (HR1.out wr HP.out.2.2.bel) HC1.out)
          clear hs1 hs2 hk
          go_wp2_with (first
            | (go_at_call 67; have HCC := K1.out; (with_reducible refine HCC.mono ?_); rintro e w1 ⟨A3, n3, c3, rfl, ho, hb⟩; have en : N1 = n3 := (by have := ho.len; have := HTL.out; dsimp only at *; omega); subst en; have B1 := Aside0.mk (LbAt.make HP.out.2.2.wo HP.out.2.2.bel hb ho); have K2 := Aside0.mk (show Calls Try.prog 81 #[.pointer (some ⟨g, 0, none⟩), .slice A3 N1 c3] w1 (WPost w1 W.heap.size g v s1) from by have h9 := wBytes_any A3 c3 (turnL bytes) w1 W.heap.size g v s B1.out.own.reads B1.out.wo.wr B1.out.bel.size (by have := HTL.out; have := HSB.out; omega); rw [HS1.out, HTL.out] at h9; exact h9); clear ho hb; clear HCC K1)
            | (go_at_call 81; have HCC := K2.out; (with_reducible refine HCC.mono ?_); rintro e w2 ⟨⟨vr, rfl⟩, v2, hw2, hk2⟩; have B2 := Aside0.mk (B1.out.wk (s' := s1) hw2 hk2); have K3 := Aside0.mk (turnedB_c A1 N1 c1 bytes w2 HLT.out (HR1.out w2 B2.out.bel) HC1.out); clear hw2 hk2; clear HCC K2)
            | (go_at_call 67; have HCC := K3.out; (with_reducible refine HCC.mono ?_); rintro e w3 ⟨A4, n4, c4, rfl, ho, hb⟩; have B3 := Aside0.mk (B2.out.below hb); have K4 := Aside0.mk (show Calls Try.prog 82 #[.pointer (some ⟨q, 0, none⟩), .slice A4 n4 c4] w3 (OPost w3 W.heap.size q u s1) from by have h9 := oPut_is A4 n4 c4 (turnL bytes) w3 W.heap.size q u s B3.out.wo.ou B3.out.bel.size ho.reads2 (by have := HTL.out; have := HSB.out; omega); rw [HS1.out] at h9; exact h9); clear ho hb; clear HCC K3)
            | (go_at_call 82; have HCC := K4.out; (with_reducible refine HCC.mono ?_); rintro e w4 ⟨rfl, u4, ho4, hk4⟩; have B4 := Aside0.mk (B3.out.o (t' := s1) ho4 hk4); have K5 := Aside0.mk (lay_is A3 N1 c3 W.heap.size (turnL bytes) A1 N1 c1 bytes w4 B4.out.own (by have := HTL.out; have := HN1.out; omega) (HR1.out w4 B4.out.bel) HLB.out (fun hp b h1 h2 => (by have := (B4.out.own.lt b h1).1; have := HSL.out hp b h2; omega))); clear ho4 hk4; clear HCC K4)
            | (go_at_call 68; have HCC := K5.out; (with_reducible refine HCC.mono ?_); rintro e w5 ⟨rfl, ho5, hg5⟩; have B5 := Aside0.mk (B4.out.laid ho5 hg5); have K6 := Aside0.mk (show Calls Try.prog 81 #[.pointer (some ⟨g, 0, none⟩), .slice A3 N1 c3] w5 (WPost w5 W.heap.size g v2 s2) from by have h9 := wBytes_any A3 c3 bytes w5 W.heap.size g v2 s1 B5.out.own.reads B5.out.wo.wr B5.out.bel.size (by have := HN1.out; have := HSB1.out; omega); rw [HS2.out, HN1.out] at h9; exact h9); clear ho5 hg5; clear HCC K5)
            | (go_at_call 81; have HCC := K6.out; (with_reducible refine HCC.mono ?_); rintro e w6 ⟨⟨vr, rfl⟩, v6, hw6, hk6⟩; have B6 := Aside0.mk (B5.out.wk (s' := s2) hw6 hk6); have K7 := Aside0.mk (show Calls Try.prog 82 #[.pointer (some ⟨q, 0, none⟩), .slice A1 N1 c1] w6 (OPost w6 W.heap.size q u4 s2) from by have h9 := oPut_is A1 N1 c1 bytes w6 W.heap.size q u4 s1 B6.out.wo.ou B6.out.bel.size (HR1.out w6 B6.out.bel) (by have := HN1.out; have := HSB1.out; omega); rw [HS2.out] at h9; exact h9); clear hw6 hk6; clear HCC K6)
            | (go_at_call 82; have HCC := K7.out; (with_reducible refine HCC.mono ?_); rintro e w7 ⟨rfl, u7, ho7, hk7⟩; have B7 := Aside0.mk (B6.out.o (t' := s2) ho7 hk7); have K8 := Aside0.mk (wDone_any w7 W.heap.size g v6 s2 B7.out.wo.wr (by have := HSB2.out; omega)); clear ho7 hk7; clear HCC K7)
            | (go_at_call 59; have HCC := K8.out; (with_reducible refine HCC.mono ?_); rintro e w8 ⟨v8, rfl, hr8, hb8⟩; obtain ⟨A8, n8, c8, rfl, ho8⟩ := R_own hr8; have B8 := Aside0.mk (B7.out.below hb8); obtain ⟨B, m, d, hbv, hmd, hrd⟩ := done_reads B8.out.wo.ou; have K9 := Aside0.mk (show Calls Try.prog 88 #[.pointer (some ⟨q, 0, none⟩)] w8 (fun e w' => e = .returned (.tuple #[.slice B m d, .int .i64 s2.2]) ∧ Below w8.heap.size w8 w') from by have h9 := oDone_is w8 W.heap.size q u7 s2 B8.out.wo.ou; rw [hbv] at h9; exact h9); have HO8 := Aside0.mk ho8; have HRD := Aside0.mk hrd; have HMD := Aside0.mk hmd; generalize s2.2 = f2 at K9 ⊢; clear hr8 hb8 ho8 hbv hmd hrd; clear HCC K8)
            | (go_at_call 88; have HCC := K9.out; (with_reducible refine HCC.mono ?_); rintro e w9 ⟨rfl, hb9⟩; have B9 := Aside0.mk (B8.out.below hb9); have K10 := Aside0.mk (same_yes A8 n8 c8 B m d _ w9 (HO8.out.below hb9).reads2 HO8.out.room (Kd.C_below HRD.out hb9) HMD.out (by have := HSB2.out; split; omega; exact Nat.zero_le _)); clear hb9; clear HCC K9)
            | (go_at_call 28; have HCC := K10.out; (with_reducible refine HCC.mono ?_); rintro e w10 ⟨rfl, hd⟩; have B10 := Aside0.mk (B9.out.below hd.below); have K11 := Aside0.mk (same_yes A3 N1 c3 A1 N1 c1 bytes w10 B10.out.own.reads2 B10.out.own.room (HR1.out w10 B10.out.bel) HC1.out (by have := HN1.out; have := HL1.out; omega)); clear hd; clear HCC K10)
            | (go_at_call 28; have HCC := K11.out; (with_reducible refine HCC.mono ?_); rintro e w11 ⟨rfl, hd⟩; have B11 := Aside0.mk (B10.out.below hd.below); clear hd; clear HCC K11))
          go_ret
          exact ⟨rfl, B11.out.bel⟩

end Go.Proofs.Ytceeoifbimlkdaa.B
