/- Proved: the contracts of the reference's Out (a writer): its state turns as the Writer's does. Conditions: bounds of the lengths. -/
import Derived.Test.YtceeoifbimlkdaaHPutList
import Derived.Test.YtceeoifbimlkdaaHLet
import Derived.Test.YtceeoifbimlkdaaDx1
namespace Go.Proofs.Ytceeoifbimlkdaa.B
open Go.RowKit Go.Proofs.YtceeoifbimlkdaaW.PrintWords Go.Proofs.YtceeoifbimlkdaaW.PrintLast Go.Proofs.YtceeoifbimlkdaaW.PrintMore

/-- An Out in memory. -/
structure OutAt (W : World) (base g : Nat) (v : Value) (xs : List Int) (f : Int) : Prop where
  low : base ≤ g
  blk : W.heap[g]? = some (.cells #[v, .int .i64 f] 53 (0, 0))
  row : Kd.R (Kd.int .u8) 5 W base (fun _ => True) v xs
theorem OutAt.below {W W' : World} {base g : Nat} {v : Value} {xs : List Int} {f : Int} (h : OutAt W base g v xs f) (hb : Below W.heap.size W W') : OutAt W' base g v xs f :=
  ⟨h.low, (hb.block g (blk_lt h.blk)).trans h.blk, row_kept h.row fun k hk => hb.block k (row_lt h.row hk).2⟩
theorem OutAt.keeps_below {W w' : World} {base g : Nat} {v v' : Value} {xs : List Int} {f : Int} (h : WrKeeps W w' g v v') (hw : OutAt W base g v xs f) (hb : base ≤ W.heap.size) : Below base W w' :=
  ⟨h.os.1, h.os.2.1, h.os.2.2, h.size, fun k hk => h.block k (by omega) (by have := hw.low; omega) (fun e => by have := (row_lt hw.row e.symm).1; omega)⟩
/-- What a call leaves. -/
def OPost (W : World) (base g : Nat) (v : Value) (s' : List Int × Int) (e : Ending) (w' : World) : Prop := e = .returned (.tuple #[]) ∧ ∃ v', OutAt w' base g v' s'.1 s'.2 ∧ WrKeeps W w' g v v'
theorem OPost.behind {W W2 w' : World} {base g : Nat} {v : Value} {s' : List Int × Int} {e : Ending} (hb : Below W.heap.size W W2) (h : OPost W2 base g v s' e w') : OPost W base g v s' e w' := by
  obtain ⟨he, v', ho, hk⟩ := h
  exact ⟨he, v', ho, hk.behind hb⟩
theorem OutAt.put0 {W w1 : World} {base g : Nat} {v v1 : Value} {xs zs : List Int} {f : Int} (h : OutAt W base g v xs f) (ho : Kd.R (Kd.int .u8) 5 w1 base (fun _ => True) v1 zs) (hg : W.grownBy w1 v.ownBlock) (hat : v1.ownBlock = v.ownBlock ∨ ∃ b, v1.ownBlock = some b ∧ W.heap.size ≤ b) :
    OutAt (w1.setCell ⟨g, 0, none⟩ v1) base g v1 zs f ∧ WrKeeps W (w1.setCell ⟨g, 0, none⟩ v1) g v v1 := by
  have hgv : some g ≠ v.ownBlock := row_ne h.row h.blk (by decide)
  have hb1 : w1.heap[g]? = _ := (hg.block g (blk_lt h.blk) hgv).trans h.blk
  have hg1 : some g ≠ v1.ownBlock := row_ne ho hb1 (by decide)
  refine ⟨⟨h.low, blk_set hb1 0 v1, row_kept ho fun k hk => Below.heap_setCell _ _ _ k fun e => hg1 (by rw [hk, e])⟩, ⟨⟨hg.os, hg.tape, hg.output⟩, by simp; exact hg.size, fun k hk h1 h2 => (Below.heap_setCell _ _ _ k h1).trans (hg.block k hk h2), hat⟩⟩
theorem OutAt.fail0 {W : World} {base g : Nat} {v : Value} {xs : List Int} {f : Int} (h : OutAt W base g v xs f) (e : Int) :
    OutAt (W.setCell ⟨g, 1, none⟩ (.int .i64 e)) base g v xs e ∧ WrKeeps W (W.setCell ⟨g, 1, none⟩ (.int .i64 e)) g v v := by
  have hgv : some g ≠ v.ownBlock := row_ne h.row h.blk (by decide)
  refine ⟨⟨h.low, blk_set h.blk 1 (.int .i64 e), row_kept h.row fun k hk => Below.heap_setCell _ _ _ k fun e => hgv (by rw [hk, e])⟩, ⟨⟨rfl, rfl, rfl⟩, by simp, fun k _ h1 _ => Below.heap_setCell _ _ _ k h1, .inl rfl⟩⟩
set_option maxHeartbeats 4000000 in
set_option maxRecDepth 100000 in
theorem oFail_is (x : Int) (W : World) (base g : Nat) (v : Value) (s : List Int × Int) (hw : OutAt W base g v s.1 s.2) :
    Calls Try.prog 127 #[.pointer (some ⟨g, 0, none⟩), .int .i64 x] W (OPost W base g v (wFail s x)) := by
  obtain ⟨xs, f⟩ := s
  have hu53 := Try.underlying53
  have j1 := (blk_cell hw.blk 1).trans rfl
  have jf := blk_frozen hw.blk 1
  have HW := Aside0.mk hw
  dsimp only at j1
  by_cases hf : f = 0
  · subst hf
    have e : wFail (xs, (0 : Int)) x = (xs, x) := by unfold wFail; rw [if_pos rfl]
    rw [e]
    clear hw e
    go_enter Try.func127, Try.ntmps127
    go_wp2
    go_end0
    exact ⟨rfl, v, HW.out.fail0 x⟩
  · have e : wFail (xs, f) x = (xs, f) := by unfold wFail; rw [if_neg hf]
    rw [e]
    have h1 : (f == 0) = false := by rw [beq_eq_false_iff_ne]; exact hf
    clear hw e hf
    go_enter Try.func127, Try.ntmps127
    go_wp2
    go_end0
    exact ⟨rfl, v, HW.out, WrKeeps.refl _ _ _⟩
set_option maxHeartbeats 4000000 in
set_option maxRecDepth 100000 in
theorem oPut_is (B : Option Addr) (m d : Nat) (ys : List Int) (W : World) (base g : Nat) (v : Value) (s : List Int × Int) (hw : OutAt W base g v s.1 s.2) (hbase : base ≤ W.heap.size) (hy : Kd.C (Kd.int .u8) W B m ys) (hl : s.1.length + ys.length < 140737488355328) :
    Calls Try.prog 82 #[.pointer (some ⟨g, 0, none⟩), .slice B m d] W (OPost W base g v (wPut s ys)) := by
  obtain ⟨xs, f⟩ := s
  dsimp only at hw hl
  have hu53 := Try.underlying53
  obtain ⟨A, c, rfl⟩ := Kd.R_slice hw.row
  have j0 := (blk_cell hw.blk 0).trans rfl
  have j1 := (blk_cell hw.blk 1).trans rfl
  have HW := Aside0.mk hw
  have HY := Aside0.mk hy
  have HL := Aside0.mk hl
  have HBS := Aside0.mk hbase
  by_cases hf : f = 0
  · subst hf
    have e : wPut (xs, (0 : Int)) ys = (xs ++ ys, 0) := by unfold wPut; rw [if_pos rfl]
    rw [e]
    clear hw e hy hl hbase
    go_enter Try.func82, Try.ntmps82
    go_wp2_with ((with_reducible refine gate_builtin (b := .append) (xs := #[.tmp 13, .tmp 14]) rfl ?_); at_builtin; refine Kd.R_append_rows (Kd.int .u8) (w0 := W) base rfl (.tmp 13) (.tmp 14) 37 5 (.int .u8 0) 1 rfl Try.underlying37 infoU8 rfl (by decide) (by omega) (.slice A xs.length c) xs ys _ _ _ (fun _ => True) (fun _ => False) rfl rfl ?aO ?aR (fun _ _ h => h) (fun _ h => h.elim) ?aF ?aB ?aS ?aL ?_; (case aR => exact HY.out); (case aB => exact Below.refl _ _); (case aF => exact (fun _ _ => trivial)); (case aO => exact HW.out.row); (case aS => exact HBS.out); (case aL => have := HL.out; have := HY.out.1; omega); intro v1 w1 ho hb hg hat; obtain ⟨A1, c1, rfl⟩ := Kd.R_slice ho; have HP := Aside0.mk (HW.out.put0 ho hg hat); have b2 := (hg.block g (blk_lt HW.out.blk) (row_ne HW.out.row HW.out.blk (by decide))).trans HW.out.blk; have e0 := (blk_cell b2 0).trans rfl; have f0 := blk_frozen b2 0; clear ho hb hg hat b2)
    go_end0
    have hP := HP.out
    rw [List.length_append] at hP
    exact ⟨rfl, _, hP⟩
  · have e : wPut (xs, f) ys = (xs, f) := by unfold wPut; rw [if_neg hf]
    rw [e]
    have h1 : (f == 0) = false := by rw [beq_eq_false_iff_ne]; exact hf
    clear hw e hf hy hl hbase
    go_enter Try.func82, Try.ntmps82
    go_wp2
    go_end0
    exact ⟨rfl, _, HW.out, WrKeeps.refl _ _ _⟩
/-- The reference's Number: the bytes of a number. -/
theorem num_is (x : Int) (n : Int) (hn : n = 1 ∨ n = 2 ∨ n = 4 ∨ n = 8) : ∃ k, bulkheadref02_Number.f k x n = some (bigL x n.toNat) := by
  refine ⟨10, ?_⟩
  have q : ∀ a b : Int, 0 ≤ a → x / a / b = x / (a * b) := fun a b h => Int.ediv_ediv_of_nonneg h
  unfold bulkheadref02_Number.f
  rcases hn with rfl | rfl | rfl | rfl
  · simp [bulkheadref02_Number.l0, wrap64, shr, bigL, IntKind.bits]
  · simp [bulkheadref02_Number.l0, wrap64, shr, bigL, IntKind.bits]
  · simp [bulkheadref02_Number.l0, wrap64, shr, bigL, q, IntKind.bits]
  · simp [bulkheadref02_Number.l0, wrap64, shr, bigL, q, IntKind.bits]
theorem num_c (x : Int) (n : Int) (hn : n = 1 ∨ n = 2 ∨ n = 4 ∨ n = 8) (W : World) : Calls Try.prog 64 #[.int .u64 x, .int .i64 n] W fun e w' => ∃ A' n' c', e = .returned (.slice A' n' c') ∧ Own .u8 5 w' W.heap.size ⟨A', n', c'⟩ (bigL x n.toNat) ∧ Below W.heap.size W w' := by
  obtain ⟨k, hk⟩ := num_is x n hn
  refine (bulkheadref02_Number.calls k x n _ W hk).mono ?_
  rintro e w' ⟨v, rfl, hR, hB⟩
  obtain ⟨s, rfl, ho⟩ := Own.of_R hR
  exact ⟨s.A, s.n, s.c, rfl, ho, hB⟩
theorem Own.reads2 {k : IntKind} {e base : Nat} {W : World} {A : Option Addr} {n c : Nat} {xs : List Int} (h : Own k e W base ⟨A, n, c⟩ xs) : Kd.C (Kd.int k) W A n xs := by
  have h1 := h.reads
  have h2 : n = xs.length := h.len
  rw [h2]; exact h1
set_option maxHeartbeats 4000000 in
set_option maxRecDepth 100000 in
theorem oI64_is (x : Int) (W : World) (base g : Nat) (v : Value) (s : List Int × Int) (hw : OutAt W base g v s.1 s.2) (hbase : base ≤ W.heap.size) (hl : s.1.length + 8 < 140737488355328) :
    Calls Try.prog 78 #[.pointer (some ⟨g, 0, none⟩), .int .i64 x] W (OPost W base g v (wI64 s x)) := by
  have HW := Aside0.mk hw
  have HBS := Aside0.mk hbase
  have HL := Aside0.mk hl
  have HN := Aside0.mk (num_c (IntKind.u64.wrap x) 8 (by omega) W)
  have HE := Aside0.mk (show wI64 s x = wPut s (bigL (IntKind.u64.wrap x) (8 : Int).toNat) from rfl)
  rw [HE.out]
  have hbl : (bigL (IntKind.u64.wrap x) (8 : Int).toNat).length = 8 := bigL_length _ _
  generalize bigL (IntKind.u64.wrap x) (8 : Int).toNat = bs at *
  have HBL := Aside0.mk hbl
  clear hw hbase hl HE hbl
  go_enter Try.func78, Try.ntmps78
  go_wp2_with (first
    | (go_at_call 64; refine HN.out.mono ?_; rintro e w1 ⟨A', n', c', rfl, ho, hb⟩; have HO := Aside0.mk ho; have HB := Aside0.mk hb; clear ho hb)
    | (go_at_call 82; refine (oPut_is A' n' c' bs w1 base g v s (HW.out.below HB.out) (Nat.le_trans HBS.out HB.out.size) HO.out.reads2 (by have := HL.out; have := HBL.out; omega)).mono ?_; rintro e w2 hP; have HP := Aside0.mk (OPost.behind HB.out hP); obtain ⟨rfl, -⟩ := hP))
  go_end0
  exact HP.out
set_option maxHeartbeats 4000000 in
set_option maxRecDepth 100000 in
theorem oUint_is (x : Int) (n : Nat) (hn : n = 1 ∨ n = 2 ∨ n = 4) (W : World) (base g : Nat) (v : Value) (s : List Int × Int) (hw : OutAt W base g v s.1 s.2) (hbase : base ≤ W.heap.size) (hl : s.1.length + 4 < 140737488355328) :
    Calls Try.prog 122 #[.pointer (some ⟨g, 0, none⟩), .int .i64 x, .int .i64 (n : Nat)] W (OPost W base g v (wNum s x n)) := by
  have HW := Aside0.mk hw
  have HBS := Aside0.mk hbase
  have HL := Aside0.mk hl
  have hn4 : n ≤ 4 := by omega
  obtain ⟨P, hP⟩ : ∃ P : Nat, 256 ^ n = P := ⟨_, rfl⟩
  have hPb : P ≤ 4294967296 := by rcases hn with rfl | rfl | rfl <;> rw [← hP] <;> decide
  have HPn := Aside0.mk hP
  have HNC := Aside0.mk (fun (W' : World) (hx : 0 ≤ x ∧ x < (P : Int)) => (show Calls Try.prog 64 #[.int .u64 x, .int .i64 (n : Nat)] W' _ from num_c x (n : Nat) (by omega) W'))
  have HPU := Aside0.mk (fun (W' : World) (hb : Below W.heap.size W W') (A' : Option Addr) (n' c' : Nat) (ys : List Int) (hy : ys.length ≤ 4) (ho : Own .u8 5 W' W.heap.size ⟨A', n', c'⟩ ys) => oPut_is A' n' c' ys W' base g v s (HW.out.below hb) (Nat.le_trans HBS.out hb.size) ho.reads2 (by omega))
  have HFA := Aside0.mk (fun (W' : World) (hb : Below W.heap.size W W') => oFail_is 2 W' base g v s (HW.out.below hb))
  have HNN := Aside0.mk hn
  clear hw hbase hl hn hP
  go_enter Try.func122, Try.ntmps122
  go_wp2
  go_loopw [6, 7] (fun v6 v7 wr => ∃ i : Nat, v7 = .int .i64 (i : Nat) ∧ i ≤ n ∧ v6 = .int .i64 ((256 ^ i : Nat) : Int) ∧ Aside0 (Below W.heap.size W wr)) (fun _ vi _ => n - (intOf vi).toNat)
  case atStart => exact ⟨0, rfl, Nat.zero_le _, rfl, ⟨Below.refl _ _⟩⟩
  case round =>
    obtain ⟨i, rfl, hi, rfl, HB⟩ := hrel
    by_cases hlt : i < n
    · have hii : (i : Int) < (n : Int) := by omega
      obtain ⟨Q, hQ⟩ : ∃ Q : Nat, 256 ^ i = Q := ⟨_, rfl⟩
      have hQb : Q ≤ 16777216 := by
        have : i = 0 ∨ i = 1 ∨ i = 2 ∨ i = 3 := by omega
        rcases this with rfl | rfl | rfl | rfl <;> rw [← hQ] <;> decide
      have HQ := Aside0.mk (show 256 ^ (i + 1) = 256 * Q by rw [Nat.pow_succ, hQ, Nat.mul_comm])
      rw [hQ]
      clear hQ
      go_wp2
      go_roundw
      case rel => exact ⟨i + 1, by go_num, by omega, by rw [HQ.out]; first | rfl | (congr 1; omega), HB⟩
      case measure => simp [intOf]; omega
    · have hne : ¬ ((i : Int) < (n : Int)) := by omega
      have hin : i = n := by omega
      rw [hin, HPn.out]
      clear hlt hin
      by_cases hx : 0 ≤ x ∧ x < (P : Int)
      · have h1 : ¬ (x < 0) := by omega
        have h1b : decide (x < 0) = false := decide_eq_false h1
        have h2 : ¬ ((P : Int) ≤ x) := by omega
        have h2b : decide ((P : Int) ≤ x) = false := decide_eq_false h2
        have hu : IntKind.u64.wrap x = x := IntWalk.u64_in _ (by omega)
        have HX := Aside0.mk hx
        clear hx
        go_wp2_with (first
          | (go_at_call 64; refine (HNC.out _ HX.out).mono ?_; rintro e w1 ⟨A', n', c', rfl, ho, hb⟩; have HO := Aside0.mk (ho.lower HB.out.size); have HB1 := Aside0.mk (HB.out.trans (hb.mono HB.out.size)); clear ho hb)
          | (go_at_call 82; refine (HPU.out w1 HB1.out A' n' c' _ (by rw [bigL_length]; have := HNN.out; omega) HO.out).mono ?_; rintro e w2 hP; have HP := Aside0.mk (OPost.behind HB1.out hP); obtain ⟨rfl, -⟩ := hP))
        go_end0
        have e : wNum s x n = wPut s (bigL x n) := by unfold wNum; rw [if_pos ⟨HX.out.1, by have h := HX.out.2; rw [← HPn.out] at h; exact_mod_cast h⟩]
        rw [e]
        exact HP.out
      · have e : wNum s x n = wFail s 2 := by unfold wNum; rw [if_neg (fun h => hx ⟨h.1, by have h2 := h.2; rw [← HPn.out]; exact_mod_cast h2⟩)]
        have HE := Aside0.mk e
        by_cases h1 : x < 0
        · have h1b : decide (x < 0) = true := decide_eq_true h1
          clear hx e
          go_wp2_with (go_at_call 127; refine (HFA.out _ HB.out).mono ?_; rintro e w2 hP; have HP := Aside0.mk (OPost.behind HB.out hP); obtain ⟨rfl, -⟩ := hP)
          refine bodyPost_ret (results_none rfl _ _ _) rfl ?_
          rw [HE.out]
          exact HP.out
        · have h1b : decide (x < 0) = false := decide_eq_false h1
          have h2 : (P : Int) ≤ x := by omega
          have h2b : decide ((P : Int) ≤ x) = true := decide_eq_true h2
          clear hx e
          go_wp2_with (go_at_call 127; refine (HFA.out _ HB.out).mono ?_; rintro e w2 hP; have HP := Aside0.mk (OPost.behind HB.out hP); obtain ⟨rfl, -⟩ := hP)
          refine bodyPost_ret (results_none rfl _ _ _) rfl ?_
          rw [HE.out]
          exact HP.out
set_option maxHeartbeats 4000000 in
set_option maxRecDepth 100000 in
theorem oU8_is (x : Int) (W : World) (base g : Nat) (v : Value) (s : List Int × Int) (hw : OutAt W base g v s.1 s.2) (hbase : base ≤ W.heap.size) (hl : s.1.length + 4 < 140737488355328) :
    Calls Try.prog 72 #[.pointer (some ⟨g, 0, none⟩), .int .i64 x] W (OPost W base g v (wNum s x 1)) := by
  have HU := Aside0.mk (oUint_is x 1 (by omega) W base g v s hw hbase hl)
  rw [show ((1 : Nat) : Int) = 1 from rfl] at HU
  clear hw hbase hl
  go_enter Try.func72, Try.ntmps72
  go_wp2_with (go_at_call 122; refine HU.out.mono ?_; rintro e w2 hP; have HP := Aside0.mk hP; obtain ⟨rfl, -⟩ := hP)
  go_end0
  exact HP.out
set_option maxHeartbeats 4000000 in
set_option maxRecDepth 100000 in
theorem oU16_is (x : Int) (W : World) (base g : Nat) (v : Value) (s : List Int × Int) (hw : OutAt W base g v s.1 s.2) (hbase : base ≤ W.heap.size) (hl : s.1.length + 4 < 140737488355328) :
    Calls Try.prog 74 #[.pointer (some ⟨g, 0, none⟩), .int .i64 x] W (OPost W base g v (wNum s x 2)) := by
  have HU := Aside0.mk (oUint_is x 2 (by omega) W base g v s hw hbase hl)
  rw [show ((2 : Nat) : Int) = 2 from rfl] at HU
  clear hw hbase hl
  go_enter Try.func74, Try.ntmps74
  go_wp2_with (go_at_call 122; refine HU.out.mono ?_; rintro e w2 hP; have HP := Aside0.mk hP; obtain ⟨rfl, -⟩ := hP)
  go_end0
  exact HP.out
set_option maxHeartbeats 4000000 in
set_option maxRecDepth 100000 in
theorem oU32_is (x : Int) (W : World) (base g : Nat) (v : Value) (s : List Int × Int) (hw : OutAt W base g v s.1 s.2) (hbase : base ≤ W.heap.size) (hl : s.1.length + 4 < 140737488355328) :
    Calls Try.prog 76 #[.pointer (some ⟨g, 0, none⟩), .int .i64 x] W (OPost W base g v (wNum s x 4)) := by
  have HU := Aside0.mk (oUint_is x 4 (by omega) W base g v s hw hbase hl)
  rw [show ((4 : Nat) : Int) = 4 from rfl] at HU
  clear hw hbase hl
  go_enter Try.func76, Try.ntmps76
  go_wp2_with (go_at_call 122; refine HU.out.mono ?_; rintro e w2 hP; have HP := Aside0.mk hP; obtain ⟨rfl, -⟩ := hP)
  go_end0
  exact HP.out
set_option maxHeartbeats 4000000 in
set_option maxRecDepth 100000 in
theorem oBool_is (x : Bool) (W : World) (base g : Nat) (v : Value) (s : List Int × Int) (hw : OutAt W base g v s.1 s.2) (hbase : base ≤ W.heap.size) (hl : s.1.length + 4 < 140737488355328) :
    Calls Try.prog 80 #[.pointer (some ⟨g, 0, none⟩), .bool x] W (OPost W base g v (wNum s (if x = true then 1 else 0) 1)) := by
  have HPU := Aside0.mk (fun (b : Int) => (show Calls Try.prog 82 #[.pointer (some ⟨g, 0, none⟩), .slice (some ⟨W.heap.size, 0, none⟩) 1 1] (W.alloc (.cells #[.int .u8 b] 5)) (OPost (W.alloc (.cells #[.int .u8 b] 5)) base g v (wPut s [b])) from by
    have hb := (Below.refl _ W).alloc (Nat.le_refl _) (.cells #[.int .u8 b] 5)
    have ho : (W.alloc (.cells (nums .u8 [b]).toArray 5)).ownsRow 0 5 1 (.slice (some ⟨W.heap.size, 0, none⟩) [b].length [b].length) [b].length (nums .u8 [b]) := own_lit W 0 5 .u8 [b] (Nat.zero_le _) (by simp)
    exact oPut_is (some ⟨W.heap.size, 0, none⟩) 1 1 [b] _ base g v s (hw.below hb) (Nat.le_trans hbase hb.size) (Own.reads2 (k := .u8) (e := 5) (base := 0) (A := some ⟨W.heap.size, 0, none⟩) (n := 1) (c := 1) ho) (by simp; omega)))
  have HB := Aside0.mk (fun (b : Int) => (Below.refl _ W).alloc (Nat.le_refl _) (.cells #[.int .u8 b] 5))
  have e1 : wNum s 1 1 = wPut s [1] := by unfold wNum; rw [if_pos (by decide)]; rfl
  have e0 : wNum s 0 1 = wPut s [0] := by unfold wNum; rw [if_pos (by decide)]; rfl
  have HE := Aside0.mk (And.intro e1 e0)
  clear hw hbase hl e1 e0
  cases x
  · go_enter Try.func80, Try.ntmps80
    go_wp2_with (go_at_call 82; refine (HPU.out 0).mono ?_; rintro e w2 hP; have HP := Aside0.mk (OPost.behind (HB.out 0) hP); obtain ⟨rfl, -⟩ := hP)
    go_end0
    have h := HP.out
    rw [← HE.out.2] at h
    exact h
  · go_enter Try.func80, Try.ntmps80
    go_wp2_with (go_at_call 82; refine (HPU.out 1).mono ?_; rintro e w2 hP; have HP := Aside0.mk (OPost.behind (HB.out 1) hP); obtain ⟨rfl, -⟩ := hP)
    go_end0
    have h := HP.out
    rw [← HE.out.1] at h
    exact h
set_option maxHeartbeats 4000000 in
set_option maxRecDepth 100000 in
theorem oCount_is (n : Nat) (most : Int) (hn : n < 4294967296) (W : World) (base g : Nat) (v : Value) (s : List Int × Int) (hw : OutAt W base g v s.1 s.2) (hbase : base ≤ W.heap.size) (hl : s.1.length + 4 < 140737488355328) :
    Calls Try.prog 87 #[.pointer (some ⟨g, 0, none⟩), .int .i64 (n : Nat), .int .i64 most] W (OPost W base g v (wHead s n most)) := by
  have HU := Aside0.mk (oU32_is (n : Nat) W base g v s hw hbase hl)
  have HFA := Aside0.mk (oFail_is 1 W base g v s hw)
  by_cases c : most < (n : Int)
  · have e : wHead s n most = wFail s 1 := by unfold wHead; rw [if_pos c]
    have c2 : decide (most < (n : Int)) = true := decide_eq_true c
    rw [e]
    clear hw hbase hl e
    go_enter Try.func87, Try.ntmps87
    go_wp2_with (go_at_call 127; refine HFA.out.mono ?_; rintro e w2 hP; have HP := Aside0.mk hP; obtain ⟨rfl, -⟩ := hP)
    refine bodyPost_ret (results_none rfl _ _ _) rfl ?_
    exact HP.out
  · have e : wHead s n most = wNum s (n : Nat) 4 := by
      unfold wHead wNum
      rw [if_neg c, if_pos ⟨by omega, by have : (256 : Int) ^ 4 = 4294967296 := by decide
                                         omega⟩]
    have c2 : decide (most < (n : Int)) = false := decide_eq_false c
    rw [e]
    clear hw hbase hl e
    go_enter Try.func87, Try.ntmps87
    go_wp2_with (go_at_call 76; refine HU.out.mono ?_; rintro e w2 hP; have HP := Aside0.mk hP; obtain ⟨rfl, -⟩ := hP)
    go_end0
    exact HP.out
set_option maxHeartbeats 4000000 in
set_option maxRecDepth 100000 in
theorem oDone_is (W : World) (base g : Nat) (v : Value) (s : List Int × Int) (hw : OutAt W base g v s.1 s.2) :
    Calls Try.prog 88 #[.pointer (some ⟨g, 0, none⟩)] W fun e w' => e = .returned (.tuple #[if s.2 = 0 then v else .slice none 0 0, .int .i64 s.2]) ∧ Below W.heap.size W w' := by
  obtain ⟨xs, f⟩ := s
  dsimp only at hw ⊢
  have hu53 := Try.underlying53
  have j0 := (blk_cell hw.blk 0).trans rfl
  have j1 := (blk_cell hw.blk 1).trans rfl
  by_cases hf : f = 0
  · subst hf
    rw [if_pos rfl]
    clear hw
    go_enter Try.func88, Try.ntmps88
    go_wp2
    go_ret2
    exact ⟨rfl, Below.refl _ _⟩
  · rw [if_neg hf]
    have h1 : (f == 0) = false := by rw [beq_eq_false_iff_ne]; exact hf
    have h2 : (f != 0) = true := by rw [bne_iff_ne]; exact hf
    clear hw hf
    go_enter Try.func88, Try.ntmps88
    go_wp2
    repeat (go_quiet (fail); try go_wp2)
    go_ret2
    exact ⟨rfl, by repeat (first | exact Below.refl _ _ | apply pw_below_drewN | apply below_drew1)⟩
end Go.Proofs.Ytceeoifbimlkdaa.B
