/- Proved: the contracts of a Writer's calls where no fault is met: what is laid down is laid behind. Conditions: bounds of the numbers and of the length. -/
import Derived.Test.YtceeoifbimlkdaaCx1
import Derived.Test.YtceeoifbimlkdaaHClone
import Derived.Outline
import Derived.LoopTactic
namespace Go.Proofs.Ytceeoifbimlkdaa.B
open Go.RowKit Go.Proofs.YtceeoifbimlkdaaW.PrintWords Go.Proofs.YtceeoifbimlkdaaW.PrintLast Go.Proofs.YtceeoifbimlkdaaW.PrintMore

/-- A Writer at block g: its bytes in a row of its own, its fault. -/
structure WrAt (W : World) (base g : Nat) (v : Value) (xs : List Int) (f : Int) : Prop where
  low : base ≤ g
  blk : W.heap[g]? = some (.cells #[v, .int .i64 f] 93 (0, 0))
  row : Kd.R (Kd.int .u8) 5 W base (fun _ => True) v xs

/-- What a Writer's call keeps: all but its two blocks; its row is the old one, or new. -/
structure WrKeeps (W W' : World) (g : Nat) (v v' : Value) : Prop where
  os : W'.os = W.os ∧ W'.tape = W.tape ∧ W'.output = W.output
  size : W.heap.size ≤ W'.heap.size
  block : ∀ k, k < W.heap.size → k ≠ g → some k ≠ v.ownBlock → W'.heap[k]? = W.heap[k]?
  own : v'.ownBlock = v.ownBlock ∨ ∃ b, v'.ownBlock = some b ∧ W.heap.size ≤ b

theorem row_ne {W : World} {base e g t : Nat} {v : Value} {xs : List Int} {cs : Array Value} (h : Kd.R (Kd.int .u8) e W base (fun _ => True) v xs) (hg : W.heap[g]? = some (.cells cs t (0, 0))) (ht : e ≠ t) : some g ≠ v.ownBlock := by
  intro hk
  obtain ⟨h0, ⟨h1, h2⟩ | ⟨b, cap, cur, e1, e2, e3, e4⟩⟩ := Kd.own_of_R h
  · rw [h1] at hk; cases hk
  · rw [e1] at hk
    cases hk
    rw [e3] at hg
    cases hg
    exact ht rfl
theorem row_lt {W : World} {base e k : Nat} {v : Value} {xs : List Int} (h : Kd.R (Kd.int .u8) e W base (fun _ => True) v xs) (hk : v.ownBlock = some k) : base ≤ k ∧ k < W.heap.size := by
  obtain ⟨h0, ⟨h1, h2⟩ | ⟨b, cap, cur, e1, e2, e3, e4⟩⟩ := Kd.own_of_R h
  · rw [h1] at hk; cases hk
  · rw [e1] at hk
    cases hk
    exact ⟨e2, blk_lt e3⟩
/-- A row lies on where its block does. -/
theorem row_kept {W W2 : World} {base e : Nat} {v : Value} {xs : List Int} (h : Kd.R (Kd.int .u8) e W base (fun _ => True) v xs) (hk : ∀ k, v.ownBlock = some k → W2.heap[k]? = W.heap[k]?) : Kd.R (Kd.int .u8) e W2 base (fun _ => True) v xs := by
  refine Kd.R_of_own (h1 := fun _ => rfl) ?_ (fun _ _ => trivial)
  obtain ⟨h0, h1 | ⟨b, cap, cur, e1, e2, e3, e4⟩⟩ := Kd.own_of_R h
  · exact ⟨h0, .inl h1⟩
  · exact ⟨h0, .inr ⟨b, cap, cur, e1, e2, (hk b (by rw [e1]; rfl)).trans e3, e4⟩⟩
theorem below_drewN_back {w w' : World} {n : Nat} (h : Below (w.drewN n).heap.size (w.drewN n) w') : Below w.heap.size w w' := (show Below w.heap.size w (w.drewN n) from ⟨rfl, rfl, rfl, Nat.le_refl _, fun _ _ => rfl⟩).trans h

theorem WrAt.below {W W' : World} {base g : Nat} {v : Value} {xs : List Int} {f : Int} (h : WrAt W base g v xs f) (hb : Below W.heap.size W W') : WrAt W' base g v xs f :=
  ⟨h.low, (hb.block g (blk_lt h.blk)).trans h.blk, row_kept h.row fun k hk => hb.block k (row_lt h.row hk).2⟩

theorem numcl_is (n : Int) (hn : n = 1 ∨ n = 2 ∨ n = 4) (x : Int) (h0 : 0 ≤ x) (h1 : x < 256 ^ n.toNat) (g1 g2 : Nat) (w : World) (c1 : w.cell? ⟨g1, 0, none⟩ = some (.int .i64 x)) (c2 : w.cell? ⟨g2, 0, none⟩ = some (.int .i64 n)) (bs : List Int) (k : Nat) (hb : codec_big.f k x n = some bs) :
    Calls Try.prog 135 #[.pointer (some ⟨g1, 0, none⟩), .pointer (some ⟨g2, 0, none⟩)] w fun e w' => ∃ v, e = .returned (.tuple #[v, .int .i64 0]) ∧ Kd.R (Kd.int .u8) 5 w' w.heap.size (fun _ => True) v bs ∧ Below w.heap.size w w' := by
  have HK := Aside0.mk (fun w => codec_big.calls k x n bs w hb)
  have d0 : decide (x < 0) = false := decide_eq_false (by omega)
  clear hb
  rcases hn with rfl | rfl | rfl
  all_goals
    have hx : IntKind.u64.wrap x = x := IntWalk.u64_in _ ⟨h0, by simp at h1; omega⟩
    simp only [Int.reduceToNat, Int.reducePow] at h1
  · have d1 : decide (256 ≤ x) = false := decide_eq_false (by omega)
    go_enter Try.func135, Try.ntmps135
    go_wp2
    go_quiet (fail)
    go_wp2_with (go_at_call 63; refine (HK.out _).mono ?_; rintro e w' ⟨v0, rfl, hR, hB⟩)
    go_ret2
    exact ⟨_, rfl, hR, below_drewN_back hB⟩
  · have d1 : decide (65536 ≤ x) = false := decide_eq_false (by omega)
    go_enter Try.func135, Try.ntmps135
    go_wp2
    go_quiet (fail)
    go_wp2_with (go_at_call 63; refine (HK.out _).mono ?_; rintro e w' ⟨v0, rfl, hR, hB⟩)
    go_ret2
    exact ⟨_, rfl, hR, below_drewN_back hB⟩
  · have d1 : decide (4294967296 ≤ x) = false := decide_eq_false (by omega)
    go_enter Try.func135, Try.ntmps135
    go_wp2
    go_quiet (fail)
    go_wp2_with (go_at_call 63; refine (HK.out _).mono ?_; rintro e w' ⟨v0, rfl, hR, hB⟩)
    go_ret2
    exact ⟨_, rfl, hR, below_drewN_back hB⟩

set_option maxHeartbeats 4000000 in
set_option maxRecDepth 100000 in
theorem do_num (g1 g2 : Nat) (W : World) (base g : Nat) (v : Value) (xs bs : List Int) (hw : WrAt W base g v xs 0) (hbase : base ≤ W.heap.size) (hl : xs.length + bs.length < 140737488355328)
    (HC : Calls Try.prog 135 #[.pointer (some ⟨g1, 0, none⟩), .pointer (some ⟨g2, 0, none⟩)] W fun e w' => ∃ v, e = .returned (.tuple #[v, .int .i64 0]) ∧ Kd.R (Kd.int .u8) 5 w' W.heap.size (fun _ => True) v bs ∧ Below W.heap.size W w') :
    Calls Try.prog 123 #[.pointer (some ⟨g, 0, none⟩), .func (.func 135) #[] #[.pointer (some ⟨g1, 0, none⟩), .pointer (some ⟨g2, 0, none⟩)]] W fun e w' =>
      (∃ v, e = .returned v) ∧ ∃ v', WrAt w' base g v' (xs ++ bs) 0 ∧ WrKeeps W w' g v v' := by
  have HW := Aside0.mk hw
  have HCC := Aside0.mk HC
  have HL := Aside0.mk hl
  have j1 := (blk_cell hw.blk 1).trans rfl
  have hu93 := Try.underlying93
  clear hw HC hl
  obtain ⟨y, hy⟩ : ∃ y : List Int, y = xs ++ bs := ⟨_, rfl⟩
  have Ny := Aside0.mk hy
  clear hy
  go_enter Try.func123, Try.ntmps123
  go_wp2_with (first
    | (go_at_call 135; refine HCC.out.mono ?_; rintro e w1 ⟨vb, rfl, hR, hB⟩; obtain ⟨Ab, cb, rfl⟩ := Kd.R_slice hR; have HR := Aside0.mk (Kd.R_reads' hR).2.2; have HW1 := Aside0.mk (HW.out.below hB); have k0 := (blk_cell HW1.out.blk 0).trans rfl; have HB := Aside0.mk hB; clear hR hB)
    | ((with_reducible refine gate_builtin (b := .append) (xs := #[.tmp 26, .tmp 27]) rfl ?_); at_builtin; refine Kd.R_append_rows (Kd.int .u8) (w0 := W) base rfl (.tmp 26) (.tmp 27) 37 5 (.int .u8 0) 1 rfl Try.underlying37 infoU8 rfl (by decide) (by omega) v xs bs _ _ _ (fun _ => True) (fun _ => False) rfl rfl ?aO ?aR (fun _ _ h => h) (fun _ h => h.elim) ?aF ?aB ?aS ?aL ?_; (case aR => exact HR.out); (case aB => exact HB.out.mono hbase); (case aF => exact (fun _ _ => trivial)); (case aO => exact HW1.out.row); (case aS => exact Nat.le_trans hbase HB.out.size); (case aL => have := HL.out; omega); intro v1 w2 ho hb hg hat; rw [← Ny.out] at ho; obtain ⟨A1, cc1, rfl⟩ := Kd.R_slice ho; have HB2 := Aside0.mk (blk_grown HW1.out.blk hg (row_ne HW1.out.row HW1.out.blk (by decide))); have HO := Aside0.mk ho; have HG := Aside0.mk hg; have HT := Aside0.mk hat; have k1 := (blk_cell HB2.out 0).trans rfl; have f1 := blk_frozen HB2.out 0; clear ho hb hg hat))
  go_end0
  have hne := row_ne HO.out HB2.out (by decide)
  rw [← Ny.out]
  refine ⟨⟨_, rfl⟩, _, ⟨HW.out.low, blk_put HB2.out 0 _ rfl, row_kept HO.out fun k hk => Below.heap_setCell _ _ _ k (fun e => hne (by rw [hk, e]))⟩, ⟨?_, ?_, ?_, ?_⟩⟩
  · have a := HB.out; have b := HG.out
    exact ⟨b.os.trans a.os, b.tape.trans a.tape, b.output.trans a.output⟩
  · have a := HB.out.size; have b := HG.out.size; simp; omega
  · intro k hk h1 h2
    exact (Below.heap_setCell _ _ _ k h1).trans ((HG.out.block k (by have := HB.out.size; omega) h2).trans (HB.out.block k hk))
  · rcases HT.out with h | ⟨b, h1, h2⟩
    · exact .inl h
    · exact .inr ⟨b, h1, Nat.le_trans HB.out.size h2⟩

theorem WrKeeps.behind {W W2 w' : World} {g : Nat} {v v' : Value} (hb : Below W.heap.size W W2) (h : WrKeeps W2 w' g v v') : WrKeeps W w' g v v' := by
  refine ⟨⟨h.os.1.trans hb.os, h.os.2.1.trans hb.tape, h.os.2.2.trans hb.output⟩, Nat.le_trans hb.size h.size, fun k hk h1 h2 => (h.block k (Nat.lt_of_lt_of_le hk hb.size) h1 h2).trans (hb.block k hk), ?_⟩
  rcases h.own with e | ⟨b, e1, e2⟩
  · exact .inl e
  · exact .inr ⟨b, e1, Nat.le_trans hb.size e2⟩
theorem WrKeeps.trans {W W2 w' : World} {g : Nat} {v v2 v' : Value} (h : WrKeeps W W2 g v v2) (k : WrKeeps W2 w' g v2 v') : WrKeeps W w' g v v' := by
  refine ⟨⟨k.os.1.trans h.os.1, k.os.2.1.trans h.os.2.1, k.os.2.2.trans h.os.2.2⟩, Nat.le_trans h.size k.size, fun i hi h1 h2 => (k.block i (Nat.lt_of_lt_of_le hi h.size) h1 ?_).trans (h.block i hi h1 h2), ?_⟩
  · rcases h.own with e | ⟨b, e1, e2⟩
    · rw [e]; exact h2
    · rw [e1]; intro e; cases e; omega
  · rcases k.own with e | ⟨b, e1, e2⟩
    · rw [e]; exact h.own
    · exact .inr ⟨b, e1, Nat.le_trans h.size e2⟩
/-- Below a bound that lies under both blocks all is kept. -/
theorem WrKeeps.below {W w' : World} {base g : Nat} {v v' : Value} {xs : List Int} {f : Int} (h : WrKeeps W w' g v v') (hw : WrAt W base g v xs f) (hb : base ≤ W.heap.size) : Below base W w' :=
  ⟨h.os.1, h.os.2.1, h.os.2.2, h.size, fun k hk => h.block k (by omega) (by have := hw.low; omega) (fun e => by have := (row_lt hw.row e.symm).1; omega)⟩

set_option maxHeartbeats 4000000 in
set_option maxRecDepth 100000 in
theorem number_is (n : Int) (hn : n = 1 ∨ n = 2 ∨ n = 4) (x : Int) (h0 : 0 ≤ x) (h1 : x < 256 ^ n.toNat) (W : World) (base g : Nat) (v : Value) (xs bs : List Int) (k : Nat) (hw : WrAt W base g v xs 0) (hbase : base ≤ W.heap.size) (hl : xs.length + bs.length < 140737488355328) (hb : codec_big.f k x n = some bs) :
    Calls Try.prog 121 #[.pointer (some ⟨g, 0, none⟩), .int .i64 x, .int .i64 n] W fun e w' =>
      (∃ v, e = .returned v) ∧ ∃ v', WrAt w' base g v' (xs ++ bs) 0 ∧ WrKeeps W w' g v v' := by
  obtain ⟨W2, hW2⟩ : ∃ W2, (W.alloc (.cells #[.int .i64 x] 3)).alloc (.cells #[.int .i64 n] 3) = W2 := ⟨_, rfl⟩
  have hB : Below W.heap.size W W2 := by rw [← hW2]; exact ((Below.refl _ _).alloc (Nat.le_refl _) _).alloc (by simp) _
  have b1 : W2.heap[W.heap.size]? = some (.cells #[.int .i64 x] 3 (0, 0)) := by rw [← hW2]; exact blk_alloc (heap_alloc_new _ _) _
  have b2 : W2.heap[W.heap.size + 1]? = some (.cells #[.int .i64 n] 3 (0, 0)) := by
    rw [← hW2]
    have := heap_alloc_new (W.alloc (.cells #[.int .i64 x] 3)) (.cells #[.int .i64 n] 3)
    rwa [World.size_alloc] at this
  have hd := (do_num W.heap.size (W.heap.size + 1) W2 base g v xs bs (hw.below hB) (Nat.le_trans hbase hB.size) hl (numcl_is n hn x h0 h1 W.heap.size (W.heap.size + 1) W2 ((blk_cell b1 0).trans rfl) ((blk_cell b2 0).trans rfl) bs k hb))
  subst hW2
  have HB := Aside0.mk hB
  have HD := Aside0.mk hd
  clear b1 b2 hB hw hb h0 h1 hn hl hd
  go_enter Try.func121, Try.ntmps121
  go_wp2_with (go_at_call 123; refine HD.out.mono ?_; rintro e w' ⟨⟨vr, rfl⟩, v', hw', hk⟩)
  go_end0
  exact ⟨⟨_, rfl⟩, v', hw', hk.behind HB.out⟩

set_option maxHeartbeats 4000000 in
theorem wU8_is (x : Int) (h0 : 0 ≤ x) (h1 : x < 256) (W : World) (base g : Nat) (v : Value) (xs bs : List Int) (k : Nat) (hw : WrAt W base g v xs 0) (hbase : base ≤ W.heap.size) (hl : xs.length + bs.length < 140737488355328) (hb : codec_big.f k x 1 = some bs) :
    Calls Try.prog 71 #[.pointer (some ⟨g, 0, none⟩), .int .i64 x] W fun e w' => (∃ v, e = .returned v) ∧ ∃ v', WrAt w' base g v' (xs ++ bs) 0 ∧ WrKeeps W w' g v v' := by
  have HN := Aside0.mk (number_is 1 (.inl rfl) x h0 (by simpa using h1) W base g v xs bs k hw hbase hl hb)
  clear hw hl hb
  go_enter Try.func71, Try.ntmps71
  go_wp2_with (go_at_call 121; refine HN.out.mono ?_; rintro e w' ⟨⟨vr, rfl⟩, v', hw', hk⟩)
  go_end0
  exact ⟨⟨_, rfl⟩, v', hw', hk⟩
set_option maxHeartbeats 4000000 in
theorem wU16_is (x : Int) (h0 : 0 ≤ x) (h1 : x < 65536) (W : World) (base g : Nat) (v : Value) (xs bs : List Int) (k : Nat) (hw : WrAt W base g v xs 0) (hbase : base ≤ W.heap.size) (hl : xs.length + bs.length < 140737488355328) (hb : codec_big.f k x 2 = some bs) :
    Calls Try.prog 73 #[.pointer (some ⟨g, 0, none⟩), .int .i64 x] W fun e w' => (∃ v, e = .returned v) ∧ ∃ v', WrAt w' base g v' (xs ++ bs) 0 ∧ WrKeeps W w' g v v' := by
  have HN := Aside0.mk (number_is 2 (.inr (.inl rfl)) x h0 (by simpa using h1) W base g v xs bs k hw hbase hl hb)
  clear hw hl hb
  go_enter Try.func73, Try.ntmps73
  go_wp2_with (go_at_call 121; refine HN.out.mono ?_; rintro e w' ⟨⟨vr, rfl⟩, v', hw', hk⟩)
  go_end0
  exact ⟨⟨_, rfl⟩, v', hw', hk⟩
set_option maxHeartbeats 4000000 in
theorem wBool_is (x : Bool) (W : World) (base g : Nat) (v : Value) (xs bs : List Int) (k : Nat) (hw : WrAt W base g v xs 0) (hbase : base ≤ W.heap.size) (hl : xs.length + bs.length < 140737488355328) (hb : codec_big.f k (if x = true then 1 else 0) 1 = some bs) :
    Calls Try.prog 79 #[.pointer (some ⟨g, 0, none⟩), .bool x] W fun e w' => (∃ v, e = .returned v) ∧ ∃ v', WrAt w' base g v' (xs ++ bs) 0 ∧ WrKeeps W w' g v v' := by
  cases x with
  | true =>
    have HN := Aside0.mk (wU8_is 1 (by omega) (by omega) W base g v xs bs k hw hbase hl hb)
    clear hw hl hb
    go_enter Try.func79, Try.ntmps79
    go_wp2_with (go_at_call 71; refine HN.out.mono ?_; rintro e w' ⟨⟨vr, rfl⟩, v', hw', hk⟩)
    go_end0
    exact ⟨⟨_, rfl⟩, v', hw', hk⟩
  | false =>
    have HN := Aside0.mk (wU8_is 0 (by omega) (by omega) W base g v xs bs k hw hbase hl hb)
    clear hw hl hb
    go_enter Try.func79, Try.ntmps79
    go_wp2_with (go_at_call 71; refine HN.out.mono ?_; rintro e w' ⟨⟨vr, rfl⟩, v', hw', hk⟩)
    go_end0
    exact ⟨⟨_, rfl⟩, v', hw', hk⟩
set_option maxHeartbeats 4000000 in
theorem wDone_is (W : World) (base g : Nat) (v : Value) (xs : List Int) (hw : WrAt W base g v xs 0) (hl : xs.length < 140737488355328) :
    Calls Try.prog 59 #[.pointer (some ⟨g, 0, none⟩)] W fun e w' => ∃ v', e = .returned (.tuple #[v', .int .i64 0]) ∧ Kd.R (Kd.int .u8) 5 w' W.heap.size (fun _ => True) v' xs ∧ Below W.heap.size W w' := by
  have hr := hw.row
  obtain ⟨A, c, rfl⟩ := Kd.R_slice hr
  have HN := Aside0.mk (bytes_Clone.calls A c xs xs W (Kd.R_reads' hr).2.2 (Kd.R_reads' hr).2.1 (by unfold bytes_Clone.f; rw [if_pos (by simpa using hl)]))
  have j0 := (blk_cell hw.blk 0).trans rfl
  have j1 := (blk_cell hw.blk 1).trans rfl
  have hu93 := Try.underlying93
  clear hw hr hl
  go_enter Try.func59, Try.ntmps59
  go_wp2_with (go_at_call 66; refine HN.out.mono ?_; rintro e w' ⟨v', rfl, hR, hB⟩)
  go_ret2
  exact ⟨_, rfl, hR, hB⟩
set_option maxHeartbeats 4000000 in
theorem newWriter_is (W : World) :
    Calls Try.prog 35 #[] W fun e w' => e = .returned (.pointer (some ⟨W.heap.size, 0, none⟩)) ∧ WrAt w' W.heap.size W.heap.size (.slice none 0 0) [] 0 ∧ Below W.heap.size W w' := by
  have hu93 := Try.underlying93
  go_enter Try.func35, Try.ntmps35
  go_wp2
  go_ret
  exact ⟨rfl, ⟨Nat.le_refl _, heap_alloc_new _ _, Kd.R_nil _ _ _ _ _⟩, (Below.refl _ _).alloc (Nat.le_refl _) _⟩
end Go.Proofs.Ytceeoifbimlkdaa.B
