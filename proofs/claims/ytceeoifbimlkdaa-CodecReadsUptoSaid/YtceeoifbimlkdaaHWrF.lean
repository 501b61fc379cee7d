/- Proved: the contracts of a Writer's calls at any fault: what is laid down is laid behind, the first fault sticks. Conditions: bounds of the length. -/
import Derived.Test.YtceeoifbimlkdaaHWriter
import Derived.Outline
import Derived.LoopTactic
namespace Go.Proofs.Ytceeoifbimlkdaa.B
open Go.RowKit Go.Proofs.YtceeoifbimlkdaaW.PrintWords Go.Proofs.YtceeoifbimlkdaaW.PrintLast Go.Proofs.YtceeoifbimlkdaaW.PrintMore

/-- The bytes of a number, the highest first. -/
def bigL : Int → Nat → List Int
  | _, 0 => []
  | x, n + 1 => bigL (x / 256) n ++ [x % 256]
theorem bigL_length : ∀ (n : Nat) (x : Int), (bigL x n).length = n
  | 0, _ => rfl
  | n + 1, x => by show (bigL (x / 256) n ++ [x % 256]).length = _; rw [List.length_append, bigL_length n]; rfl
theorem bigL_bytes : ∀ (n : Nat) (x : Int), ∀ y ∈ bigL x n, 0 ≤ y ∧ y < 256
  | 0, _, y, h => by cases h
  | n + 1, x, y, h => by
    rcases List.mem_append.1 h with h | h
    · exact bigL_bytes n _ y h
    · rw [List.mem_singleton] at h; omega
theorem big_is (x : Int) (n : Int) (hn : n = 1 ∨ n = 2 ∨ n = 4 ∨ n = 8) (_h0 : 0 ≤ x) (_h1 : x < 18446744073709551616) : ∃ k, codec_big.f k x n = some (bigL x n.toNat) := by
  refine ⟨9, ?_⟩
  have q : ∀ a b : Int, 0 ≤ a → x / a / b = x / (a * b) := fun a b h => Int.ediv_ediv_of_nonneg h
  unfold codec_big.f
  rcases hn with rfl | rfl | rfl | rfl
  all_goals rw [if_pos (by omega), if_pos (by simp)]
  all_goals simp only [Option.bind_some]
  · have e : List.replicate (1 : Int).toNat (0 : Int) = [0] := rfl
    rw [e]
    simp [codec_big.l0, wrap64, shr, bigL, IntKind.bits]
  · have e : List.replicate (2 : Int).toNat (0 : Int) = [0, 0] := rfl
    rw [e]
    simp [codec_big.l0, wrap64, shr, bigL, IntKind.bits]
  · have e : List.replicate (4 : Int).toNat (0 : Int) = [0, 0, 0, 0] := rfl
    rw [e]
    simp [codec_big.l0, wrap64, shr, bigL, q, IntKind.bits]
  · have e : List.replicate (8 : Int).toNat (0 : Int) = [0, 0, 0, 0, 0, 0, 0, 0] := rfl
    rw [e]
    simp [codec_big.l0, wrap64, shr, bigL, q, IntKind.bits]

/-! ### The Writer's state by itself -/
def wPut (s : List Int × Int) (bs : List Int) : List Int × Int := if s.2 = 0 then (s.1 ++ bs, 0) else s
def wFail (s : List Int × Int) (e : Int) : List Int × Int := if s.2 = 0 then (s.1, e) else s
def wNum (s : List Int × Int) (x : Int) (n : Nat) : List Int × Int := if 0 ≤ x ∧ x < 256 ^ n then wPut s (bigL x n) else wFail s 2
def wList (s : List Int × Int) (l : List Int) (most : Int) : List Int × Int := l.foldl (fun s x => wNum s x 2) (if most < (l.length : Int) then wFail s 1 else wPut s (bigL l.length 4))
theorem wPut_len (s : List Int × Int) (bs : List Int) : (wPut s bs).1.length ≤ s.1.length + bs.length := by unfold wPut; split <;> simp
theorem wFail_len (s : List Int × Int) (e : Int) : (wFail s e).1.length = s.1.length := by unfold wFail; split <;> rfl
theorem wNum_len (s : List Int × Int) (x : Int) (n : Nat) : (wNum s x n).1.length ≤ s.1.length + n := by
  unfold wNum
  split
  · have := wPut_len s (bigL x n); rw [bigL_length] at this; exact this
  · rw [wFail_len]; omega
theorem wNums_len : ∀ (l : List Int) (s : List Int × Int), (l.foldl (fun s x => wNum s x 2) s).1.length ≤ s.1.length + 2 * l.length
  | [], s => Nat.le_refl _
  | x :: l, s => by
    have h1 := wNums_len l (wNum s x 2)
    have h2 := wNum_len s x 2
    show (l.foldl (fun s x => wNum s x 2) (wNum s x 2)).1.length ≤ _
    rw [List.length_cons]; omega
theorem wList_len (s : List Int × Int) (l : List Int) (most : Int) : (wList s l most).1.length ≤ s.1.length + 4 + 2 * l.length := by
  unfold wList
  refine Nat.le_trans (wNums_len _ _) ?_
  split
  · rw [wFail_len]; omega
  · have := wPut_len s (bigL l.length 4); rw [bigL_length] at this; omega

/-- What a Writer's call leaves. -/
def WPost (W : World) (base g : Nat) (v : Value) (s' : List Int × Int) (e : Ending) (w' : World) : Prop := (∃ r, e = .returned r) ∧ ∃ v', WrAt w' base g v' s'.1 s'.2 ∧ WrKeeps W w' g v v'
theorem WrKeeps.refl (W : World) (g : Nat) (v : Value) : WrKeeps W W g v v := ⟨⟨rfl, rfl, rfl⟩, Nat.le_refl _, fun _ _ _ _ => rfl, .inl rfl⟩
theorem WPost.behind {W W2 w' : World} {base g : Nat} {v : Value} {s' : List Int × Int} {e : Ending} (hb : Below W.heap.size W W2) (h : WPost W2 base g v s' e w') : WPost W base g v s' e w' := by
  obtain ⟨h1, v', h2, h3⟩ := h
  exact ⟨h1, v', h2, h3.behind hb⟩
/-- What a closure tells to a Writer. -/
def Tells (W : World) (bs : List Int) (err : Int) (e : Ending) (w' : World) : Prop := ∃ A c, e = .returned (.tuple #[.slice A bs.length c, .int .i64 err]) ∧ Kd.C (Kd.int .u8) w' A bs.length bs ∧ Below W.heap.size W w'

set_option maxHeartbeats 4000000 in
set_option maxRecDepth 100000 in
theorem doF_num (g1 g2 : Nat) (W : World) (base g : Nat) (v : Value) (s : List Int × Int) (bs : List Int) (err : Int) (hw : WrAt W base g v s.1 s.2) (hbase : base ≤ W.heap.size) (hl : s.1.length + bs.length < 140737488355328)
    (HC : Calls Try.prog 135 #[.pointer (some ⟨g1, 0, none⟩), .pointer (some ⟨g2, 0, none⟩)] W (Tells W bs err)) (he : err ≠ 0 → bs = []) :
    Calls Try.prog 123 #[.pointer (some ⟨g, 0, none⟩), .func (.func 135) #[] #[.pointer (some ⟨g1, 0, none⟩), .pointer (some ⟨g2, 0, none⟩)]] W (WPost W base g v (if err = 0 then wPut s bs else wFail s err)) := by
  obtain ⟨xs, f⟩ := s
  have HW := Aside0.mk hw
  have HCC := Aside0.mk HC
  have HL := Aside0.mk hl
  have HE0 := Aside0.mk he
  have j1 := (blk_cell hw.blk 1).trans rfl
  have hu93 := Try.underlying93
  clear hw HC hl he
  dsimp only at HW HL j1
  obtain ⟨sf, hsf⟩ : ∃ sf, (if err = 0 then wPut (xs, f) bs else wFail (xs, f) err) = sf := ⟨_, rfl⟩
  rw [hsf]
  have HSF := Aside0.mk hsf
  clear hsf
  by_cases hf : f = 0
  · subst hf
    by_cases he : err = 0
    · subst he
      have HV := Aside0.mk (show sf = (xs ++ bs, 0) by rw [← HSF.out, if_pos rfl]; unfold wPut; rw [if_pos rfl])
      obtain ⟨y, hy⟩ : ∃ y : List Int, y = xs ++ bs := ⟨_, rfl⟩
      have Ny := Aside0.mk hy
      clear hy HE0 HSF
      go_enter Try.func123, Try.ntmps123
      go_wp2_with (first
        | (go_at_call 135; refine HCC.out.mono ?_; rintro e w1 ⟨Ab, cb, rfl, hR, hB⟩; have HR := Aside0.mk hR; have HW1 := Aside0.mk (HW.out.below hB); have k0 := (blk_cell HW1.out.blk 0).trans rfl; have HB := Aside0.mk hB; clear hR hB)
        | ((with_reducible refine gate_builtin (b := .append) (xs := #[.tmp 26, .tmp 27]) rfl ?_); at_builtin; refine Kd.R_append_rows (Kd.int .u8) (w0 := W) base rfl (.tmp 26) (.tmp 27) 37 5 (.int .u8 0) 1 rfl Try.underlying37 infoU8 rfl (by decide) (by omega) v xs bs _ _ _ (fun _ => True) (fun _ => False) rfl rfl ?aO ?aR (fun _ _ h => h) (fun _ h => h.elim) ?aF ?aB ?aS ?aL ?_; (case aR => exact HR.out); (case aB => exact HB.out.mono hbase); (case aF => exact (fun _ _ => trivial)); (case aO => exact HW1.out.row); (case aS => exact Nat.le_trans hbase HB.out.size); (case aL => have := HL.out; omega); intro v1 w2 ho hb hg hat; rw [← Ny.out] at ho; obtain ⟨A1, cc1, rfl⟩ := Kd.R_slice ho; have HB2 := Aside0.mk (blk_grown HW1.out.blk hg (row_ne HW1.out.row HW1.out.blk (by decide))); have HO := Aside0.mk ho; have HG := Aside0.mk hg; have HT := Aside0.mk hat; have k1 := (blk_cell HB2.out 0).trans rfl; have f1 := blk_frozen HB2.out 0; clear ho hb hg hat))
      go_end0
      have hne := row_ne HO.out HB2.out (by decide)
      rw [HV.out]
      rw [← Ny.out]
      refine ⟨⟨_, rfl⟩, _, ⟨HW.out.low, blk_put HB2.out 0 _ rfl, row_kept HO.out fun k hk => Below.heap_setCell _ _ _ k (fun e => hne (by rw [hk, e]))⟩, ⟨?_, ?_, ?_, ?_⟩⟩
      · have a := HB.out; have b := HG.out
        exact ⟨b.os.trans a.os, b.tape.trans a.tape, b.output.trans a.output⟩
      · have a := HB.out.size; have b := HG.out.size; simp; omega
      · intro k hk h1 h2
        exact (Below.heap_setCell _ _ _ k h1).trans ((HG.out.block k (by have := HB.out.size; omega) h2).trans (HB.out.block k hk))
      · rcases HT.out with h | ⟨b, h1, h2⟩
        · exact .inl h
        · exact .inr ⟨b, h1, Nat.le_trans HB.out.size h2⟩
    · have HV := Aside0.mk (show sf = (xs, err) by rw [← HSF.out, if_neg he]; unfold wFail; rw [if_pos rfl])
      have h1 : (err == 0) = false := by rw [beq_eq_false_iff_ne]; exact he
      have h2 : (err != 0) = true := by rw [bne_iff_ne]; exact he
      have hbs := HE0.out he
      subst hbs
      clear HSF
      clear HE0
      go_enter Try.func123, Try.ntmps123
      go_wp2_with (go_at_call 135; refine HCC.out.mono ?_; rintro e w1 ⟨Ab, cb, rfl, hR, hB⟩; have HW1 := Aside0.mk (HW.out.below hB); have k1 := (blk_cell HW1.out.blk 1).trans rfl; have f1 := blk_frozen HW1.out.blk 1; have HB := Aside0.mk hB; clear hR hB)
      go_end0
      have hne := row_ne HW1.out.row HW1.out.blk (by decide)
      rw [HV.out]
      refine ⟨⟨_, rfl⟩, v, ⟨HW.out.low, blk_put HW1.out.blk 1 _ rfl, row_kept HW1.out.row fun k hk => Below.heap_setCell _ _ _ k (fun e => hne (by rw [hk, e]))⟩, ⟨?_, ?_, ?_, .inl rfl⟩⟩
      · have a := HB.out
        exact ⟨a.os, a.tape, a.output⟩
      · have a := HB.out.size; simp; omega
      · intro k hk h1 h2
        exact (Below.heap_setCell _ _ _ k h1).trans (HB.out.block k hk)
  · have HV := Aside0.mk (show sf = (xs, f) by rw [← HSF.out]; split; (unfold wPut; rw [if_neg hf]); (unfold wFail; rw [if_neg hf]))
    have h1 : (f == 0) = false := by rw [beq_eq_false_iff_ne]; exact hf
    have h2 : (f != 0) = true := by rw [bne_iff_ne]; exact hf
    clear HE0 HCC HL HSF
    go_enter Try.func123, Try.ntmps123
    go_wp2
    go_end0
    rw [HV.out]
    exact ⟨⟨_, rfl⟩, v, HW.out, WrKeeps.refl _ _ _⟩

set_option maxHeartbeats 4000000 in
set_option maxRecDepth 100000 in
theorem doF_i64 (g1 : Nat) (W : World) (base g : Nat) (v : Value) (s : List Int × Int) (bs : List Int) (err : Int) (hw : WrAt W base g v s.1 s.2) (hbase : base ≤ W.heap.size) (hl : s.1.length + bs.length < 140737488355328)
    (HC : Calls Try.prog 124 #[.pointer (some ⟨g1, 0, none⟩)] W (Tells W bs err)) (he : err ≠ 0 → bs = []) :
    Calls Try.prog 123 #[.pointer (some ⟨g, 0, none⟩), .func (.func 124) #[] #[.pointer (some ⟨g1, 0, none⟩)]] W (WPost W base g v (if err = 0 then wPut s bs else wFail s err)) := by
  obtain ⟨xs, f⟩ := s
  have HW := Aside0.mk hw
  have HCC := Aside0.mk HC
  have HL := Aside0.mk hl
  have HE0 := Aside0.mk he
  have j1 := (blk_cell hw.blk 1).trans rfl
  have hu93 := Try.underlying93
  clear hw HC hl he
  dsimp only at HW HL j1
  obtain ⟨sf, hsf⟩ : ∃ sf, (if err = 0 then wPut (xs, f) bs else wFail (xs, f) err) = sf := ⟨_, rfl⟩
  rw [hsf]
  have HSF := Aside0.mk hsf
  clear hsf
  by_cases hf : f = 0
  · subst hf
    by_cases he : err = 0
    · subst he
      have HV := Aside0.mk (show sf = (xs ++ bs, 0) by rw [← HSF.out, if_pos rfl]; unfold wPut; rw [if_pos rfl])
      obtain ⟨y, hy⟩ : ∃ y : List Int, y = xs ++ bs := ⟨_, rfl⟩
      have Ny := Aside0.mk hy
      clear hy HE0 HSF
      go_enter Try.func123, Try.ntmps123
      go_wp2_with (first
        | (go_at_call 124; refine HCC.out.mono ?_; rintro e w1 ⟨Ab, cb, rfl, hR, hB⟩; have HR := Aside0.mk hR; have HW1 := Aside0.mk (HW.out.below hB); have k0 := (blk_cell HW1.out.blk 0).trans rfl; have HB := Aside0.mk hB; clear hR hB)
        | ((with_reducible refine gate_builtin (b := .append) (xs := #[.tmp 26, .tmp 27]) rfl ?_); at_builtin; refine Kd.R_append_rows (Kd.int .u8) (w0 := W) base rfl (.tmp 26) (.tmp 27) 37 5 (.int .u8 0) 1 rfl Try.underlying37 infoU8 rfl (by decide) (by omega) v xs bs _ _ _ (fun _ => True) (fun _ => False) rfl rfl ?aO ?aR (fun _ _ h => h) (fun _ h => h.elim) ?aF ?aB ?aS ?aL ?_; (case aR => exact HR.out); (case aB => exact HB.out.mono hbase); (case aF => exact (fun _ _ => trivial)); (case aO => exact HW1.out.row); (case aS => exact Nat.le_trans hbase HB.out.size); (case aL => have := HL.out; omega); intro v1 w2 ho hb hg hat; rw [← Ny.out] at ho; obtain ⟨A1, cc1, rfl⟩ := Kd.R_slice ho; have HB2 := Aside0.mk (blk_grown HW1.out.blk hg (row_ne HW1.out.row HW1.out.blk (by decide))); have HO := Aside0.mk ho; have HG := Aside0.mk hg; have HT := Aside0.mk hat; have k1 := (blk_cell HB2.out 0).trans rfl; have f1 := blk_frozen HB2.out 0; clear ho hb hg hat))
      go_end0
      have hne := row_ne HO.out HB2.out (by decide)
      rw [HV.out]
      rw [← Ny.out]
      refine ⟨⟨_, rfl⟩, _, ⟨HW.out.low, blk_put HB2.out 0 _ rfl, row_kept HO.out fun k hk => Below.heap_setCell _ _ _ k (fun e => hne (by rw [hk, e]))⟩, ⟨?_, ?_, ?_, ?_⟩⟩
      · have a := HB.out; have b := HG.out
        exact ⟨b.os.trans a.os, b.tape.trans a.tape, b.output.trans a.output⟩
      · have a := HB.out.size; have b := HG.out.size; simp; omega
      · intro k hk h1 h2
        exact (Below.heap_setCell _ _ _ k h1).trans ((HG.out.block k (by have := HB.out.size; omega) h2).trans (HB.out.block k hk))
      · rcases HT.out with h | ⟨b, h1, h2⟩
        · exact .inl h
        · exact .inr ⟨b, h1, Nat.le_trans HB.out.size h2⟩
    · have HV := Aside0.mk (show sf = (xs, err) by rw [← HSF.out, if_neg he]; unfold wFail; rw [if_pos rfl])
      have h1 : (err == 0) = false := by rw [beq_eq_false_iff_ne]; exact he
      have h2 : (err != 0) = true := by rw [bne_iff_ne]; exact he
      have hbs := HE0.out he
      subst hbs
      clear HSF
      clear HE0
      go_enter Try.func123, Try.ntmps123
      go_wp2_with (go_at_call 124; refine HCC.out.mono ?_; rintro e w1 ⟨Ab, cb, rfl, hR, hB⟩; have HW1 := Aside0.mk (HW.out.below hB); have k1 := (blk_cell HW1.out.blk 1).trans rfl; have f1 := blk_frozen HW1.out.blk 1; have HB := Aside0.mk hB; clear hR hB)
      go_end0
      have hne := row_ne HW1.out.row HW1.out.blk (by decide)
      rw [HV.out]
      refine ⟨⟨_, rfl⟩, v, ⟨HW.out.low, blk_put HW1.out.blk 1 _ rfl, row_kept HW1.out.row fun k hk => Below.heap_setCell _ _ _ k (fun e => hne (by rw [hk, e]))⟩, ⟨?_, ?_, ?_, .inl rfl⟩⟩
      · have a := HB.out
        exact ⟨a.os, a.tape, a.output⟩
      · have a := HB.out.size; simp; omega
      · intro k hk h1 h2
        exact (Below.heap_setCell _ _ _ k h1).trans (HB.out.block k hk)
  · have HV := Aside0.mk (show sf = (xs, f) by rw [← HSF.out]; split; (unfold wPut; rw [if_neg hf]); (unfold wFail; rw [if_neg hf]))
    have h1 : (f == 0) = false := by rw [beq_eq_false_iff_ne]; exact hf
    have h2 : (f != 0) = true := by rw [bne_iff_ne]; exact hf
    clear HE0 HCC HL HSF
    go_enter Try.func123, Try.ntmps123
    go_wp2
    go_end0
    rw [HV.out]
    exact ⟨⟨_, rfl⟩, v, HW.out, WrKeeps.refl _ _ _⟩

set_option maxHeartbeats 4000000 in
set_option maxRecDepth 100000 in
theorem doF_byt (g1 : Nat) (W : World) (base g : Nat) (v : Value) (s : List Int × Int) (bs : List Int) (err : Int) (hw : WrAt W base g v s.1 s.2) (hbase : base ≤ W.heap.size) (hl : s.1.length + bs.length < 140737488355328)
    (HC : Calls Try.prog 125 #[.pointer (some ⟨g1, 0, none⟩)] W (Tells W bs err)) (he : err ≠ 0 → bs = []) :
    Calls Try.prog 123 #[.pointer (some ⟨g, 0, none⟩), .func (.func 125) #[] #[.pointer (some ⟨g1, 0, none⟩)]] W (WPost W base g v (if err = 0 then wPut s bs else wFail s err)) := by
  obtain ⟨xs, f⟩ := s
  have HW := Aside0.mk hw
  have HCC := Aside0.mk HC
  have HL := Aside0.mk hl
  have HE0 := Aside0.mk he
  have j1 := (blk_cell hw.blk 1).trans rfl
  have hu93 := Try.underlying93
  clear hw HC hl he
  dsimp only at HW HL j1
  obtain ⟨sf, hsf⟩ : ∃ sf, (if err = 0 then wPut (xs, f) bs else wFail (xs, f) err) = sf := ⟨_, rfl⟩
  rw [hsf]
  have HSF := Aside0.mk hsf
  clear hsf
  by_cases hf : f = 0
  · subst hf
    by_cases he : err = 0
    · subst he
      have HV := Aside0.mk (show sf = (xs ++ bs, 0) by rw [← HSF.out, if_pos rfl]; unfold wPut; rw [if_pos rfl])
      obtain ⟨y, hy⟩ : ∃ y : List Int, y = xs ++ bs := ⟨_, rfl⟩
      have Ny := Aside0.mk hy
      clear hy HE0 HSF
      go_enter Try.func123, Try.ntmps123
      go_wp2_with (first
        | (go_at_call 125; refine HCC.out.mono ?_; rintro e w1 ⟨Ab, cb, rfl, hR, hB⟩; have HR := Aside0.mk hR; have HW1 := Aside0.mk (HW.out.below hB); have k0 := (blk_cell HW1.out.blk 0).trans rfl; have HB := Aside0.mk hB; clear hR hB)
        | ((with_reducible refine gate_builtin (b := .append) (xs := #[.tmp 26, .tmp 27]) rfl ?_); at_builtin; refine Kd.R_append_rows (Kd.int .u8) (w0 := W) base rfl (.tmp 26) (.tmp 27) 37 5 (.int .u8 0) 1 rfl Try.underlying37 infoU8 rfl (by decide) (by omega) v xs bs _ _ _ (fun _ => True) (fun _ => False) rfl rfl ?aO ?aR (fun _ _ h => h) (fun _ h => h.elim) ?aF ?aB ?aS ?aL ?_; (case aR => exact HR.out); (case aB => exact HB.out.mono hbase); (case aF => exact (fun _ _ => trivial)); (case aO => exact HW1.out.row); (case aS => exact Nat.le_trans hbase HB.out.size); (case aL => have := HL.out; omega); intro v1 w2 ho hb hg hat; rw [← Ny.out] at ho; obtain ⟨A1, cc1, rfl⟩ := Kd.R_slice ho; have HB2 := Aside0.mk (blk_grown HW1.out.blk hg (row_ne HW1.out.row HW1.out.blk (by decide))); have HO := Aside0.mk ho; have HG := Aside0.mk hg; have HT := Aside0.mk hat; have k1 := (blk_cell HB2.out 0).trans rfl; have f1 := blk_frozen HB2.out 0; clear ho hb hg hat))
      go_end0
      have hne := row_ne HO.out HB2.out (by decide)
      rw [HV.out]
      rw [← Ny.out]
      refine ⟨⟨_, rfl⟩, _, ⟨HW.out.low, blk_put HB2.out 0 _ rfl, row_kept HO.out fun k hk => Below.heap_setCell _ _ _ k (fun e => hne (by rw [hk, e]))⟩, ⟨?_, ?_, ?_, ?_⟩⟩
      · have a := HB.out; have b := HG.out
        exact ⟨b.os.trans a.os, b.tape.trans a.tape, b.output.trans a.output⟩
      · have a := HB.out.size; have b := HG.out.size; simp; omega
      · intro k hk h1 h2
        exact (Below.heap_setCell _ _ _ k h1).trans ((HG.out.block k (by have := HB.out.size; omega) h2).trans (HB.out.block k hk))
      · rcases HT.out with h | ⟨b, h1, h2⟩
        · exact .inl h
        · exact .inr ⟨b, h1, Nat.le_trans HB.out.size h2⟩
    · have HV := Aside0.mk (show sf = (xs, err) by rw [← HSF.out, if_neg he]; unfold wFail; rw [if_pos rfl])
      have h1 : (err == 0) = false := by rw [beq_eq_false_iff_ne]; exact he
      have h2 : (err != 0) = true := by rw [bne_iff_ne]; exact he
      have hbs := HE0.out he
      subst hbs
      clear HSF
      clear HE0
      go_enter Try.func123, Try.ntmps123
      go_wp2_with (go_at_call 125; refine HCC.out.mono ?_; rintro e w1 ⟨Ab, cb, rfl, hR, hB⟩; have HW1 := Aside0.mk (HW.out.below hB); have k1 := (blk_cell HW1.out.blk 1).trans rfl; have f1 := blk_frozen HW1.out.blk 1; have HB := Aside0.mk hB; clear hR hB)
      go_end0
      have hne := row_ne HW1.out.row HW1.out.blk (by decide)
      rw [HV.out]
      refine ⟨⟨_, rfl⟩, v, ⟨HW.out.low, blk_put HW1.out.blk 1 _ rfl, row_kept HW1.out.row fun k hk => Below.heap_setCell _ _ _ k (fun e => hne (by rw [hk, e]))⟩, ⟨?_, ?_, ?_, .inl rfl⟩⟩
      · have a := HB.out
        exact ⟨a.os, a.tape, a.output⟩
      · have a := HB.out.size; simp; omega
      · intro k hk h1 h2
        exact (Below.heap_setCell _ _ _ k h1).trans (HB.out.block k hk)
  · have HV := Aside0.mk (show sf = (xs, f) by rw [← HSF.out]; split; (unfold wPut; rw [if_neg hf]); (unfold wFail; rw [if_neg hf]))
    have h1 : (f == 0) = false := by rw [beq_eq_false_iff_ne]; exact hf
    have h2 : (f != 0) = true := by rw [bne_iff_ne]; exact hf
    clear HE0 HCC HL HSF
    go_enter Try.func123, Try.ntmps123
    go_wp2
    go_end0
    rw [HV.out]
    exact ⟨⟨_, rfl⟩, v, HW.out, WrKeeps.refl _ _ _⟩

set_option maxHeartbeats 4000000 in
set_option maxRecDepth 100000 in
theorem doF_lst (g1 g2 : Nat) (W : World) (base g : Nat) (v : Value) (s : List Int × Int) (bs : List Int) (err : Int) (hw : WrAt W base g v s.1 s.2) (hbase : base ≤ W.heap.size) (hl : s.1.length + bs.length < 140737488355328)
    (HC : Calls Try.prog 126 #[.pointer (some ⟨g1, 0, none⟩), .pointer (some ⟨g2, 0, none⟩)] W (Tells W bs err)) (he : err ≠ 0 → bs = []) :
    Calls Try.prog 123 #[.pointer (some ⟨g, 0, none⟩), .func (.func 126) #[] #[.pointer (some ⟨g1, 0, none⟩), .pointer (some ⟨g2, 0, none⟩)]] W (WPost W base g v (if err = 0 then wPut s bs else wFail s err)) := by
  obtain ⟨xs, f⟩ := s
  have HW := Aside0.mk hw
  have HCC := Aside0.mk HC
  have HL := Aside0.mk hl
  have HE0 := Aside0.mk he
  have j1 := (blk_cell hw.blk 1).trans rfl
  have hu93 := Try.underlying93
  clear hw HC hl he
  dsimp only at HW HL j1
  obtain ⟨sf, hsf⟩ : ∃ sf, (if err = 0 then wPut (xs, f) bs else wFail (xs, f) err) = sf := ⟨_, rfl⟩
  rw [hsf]
  have HSF := Aside0.mk hsf
  clear hsf
  by_cases hf : f = 0
  · subst hf
    by_cases he : err = 0
    · subst he
      have HV := Aside0.mk (show sf = (xs ++ bs, 0) by rw [← HSF.out, if_pos rfl]; unfold wPut; rw [if_pos rfl])
      obtain ⟨y, hy⟩ : ∃ y : List Int, y = xs ++ bs := ⟨_, rfl⟩
      have Ny := Aside0.mk hy
      clear hy HE0 HSF
      go_enter Try.func123, Try.ntmps123
      go_wp2_with (first
        | (go_at_call 126; refine HCC.out.mono ?_; rintro e w1 ⟨Ab, cb, rfl, hR, hB⟩; have HR := Aside0.mk hR; have HW1 := Aside0.mk (HW.out.below hB); have k0 := (blk_cell HW1.out.blk 0).trans rfl; have HB := Aside0.mk hB; clear hR hB)
        | ((with_reducible refine gate_builtin (b := .append) (xs := #[.tmp 26, .tmp 27]) rfl ?_); at_builtin; refine Kd.R_append_rows (Kd.int .u8) (w0 := W) base rfl (.tmp 26) (.tmp 27) 37 5 (.int .u8 0) 1 rfl Try.underlying37 infoU8 rfl (by decide) (by omega) v xs bs _ _ _ (fun _ => True) (fun _ => False) rfl rfl ?aO ?aR (fun _ _ h => h) (fun _ h => h.elim) ?aF ?aB ?aS ?aL ?_; (case aR => exact HR.out); (case aB => exact HB.out.mono hbase); (case aF => exact (fun _ _ => trivial)); (case aO => exact HW1.out.row); (case aS => exact Nat.le_trans hbase HB.out.size); (case aL => have := HL.out; omega); intro v1 w2 ho hb hg hat; rw [← Ny.out] at ho; obtain ⟨A1, cc1, rfl⟩ := Kd.R_slice ho; have HB2 := Aside0.mk (blk_grown HW1.out.blk hg (row_ne HW1.out.row HW1.out.blk (by decide))); have HO := Aside0.mk ho; have HG := Aside0.mk hg; have HT := Aside0.mk hat; have k1 := (blk_cell HB2.out 0).trans rfl; have f1 := blk_frozen HB2.out 0; clear ho hb hg hat))
      go_end0
      have hne := row_ne HO.out HB2.out (by decide)
      rw [HV.out]
      rw [← Ny.out]
      refine ⟨⟨_, rfl⟩, _, ⟨HW.out.low, blk_put HB2.out 0 _ rfl, row_kept HO.out fun k hk => Below.heap_setCell _ _ _ k (fun e => hne (by rw [hk, e]))⟩, ⟨?_, ?_, ?_, ?_⟩⟩
      · have a := HB.out; have b := HG.out
        exact ⟨b.os.trans a.os, b.tape.trans a.tape, b.output.trans a.output⟩
      · have a := HB.out.size; have b := HG.out.size; simp; omega
      · intro k hk h1 h2
        exact (Below.heap_setCell _ _ _ k h1).trans ((HG.out.block k (by have := HB.out.size; omega) h2).trans (HB.out.block k hk))
      · rcases HT.out with h | ⟨b, h1, h2⟩
        · exact .inl h
        · exact .inr ⟨b, h1, Nat.le_trans HB.out.size h2⟩
    · have HV := Aside0.mk (show sf = (xs, err) by rw [← HSF.out, if_neg he]; unfold wFail; rw [if_pos rfl])
      have h1 : (err == 0) = false := by rw [beq_eq_false_iff_ne]; exact he
      have h2 : (err != 0) = true := by rw [bne_iff_ne]; exact he
      have hbs := HE0.out he
      subst hbs
      clear HSF
      clear HE0
      go_enter Try.func123, Try.ntmps123
      go_wp2_with (go_at_call 126; refine HCC.out.mono ?_; rintro e w1 ⟨Ab, cb, rfl, hR, hB⟩; have HW1 := Aside0.mk (HW.out.below hB); have k1 := (blk_cell HW1.out.blk 1).trans rfl; have f1 := blk_frozen HW1.out.blk 1; have HB := Aside0.mk hB; clear hR hB)
      go_end0
      have hne := row_ne HW1.out.row HW1.out.blk (by decide)
      rw [HV.out]
      refine ⟨⟨_, rfl⟩, v, ⟨HW.out.low, blk_put HW1.out.blk 1 _ rfl, row_kept HW1.out.row fun k hk => Below.heap_setCell _ _ _ k (fun e => hne (by rw [hk, e]))⟩, ⟨?_, ?_, ?_, .inl rfl⟩⟩
      · have a := HB.out
        exact ⟨a.os, a.tape, a.output⟩
      · have a := HB.out.size; simp; omega
      · intro k hk h1 h2
        exact (Below.heap_setCell _ _ _ k h1).trans (HB.out.block k hk)
  · have HV := Aside0.mk (show sf = (xs, f) by rw [← HSF.out]; split; (unfold wPut; rw [if_neg hf]); (unfold wFail; rw [if_neg hf]))
    have h1 : (f == 0) = false := by rw [beq_eq_false_iff_ne]; exact hf
    have h2 : (f != 0) = true := by rw [bne_iff_ne]; exact hf
    clear HE0 HCC HL HSF
    go_enter Try.func123, Try.ntmps123
    go_wp2
    go_end0
    rw [HV.out]
    exact ⟨⟨_, rfl⟩, v, HW.out, WrKeeps.refl _ _ _⟩

theorem tells_of_R {W w' : World} {e : Ending} {bs : List Int} (h : ∃ v, e = .returned (.tuple #[v, .int .i64 0]) ∧ Kd.R (Kd.int .u8) 5 w' W.heap.size (fun _ => True) v bs ∧ Below W.heap.size W w') : Tells W bs 0 e w' := by
  obtain ⟨v, rfl, hR, hB⟩ := h
  obtain ⟨A, c, rfl⟩ := Kd.R_slice hR
  exact ⟨A, c, rfl, (Kd.R_reads' hR).2.2, hB⟩
theorem tells_none {W w' : World} {e : Ending} {err : Int} (h : e = .returned (.tuple #[.slice none 0 0, .int .i64 err]) ∧ Below W.heap.size W w') : Tells W [] err e w' := by
  obtain ⟨rfl, hB⟩ := h
  exact ⟨none, 0, rfl, Kd.C_nil _ _, hB⟩

theorem numcl_err (n : Int) (hn : n = 1 ∨ n = 2 ∨ n = 4) (x : Int) (h : ¬ (0 ≤ x ∧ x < 256 ^ n.toNat)) (g1 g2 : Nat) (w : World) (c1 : w.cell? ⟨g1, 0, none⟩ = some (.int .i64 x)) (c2 : w.cell? ⟨g2, 0, none⟩ = some (.int .i64 n)) :
    Calls Try.prog 135 #[.pointer (some ⟨g1, 0, none⟩), .pointer (some ⟨g2, 0, none⟩)] w fun e w' => e = .returned (.tuple #[.slice none 0 0, .int .i64 2]) ∧ Below w.heap.size w w' := by
  by_cases hx : x < 0
  · have d0 : decide (x < 0) = true := decide_eq_true hx
    clear h
    rcases hn with rfl | rfl | rfl
    all_goals
      go_enter Try.func135, Try.ntmps135
      go_wp2
      go_quiet (fail)
      go_wp2
      go_ret2
      exact ⟨rfl, by repeat (first | exact Below.refl _ _ | apply pw_below_drewN | apply below_drew1)⟩
  · have d0 : decide (x < 0) = false := decide_eq_false hx
    rcases hn with rfl | rfl | rfl
    all_goals simp only [Int.reduceToNat, Int.reducePow] at h
    · have d1 : decide (256 ≤ x) = true := decide_eq_true (by omega)
      go_enter Try.func135, Try.ntmps135
      go_wp2
      go_quiet (fail)
      go_wp2
      go_ret2
      exact ⟨rfl, by repeat (first | exact Below.refl _ _ | apply pw_below_drewN | apply below_drew1)⟩
    · have d1 : decide (65536 ≤ x) = true := decide_eq_true (by omega)
      go_enter Try.func135, Try.ntmps135
      go_wp2
      go_quiet (fail)
      go_wp2
      go_ret2
      exact ⟨rfl, by repeat (first | exact Below.refl _ _ | apply pw_below_drewN | apply below_drew1)⟩
    · have d1 : decide (4294967296 ≤ x) = true := decide_eq_true (by omega)
      go_enter Try.func135, Try.ntmps135
      go_wp2
      go_quiet (fail)
      go_wp2
      go_ret2
      exact ⟨rfl, by repeat (first | exact Below.refl _ _ | apply pw_below_drewN | apply below_drew1)⟩

set_option maxHeartbeats 4000000 in
set_option maxRecDepth 100000 in
theorem number_any (n : Nat) (hn : n = 1 ∨ n = 2 ∨ n = 4) (x : Int) (W : World) (base g : Nat) (v : Value) (s : List Int × Int) (hw : WrAt W base g v s.1 s.2) (hbase : base ≤ W.heap.size) (hl : s.1.length + n < 140737488355328) :
    Calls Try.prog 121 #[.pointer (some ⟨g, 0, none⟩), .int .i64 x, .int .i64 (n : Nat)] W (WPost W base g v (wNum s x n)) := by
  obtain ⟨W2, hW2⟩ : ∃ W2, (W.alloc (.cells #[.int .i64 x] 3)).alloc (.cells #[.int .i64 (n : Nat)] 3) = W2 := ⟨_, rfl⟩
  have hB : Below W.heap.size W W2 := by rw [← hW2]; exact ((Below.refl _ _).alloc (Nat.le_refl _) _).alloc (by simp) _
  have b1 : W2.heap[W.heap.size]? = some (.cells #[.int .i64 x] 3 (0, 0)) := by rw [← hW2]; exact blk_alloc (heap_alloc_new _ _) _
  have b2 : W2.heap[W.heap.size + 1]? = some (.cells #[.int .i64 (n : Nat)] 3 (0, 0)) := by
    rw [← hW2]
    have := heap_alloc_new (W.alloc (.cells #[.int .i64 x] 3)) (.cells #[.int .i64 (n : Nat)] 3)
    rwa [World.size_alloc] at this
  have hn' : ((n : Nat) : Int) = 1 ∨ ((n : Nat) : Int) = 2 ∨ ((n : Nat) : Int) = 4 := by omega
  have hd : Calls Try.prog 123 #[.pointer (some ⟨g, 0, none⟩), .func (.func 135) #[] #[.pointer (some ⟨W.heap.size, 0, none⟩), .pointer (some ⟨W.heap.size + 1, 0, none⟩)]] W2 (WPost W2 base g v (wNum s x n)) := by
    by_cases c : 0 ≤ x ∧ x < 256 ^ n
    · obtain ⟨k, hk⟩ := big_is x n (by omega) c.1 (by rcases hn with rfl | rfl | rfl <;> simp at c <;> omega)
      rw [Int.toNat_natCast] at hk
      have e : wNum s x n = (if (0 : Int) = 0 then wPut s (bigL x n) else wFail s 0) := by unfold wNum; rw [if_pos c, if_pos rfl]
      rw [e]
      exact doF_num _ _ W2 base g v s (bigL x n) 0 (hw.below hB) (Nat.le_trans hbase hB.size) (by rw [bigL_length]; exact hl) ((numcl_is n hn' x c.1 (by simpa using c.2) _ _ W2 ((blk_cell b1 0).trans rfl) ((blk_cell b2 0).trans rfl) (bigL x n) k hk).mono fun _ _ h => tells_of_R h) (fun h => absurd rfl h)
    · have e : wNum s x n = (if (2 : Int) = 0 then wPut s [] else wFail s 2) := by unfold wNum; rw [if_neg c, if_neg (by decide)]
      rw [e]
      exact doF_num _ _ W2 base g v s [] 2 (hw.below hB) (Nat.le_trans hbase hB.size) (by simp; omega) ((numcl_err n hn' x (by simpa using c) _ _ W2 ((blk_cell b1 0).trans rfl) ((blk_cell b2 0).trans rfl)).mono fun _ _ h => tells_none h) (fun _ => rfl)
  subst hW2
  have HB := Aside0.mk hB
  have HD := Aside0.mk hd
  clear b1 b2 hB hw hn hl hd hn'
  go_enter Try.func121, Try.ntmps121
  go_wp2_with (go_at_call 123; refine HD.out.mono ?_; rintro e w' ⟨⟨vr, rfl⟩, v', hw', hk⟩)
  go_end0
  exact ⟨⟨_, rfl⟩, v', hw', hk.behind HB.out⟩

set_option maxHeartbeats 4000000 in
theorem wU8_any (x : Int) (W : World) (base g : Nat) (v : Value) (s : List Int × Int) (hw : WrAt W base g v s.1 s.2) (hbase : base ≤ W.heap.size) (hl : s.1.length + 1 < 140737488355328) :
    Calls Try.prog 71 #[.pointer (some ⟨g, 0, none⟩), .int .i64 x] W (WPost W base g v (wNum s x 1)) := by
  have HN := Aside0.mk (number_any 1 (.inl rfl) x W base g v s hw hbase hl)
  clear hw hl
  go_enter Try.func71, Try.ntmps71
  go_wp2_with (go_at_call 121; refine HN.out.mono ?_; rintro e w' ⟨⟨vr, rfl⟩, v', hw', hk⟩)
  go_end0
  exact ⟨⟨_, rfl⟩, v', hw', hk⟩
set_option maxHeartbeats 4000000 in
theorem wU16_any (x : Int) (W : World) (base g : Nat) (v : Value) (s : List Int × Int) (hw : WrAt W base g v s.1 s.2) (hbase : base ≤ W.heap.size) (hl : s.1.length + 2 < 140737488355328) :
    Calls Try.prog 73 #[.pointer (some ⟨g, 0, none⟩), .int .i64 x] W (WPost W base g v (wNum s x 2)) := by
  have HN := Aside0.mk (number_any 2 (.inr (.inl rfl)) x W base g v s hw hbase hl)
  clear hw hl
  go_enter Try.func73, Try.ntmps73
  go_wp2_with (go_at_call 121; refine HN.out.mono ?_; rintro e w' ⟨⟨vr, rfl⟩, v', hw', hk⟩)
  go_end0
  exact ⟨⟨_, rfl⟩, v', hw', hk⟩
set_option maxHeartbeats 4000000 in
theorem wU32_any (x : Int) (W : World) (base g : Nat) (v : Value) (s : List Int × Int) (hw : WrAt W base g v s.1 s.2) (hbase : base ≤ W.heap.size) (hl : s.1.length + 4 < 140737488355328) :
    Calls Try.prog 75 #[.pointer (some ⟨g, 0, none⟩), .int .i64 x] W (WPost W base g v (wNum s x 4)) := by
  have HN := Aside0.mk (number_any 4 (.inr (.inr rfl)) x W base g v s hw hbase hl)
  clear hw hl
  go_enter Try.func75, Try.ntmps75
  go_wp2_with (go_at_call 121; refine HN.out.mono ?_; rintro e w' ⟨⟨vr, rfl⟩, v', hw', hk⟩)
  go_end0
  exact ⟨⟨_, rfl⟩, v', hw', hk⟩
set_option maxHeartbeats 4000000 in
theorem wBool_any (x : Bool) (W : World) (base g : Nat) (v : Value) (s : List Int × Int) (hw : WrAt W base g v s.1 s.2) (hbase : base ≤ W.heap.size) (hl : s.1.length + 1 < 140737488355328) :
    Calls Try.prog 79 #[.pointer (some ⟨g, 0, none⟩), .bool x] W (WPost W base g v (wNum s (if x = true then 1 else 0) 1)) := by
  cases x with
  | true =>
    have HN := Aside0.mk (wU8_any 1 W base g v s hw hbase hl)
    clear hw hl
    rw [if_pos rfl]
    go_enter Try.func79, Try.ntmps79
    go_wp2_with (go_at_call 71; refine HN.out.mono ?_; rintro e w' ⟨⟨vr, rfl⟩, v', hw', hk⟩)
    go_end0
    exact ⟨⟨_, rfl⟩, v', hw', hk⟩
  | false =>
    have HN := Aside0.mk (wU8_any 0 W base g v s hw hbase hl)
    clear hw hl
    rw [if_neg (by decide)]
    go_enter Try.func79, Try.ntmps79
    go_wp2_with (go_at_call 71; refine HN.out.mono ?_; rintro e w' ⟨⟨vr, rfl⟩, v', hw', hk⟩)
    go_end0
    exact ⟨⟨_, rfl⟩, v', hw', hk⟩

/-! ### I64, Bytes -/
def wI64 (s : List Int × Int) (x : Int) : List Int × Int := wPut s (bigL (IntKind.u64.wrap x) 8)
theorem wI64_len (s : List Int × Int) (x : Int) : (wI64 s x).1.length ≤ s.1.length + 8 := by
  have := wPut_len s (bigL (IntKind.u64.wrap x) 8); rw [bigL_length] at this; exact this
theorem u64_bd (x : Int) : 0 ≤ IntKind.u64.wrap x ∧ IntKind.u64.wrap x < 18446744073709551616 := by
  have e : IntKind.u64.wrap x = x % 18446744073709551616 := by simp [IntKind.wrap, go_sem, show IntKind.u64.signed = false from rfl]
  rw [e]; omega
theorem i64cl_is (x : Int) (g1 : Nat) (w : World) (c1 : w.cell? ⟨g1, 0, none⟩ = some (.int .i64 x)) :
    Calls Try.prog 124 #[.pointer (some ⟨g1, 0, none⟩)] w (Tells w (bigL (IntKind.u64.wrap x) 8) 0) := by
  have hb := u64_bd x
  obtain ⟨k, hk⟩ := big_is (IntKind.u64.wrap x) 8 (by omega) hb.1 hb.2
  rw [show (8 : Int).toNat = 8 from rfl] at hk
  have HK := Aside0.mk (fun w => codec_big.calls k (IntKind.u64.wrap x) 8 _ w hk)
  clear hb hk
  go_enter Try.func124, Try.ntmps124
  go_wp2_with (go_at_call 63; refine (HK.out _).mono ?_; rintro e w' ⟨v0, rfl, hR, hB⟩)
  go_ret2
  exact tells_of_R ⟨_, rfl, hR, hB⟩
set_option maxHeartbeats 4000000 in
theorem wI64_any (x : Int) (W : World) (base g : Nat) (v : Value) (s : List Int × Int) (hw : WrAt W base g v s.1 s.2) (hbase : base ≤ W.heap.size) (hl : s.1.length + 8 < 140737488355328) :
    Calls Try.prog 77 #[.pointer (some ⟨g, 0, none⟩), .int .i64 x] W (WPost W base g v (wI64 s x)) := by
  obtain ⟨W2, hW2⟩ : ∃ W2, W.alloc (.cells #[.int .i64 x] 2) = W2 := ⟨_, rfl⟩
  have hB : Below W.heap.size W W2 := by rw [← hW2]; exact (Below.refl _ _).alloc (Nat.le_refl _) _
  have b1 : W2.heap[W.heap.size]? = some (.cells #[.int .i64 x] 2 (0, 0)) := by rw [← hW2]; exact heap_alloc_new _ _
  have hd := doF_i64 W.heap.size W2 base g v s (bigL (IntKind.u64.wrap x) 8) 0 (hw.below hB) (Nat.le_trans hbase hB.size) (by rw [bigL_length]; exact hl) (i64cl_is x W.heap.size W2 ((blk_cell b1 0).trans rfl)) (fun h => absurd rfl h)
  rw [if_pos rfl] at hd
  subst hW2
  have HB := Aside0.mk hB
  have HD := Aside0.mk hd
  clear b1 hB hw hl hd
  go_enter Try.func77, Try.ntmps77
  go_wp2_with (go_at_call 123; refine HD.out.mono ?_; rintro e w' ⟨⟨vr, rfl⟩, v', hw', hk⟩)
  go_end0
  exact ⟨⟨_, rfl⟩, v', hw', hk.behind HB.out⟩
theorem bytcl_is (A : Option Addr) (c : Nat) (l : List Int) (g1 : Nat) (w : World) (c1 : w.cell? ⟨g1, 0, none⟩ = some (.slice A l.length c)) (hr : Kd.C (Kd.int .u8) w A l.length l) :
    Calls Try.prog 125 #[.pointer (some ⟨g1, 0, none⟩)] w (Tells w l 0) := by
  have HR := Aside0.mk hr
  clear hr
  go_enter Try.func125, Try.ntmps125
  go_wp2
  go_ret2
  exact ⟨A, c, rfl, HR.out, Below.refl _ _⟩
set_option maxHeartbeats 4000000 in
theorem wBytes_any (A : Option Addr) (c : Nat) (l : List Int) (W : World) (base g : Nat) (v : Value) (s : List Int × Int) (hr : Kd.C (Kd.int .u8) W A l.length l) (hw : WrAt W base g v s.1 s.2) (hbase : base ≤ W.heap.size) (hl : s.1.length + l.length < 140737488355328) :
    Calls Try.prog 81 #[.pointer (some ⟨g, 0, none⟩), .slice A l.length c] W (WPost W base g v (wPut s l)) := by
  obtain ⟨W2, hW2⟩ : ∃ W2, W.alloc (.cells #[.slice A l.length c] 37) = W2 := ⟨_, rfl⟩
  have hB : Below W.heap.size W W2 := by rw [← hW2]; exact (Below.refl _ _).alloc (Nat.le_refl _) _
  have b1 : W2.heap[W.heap.size]? = some (.cells #[.slice A l.length c] 37 (0, 0)) := by rw [← hW2]; exact heap_alloc_new _ _
  have hd := doF_byt W.heap.size W2 base g v s l 0 (hw.below hB) (Nat.le_trans hbase hB.size) hl (bytcl_is A c l W.heap.size W2 ((blk_cell b1 0).trans rfl) (Kd.C_below hr hB)) (fun h => absurd rfl h)
  rw [if_pos rfl] at hd
  subst hW2
  have HB := Aside0.mk hB
  have HD := Aside0.mk hd
  clear b1 hB hw hl hd hr
  go_enter Try.func81, Try.ntmps81
  go_wp2_with (go_at_call 123; refine HD.out.mono ?_; rintro e w' ⟨⟨vr, rfl⟩, v', hw', hk⟩)
  go_end0
  exact ⟨⟨_, rfl⟩, v', hw', hk.behind HB.out⟩
set_option maxHeartbeats 4000000 in
theorem wLen_any (W : World) (base g : Nat) (v : Value) (s : List Int × Int) (hw : WrAt W base g v s.1 s.2) :
    Calls Try.prog 61 #[.pointer (some ⟨g, 0, none⟩)] W fun e w' => e = .returned (.int .i64 (s.1.length : Nat)) ∧ W = w' := by
  obtain ⟨A, c, rfl⟩ := Kd.R_slice hw.row
  have j0 := (blk_cell hw.blk 0).trans rfl
  have hu93 := Try.underlying93
  clear hw
  go_enter Try.func61, Try.ntmps61
  go_wp2
  go_ret
  exact ⟨rfl, rfl⟩
set_option maxHeartbeats 4000000 in
theorem wDone_flt (W : World) (base g : Nat) (v : Value) (s : List Int × Int) (hf : s.2 ≠ 0) (hw : WrAt W base g v s.1 s.2) :
    Calls Try.prog 59 #[.pointer (some ⟨g, 0, none⟩)] W fun e w' => e = .returned (.tuple #[.slice none 0 0, .int .i64 s.2]) ∧ Below W.heap.size W w' := by
  have j0 := (blk_cell hw.blk 0).trans rfl
  have j1 := (blk_cell hw.blk 1).trans rfl
  have hu93 := Try.underlying93
  obtain ⟨f, hF⟩ : ∃ f, s.2 = f := ⟨_, rfl⟩
  rw [hF] at hf j1 ⊢
  have h1 : (f == 0) = false := by rw [beq_eq_false_iff_ne]; exact hf
  have h2 : (f != 0) = true := by rw [bne_iff_ne]; exact hf
  clear hw hF
  go_enter Try.func59, Try.ntmps59
  go_wp2
  repeat (go_quiet (fail); try go_wp2)
  go_ret2
  exact ⟨rfl, by repeat (first | exact Below.refl _ _ | apply pw_below_drewN | apply below_drew1)⟩
/-- A Writer's Done, at any state. -/
theorem wDone_any (W : World) (base g : Nat) (v : Value) (s : List Int × Int) (hw : WrAt W base g v s.1 s.2) (hl : s.1.length < 140737488355328) :
    Calls Try.prog 59 #[.pointer (some ⟨g, 0, none⟩)] W fun e w' => ∃ v', e = .returned (.tuple #[v', .int .i64 s.2]) ∧ Kd.R (Kd.int .u8) 5 w' W.heap.size (fun _ => True) v' (if s.2 = 0 then s.1 else []) ∧ Below W.heap.size W w' := by
  obtain ⟨xs, f⟩ := s
  by_cases hf : f = 0
  · subst hf
    rw [if_pos rfl]
    exact wDone_is W base g v xs hw hl
  · rw [if_neg hf]
    exact (wDone_flt W base g v (xs, f) hf hw).mono fun e w' ⟨h1, h2⟩ => ⟨_, h1, Kd.R_nil _ _ _ _ _, h2⟩
end Go.Proofs.Ytceeoifbimlkdaa.B
