/- Proved: the contracts of the codec law's let, lay, marked and left: what they write lies in the row that they were handed. Conditions: bounds of the lengths. -/
import Derived.Test.YtceeoifbimlkdaaRowsMem
import Derived.Test.YtceeoifbimlkdaaHReader
namespace Go.Proofs.Ytceeoifbimlkdaa.B
open Go.RowKit Go.Proofs.YtceeoifbimlkdaaW.PrintWords Go.Proofs.YtceeoifbimlkdaaW.PrintLast Go.Proofs.YtceeoifbimlkdaaW.PrintMore

theorem grown_set {W wr : World} {row : Option Nat} (h : W.grownBy wr row) {p : Addr} (hp : row = some p.block) (u : Value) : W.grownBy (wr.setCell p u) row :=
  World.grownBy.trans h ⟨rfl, rfl, rfl, by simp, fun b _ hne => Below.heap_setCell wr p u b fun e => hne (by rw [hp, e])⟩
theorem grown_refl (W : World) (row : Option Nat) : W.grownBy W row := ⟨rfl, rfl, rfl, Nat.le_refl _, fun _ _ _ => rfl⟩
theorem grown_step {W wr w1 : World} {row row1 : Option Nat} (h : W.grownBy wr row) (h1 : wr.grownBy w1 row1) (hr : row1 = row ∨ ∃ b, row1 = some b ∧ W.heap.size ≤ b) : W.grownBy w1 row :=
  ⟨h1.os.trans h.os, h1.tape.trans h.tape, h1.output.trans h.output, Nat.le_trans h.size h1.size, fun b hb hne => (h1.block b (Nat.lt_of_lt_of_le hb h.size) (by
    rcases hr with rfl | ⟨b', rfl, hb'⟩
    · exact hne
    · intro e; have : b = b' := Option.some.inj e; omega)).trans (h.block b hb hne)⟩
theorem grown_drewN {W wr : World} {row : Option Nat} (h : W.grownBy wr row) (m : Nat) : W.grownBy (wr.drewN m) row := ⟨h.os, h.tape, h.output, h.size, h.block⟩
theorem grown_drew {W wr : World} {row : Option Nat} (h : W.grownBy wr row) : W.grownBy wr.drew row := ⟨h.os, h.tape, h.output, h.size, h.block⟩
theorem grown_of {W wr : World} (h : Below W.heap.size W wr) (row : Option Nat) : W.grownBy wr row := ⟨h.os, h.tape, h.output, h.size, fun b hb _ => h.block b hb⟩
/-- A row that has been filled so far: the walk's state in let's first loop. -/
theorem Own.drew {k : IntKind} {e base : Nat} {W : World} {s : Sl} {xs : List Int} (h : Own k e W base s xs) : Own k e W.drew base s xs := h
theorem Own.drewN {k : IntKind} {e base : Nat} {W : World} {s : Sl} {xs : List Int} (h : Own k e W base s xs) (m : Nat) : Own k e (W.drewN m) base s xs := h.below (pw_below_drewN (Below.refl _ _) m)
theorem add_blk (ad : Addr) (i : Nat) : (ad.add i).block = ad.block := by unfold Addr.add; split <;> rfl
theorem set_mid (l r : List Int) (x y : Int) : (l ++ x :: r).set l.length y = l ++ y :: r := by simp
theorem own_more {k : IntKind} {e base : Nat} {W : World} {t : Sl} {v : Value} {zs : List Int} {y : Int} (h : W.ownsRow base e 1 v (nums k zs ++ [Value.int k y]).length (nums k zs ++ [Value.int k y])) (hv : v = t.v) : Own k e W base t (zs ++ [y]) := by
  subst hv
  unfold Own
  have e1 : nums k zs ++ [Value.int k y] = nums k (zs ++ [y]) := by simp [nums]
  rw [e1, nums_length] at h
  exact h
theorem own_more_sl {k : IntKind} {e base : Nat} {W : World} {v : Value} {zs : List Int} {y : Int} (h : W.ownsRow base e 1 v (nums k zs ++ [Value.int k y]).length (nums k zs ++ [Value.int k y])) : ∃ t : Sl, v = t.v ∧ t.n = zs.length + 1 := by
  obtain ⟨A, c, rfl⟩ := own_slice h
  exact ⟨⟨A, _, c⟩, rfl, by simp [nums]⟩
theorem own_more_at {W wr : World} {v v1 : Value} {row : Option Nat} (hs : W.heap.size ≤ wr.heap.size) (h : v.ownBlock = row ∨ ∃ b, v.ownBlock = some b ∧ W.heap.size ≤ b) (h1 : v1.ownBlock = v.ownBlock ∨ ∃ b, v1.ownBlock = some b ∧ wr.heap.size ≤ b) : v1.ownBlock = row ∨ ∃ b, v1.ownBlock = some b ∧ W.heap.size ≤ b := by
  rcases h1 with h1 | ⟨b, h1, h2⟩
  · rw [h1]; exact h
  · exact .inr ⟨b, h1, Nat.le_trans hs h2⟩

set_option maxHeartbeats 4000000 in
set_option maxRecDepth 100000 in
theorem let_is (A : Option Addr) (n c base : Nat) (xs : List Int) (W : World) (h : Own .u8 5 W base ⟨A, n, c⟩ xs) (hl : xs.length ≤ 4398046511104) (hb : base ≤ W.heap.size) :
    Calls Try.prog 30 #[.slice A n c] W fun e w' => e = .returned (.int .i64 (xs.length + 80 : Nat)) ∧ W.grownBy w' (Value.slice A n c).ownBlock := by
  have hn : n = xs.length := h.len
  have HS := Aside0.mk h
  have HBS := Aside0.mk hb
  obtain ⟨N, hN⟩ : ∃ N, xs.length = N := ⟨_, rfl⟩
  rw [hN] at hn hl ⊢
  subst hn
  have HN := Aside0.mk hN
  clear h hb hN
  go_enter Try.func30, Try.ntmps30
  go_wp2
  go_loopw [3] (fun vi wr => ∃ (i : Nat) (ys : List Int), vi = .int .i64 (i : Nat) ∧ i ≤ n ∧ Aside0 (ys.length = n ∧ Own .u8 5 wr base ⟨A, n, c⟩ ys) ∧ Aside0 (W.grownBy wr (Value.slice A n c).ownBlock)) (fun vi _ => n - (intOf vi).toNat)
  case atStart => exact ⟨0, xs, rfl, Nat.zero_le _, ⟨HN.out, HS.out⟩, ⟨grown_refl _ _⟩⟩
  case round =>
    obtain ⟨i, ys, rfl, hi, HY, HG⟩ := hrel
    by_cases hlt : i < n
    · obtain ⟨g, hA, hob, _, _⟩ := HY.out.2.form (by have := HY.out.1; omega)
      have hA' : A = some ⟨g, 0, none⟩ := hA
      subst hA'
      obtain ⟨hc0, hc1⟩ := HY.out.2.cell rfl i (by have := HY.out.1; omega)
      have hii : (i : Int) < (n : Int) := by omega
      have HO2 := Aside0.mk (HY.out.2.put (g := g) rfl i 51)
      have HG2 := Aside0.mk (grown_set (p := ⟨g, i, none⟩) HG.out rfl (.int .u8 51))
      clear hA hob
      go_wp2
      go_roundw
      case rel => exact ⟨i + 1, ys.set i 51, by go_num, by omega, ⟨by rw [List.length_set]; exact HY.out.1, HO2.out⟩, HG2⟩
      case measure => simp [intOf]; omega
    · have hne : ¬ ((i : Int) < (n : Int)) := by omega
      clear hlt
      have HG1 := HG
      have HY1 := HY
      have HL := Aside0.mk hl
      clear hi HG HY hl
      go_wp2
      go_loopw [4, 5] (fun v4 v5 wr => ∃ (k : Nat) (t : Sl) (zs : List Int), v5 = .int .i64 (k : Nat) ∧ k ≤ 80 ∧ v4 = .slice t.A t.n t.c ∧ Aside0 (zs.length = n + k ∧ Own .u8 5 wr base t zs) ∧ Aside0 (W.grownBy wr (Value.slice A n c).ownBlock) ∧ Aside0 (t.v.ownBlock = (Value.slice A n c).ownBlock ∨ ∃ b, t.v.ownBlock = some b ∧ W.heap.size ≤ b)) (fun _ v5 _ => 80 - (intOf v5).toNat)
      case atStart => exact ⟨0, ⟨A, n, c⟩, ys, rfl, Nat.zero_le _, rfl, HY1, HG1, ⟨.inl rfl⟩⟩
      case round =>
        clear HG1 HY1
        obtain ⟨k, t, zs, rfl, hk, rfl, HZ, HG, HT⟩ := hrel
        by_cases hlt : k < 80
        · have hb1 := HG.out.size
          have hb2 := HBS.out
          have hsz : base ≤ wr.heap.size := by omega
          have hll : (zs.length + 1) * 1 ≤ 140737488355328 := by have := HZ.out.1; have := HL.out; omega
          have HLL := Aside0.mk hll
          have HSZ := Aside0.mk hsz
          clear hll hsz hb1 hb2
          go_wp2_with ((with_reducible refine gate_builtin (b := .append) (xs := #[.tmp 20, .tmp 21]) rfl ?_); at_builtin; refine print_append_both (w0 := wr) base rfl (.tmp 20) (.tmp 21) 37 5 (.int .u8 0) 1 rfl Try.underlying37 infoU8 rfl (by decide) (.slice t.A t.n t.c) (nums .u8 zs) (.int .u8 68) rfl rfl rfl ?aO ?aB ?aS ?aL ?_; (case aO => rw [nums_length]; exact HZ.out.2); (case aB => exact Below.refl _ _); (case aS => exact HSZ.out); (case aL => rw [nums_length]; exact HLL.out); intro v1 w1 ho _ hb hg hat; obtain ⟨⟨sA, sn, sc⟩, rfl, hsn⟩ := own_more_sl ho; have HN1 := Aside0.mk (own_more ho rfl); have HG1 := Aside0.mk (grown_step HG.out hg HT.out); have HT1 := Aside0.mk (own_more_at HG.out.size HT.out hat); clear ho hb hg hat hsn)
          go_roundw
          case rel => exact ⟨k + 1, ⟨sA, sn, sc⟩, zs ++ [68], by go_num, by omega, rfl, ⟨by rw [List.length_append, HZ.out.1]; rfl, HN1.out⟩, HG1, HT1⟩
          case measure => simp [intOf]; omega
        · have hne2 : ¬ ((k : Int) < 80) := by omega
          have HTN := Aside0.mk (show t.n = n + 80 by have h1 := HZ.out.2.len; have h2 := HZ.out.1; omega)
          clear hlt
          go_wp2
          go_ret
          exact ⟨by rw [HTN.out]; rfl, HG.out⟩

set_option maxHeartbeats 4000000 in
set_option maxRecDepth 100000 in
theorem lay_is (A : Option Addr) (n c base : Nat) (xs : List Int) (B : Option Addr) (m d : Nat) (ys : List Int) (W : World) (h : Own .u8 5 W base ⟨A, n, c⟩ xs) (hl : xs.length = ys.length) (hy : Kd.C (Kd.int .u8) W B m ys) (hm : ys.length ≤ 4398046511104) (hne : 0 < ys.length → ∀ b, (Value.slice A n c).ownBlock = some b → (Value.slice B m d).ownBlock ≠ some b) :
    Calls Try.prog 68 #[.slice A n c, .slice B m d] W fun e w' => e = .returned (.tuple #[]) ∧ Own .u8 5 w' base ⟨A, n, c⟩ ys ∧ W.grownBy w' (Value.slice A n c).ownBlock := by
  have hn : n = xs.length := h.len
  have hmm : ys.length = m := hy.1
  have HS := Aside0.mk h
  have HY := Aside0.mk hy
  have HNE := Aside0.mk hne
  subst hmm
  obtain ⟨N, hN⟩ : ∃ N, ys.length = N := ⟨_, rfl⟩
  rw [hN] at hl hm HY HNE ⊢
  rw [hl] at hn
  subst hn
  have HN := Aside0.mk hN
  have HXL := Aside0.mk hl
  clear h hy hne hN hl
  go_enter Try.func68, Try.ntmps68
  go_wp2
  go_loopw [4] (fun vi wr => ∃ (i : Nat), vi = .int .i64 (i : Nat) ∧ i ≤ n ∧ Aside0 (Own .u8 5 wr base ⟨A, n, c⟩ (ys.take i ++ xs.drop i)) ∧ Aside0 (W.grownBy wr (Value.slice A n c).ownBlock)) (fun vi _ => n - (intOf vi).toNat)
  case atStart => exact ⟨0, rfl, Nat.zero_le _, ⟨by simpa using HS.out⟩, ⟨grown_refl _ _⟩⟩
  case round =>
    obtain ⟨i, rfl, hi, HO, HG⟩ := hrel
    by_cases hlt : i < n
    · have hyl : i < ys.length := by have := HN.out; omega
      have hzl : (ys.take i ++ xs.drop i).length = n := by have := HN.out; have := HXL.out; simp; omega
      obtain ⟨g, hA, hob, _, _⟩ := HO.out.form (by omega)
      have hA' : A = some ⟨g, 0, none⟩ := hA
      subst hA'
      obtain ⟨hc0, hc1⟩ := HO.out.cell rfl i (by omega)
      obtain ⟨ad, eB, hx⟩ := Kd.at_int HY.out (i : Int) (by omega) (by omega)
      have hB : B = some ad := eB
      subst hB
      have hrd : rd ys (i : Int) = ys[i] := by unfold rd; rw [Int.toNat_natCast, List.getD_eq_getElem?_getD, List.getElem?_eq_getElem hyl]; rfl
      rw [Int.toNat_natCast, hrd] at hx
      have hx' := HG.out.cell hx (fun e => HNE.out (by omega) g rfl (by rw [add_blk] at e; exact e))
      have hii : (i : Int) < (n : Int) := by omega
      have HO2 := Aside0.mk (show Own .u8 5 (wr.setCell ⟨g, i, none⟩ (.int .u8 ys[i])) base ⟨some ⟨g, 0, none⟩, n, c⟩ (ys.take (i + 1) ++ xs.drop (i + 1)) by
        have h1 := HO.out.put (g := g) rfl i ys[i]
        have e : (ys.take i ++ xs.drop i).set i ys[i] = ys.take (i + 1) ++ xs.drop (i + 1) := by
          have hxl : i < xs.length := by have := HXL.out; omega
          rw [List.drop_eq_getElem_cons hxl, List.take_succ_eq_append_getElem hyl]
          have hkl : (ys.take i).length = i := by rw [List.length_take]; omega
          have h2 := set_mid (ys.take i) (xs.drop (i + 1)) xs[i] ys[i]
          rw [hkl] at h2
          rw [h2, List.append_assoc]
          rfl
        rw [e] at h1
        exact h1)
      have HG2 := Aside0.mk (grown_set (p := ⟨g, i, none⟩) HG.out rfl (.int .u8 ys[i]))
      clear hA hob hx hrd
      generalize ys[i] = y at *
      go_wp2
      go_roundw
      case rel => exact ⟨i + 1, by go_num, by omega, HO2, HG2⟩
      case measure => simp [intOf]; omega
    · have hge : i = n := by omega
      have HF := Aside0.mk (show Own .u8 5 wr base ⟨A, n, c⟩ ys by
        have := HO.out
        rw [List.take_of_length_le (by have := HN.out; omega), List.drop_eq_nil_iff.2 (by have := HXL.out; omega), List.append_nil] at this
        exact this)
      have hne : ¬ ((i : Int) < (n : Int)) := by omega
      clear hlt
      go_wp2
      go_end0
      exact ⟨rfl, HF.out, HG.out⟩

theorem cut_room {P : Program} (t e : TypeId) (kh : IntKind) {i : TypeInfo} (ht : P.underlying t = some (.slice e)) (hi : P.info? e = some i) (A : Option Addr) (n c : Nat) (j : Int) (h0 : 0 ≤ j) (hc : j ≤ c) :
    ∀ W : World, (Instr.slice t (.slice A n c) none (some (.int kh j)) none).run P W = .ok (.slice A j.toNat c) W := by
  intro W
  have hel : P.elem t = e := by simp [Program.elem, ht]
  have hu : P.underlying t = some (.slice (P.elem t)) := by rw [hel]; exact ht
  have ha : (A.map fun x => x.add 0) = A := by cases A <;> simp [Addr.add]
  rw [run_slice_h W t A n c hu kh j h0 hc, hel]
  simp [sizeOf, typeInfo, hi, sliced, Result.andThen, ha]
/-- What marked answers: the bytes, and 70 marks behind them in the same block. -/
structure Marked (W : World) (base : Nat) (v : Value) (xs : List Int) : Prop where
  row : ∃ g c, v = .slice (some ⟨g, 0, none⟩) xs.length c ∧ Own .u8 5 W base ⟨some ⟨g, 0, none⟩, xs.length + 70, c⟩ (xs ++ List.replicate 70 165)
set_option maxHeartbeats 4000000 in
set_option maxRecDepth 100000 in
theorem marked_is (A : Option Addr) (n c : Nat) (xs : List Int) (W : World) (h : Kd.C (Kd.int .u8) W A n xs) (hl : xs.length ≤ 4398046511104) :
    Calls Try.prog 23 #[.slice A n c] W fun e w' => ∃ v, e = .returned v ∧ Marked w' W.heap.size v xs ∧ Below W.heap.size W w' := by
  have hmm : xs.length = n := h.1
  have HX := Aside0.mk h
  subst hmm
  obtain ⟨N, hN⟩ : ∃ N, xs.length = N := ⟨_, rfl⟩
  rw [hN] at hl HX ⊢
  have HN := Aside0.mk hN
  have HL := Aside0.mk hl
  clear h hN hl
  go_enter Try.func23, Try.ntmps23
  go_wp2_with ((with_reducible refine gate_builtin (b := .append) (xs := #[.tmp 5, .tmp 6]) rfl ?_); at_builtin; refine Kd.R_append_rows (Kd.int .u8) (w0 := W) W.heap.size rfl (.tmp 5) (.tmp 6) 37 5 (.int .u8 0) 1 rfl Try.underlying37 infoU8 rfl (by decide) (by omega) (.slice none 0 0) ([] : List Int) xs _ _ _ (fun _ => True) (fun _ => False) rfl rfl ?aO ?aR (fun _ _ h => h) (fun _ h => h.elim) ?aF ?aB ?aS ?aL ?_; (case aR => exact HX.out); (case aB => exact Below.refl _ _); (case aF => exact (fun _ _ => trivial)); (case aO => exact (Kd.R_nil _ _ _ _ (fun _ => True))); (case aS => exact Nat.le_refl _); (case aL => have := HL.out; have := HN.out; simp; omega); intro v1 w1 ho hb hg hat; obtain ⟨t0, rfl, hown⟩ := Own.of_R ho; have HT0 := Aside0.mk hown; have HB0 := Aside0.mk hb; clear ho hb hg hat hown)
  have HX2 := HX
  clear HX
  go_loopw [3, 4] (fun v3 v4 wr => ∃ (k : Nat) (t : Sl), v4 = .int .i64 (k : Nat) ∧ k ≤ 70 ∧ v3 = .slice t.A t.n t.c ∧ Aside0 (Own .u8 5 wr W.heap.size t (xs ++ List.replicate k 165)) ∧ Aside0 (Below W.heap.size W wr)) (fun _ v4 _ => 70 - (intOf v4).toNat)
  case atStart => exact ⟨0, t0, rfl, Nat.zero_le _, rfl, ⟨by simpa using HT0.out⟩, HB0⟩
  case round =>
    clear HT0 HB0
    obtain ⟨k, t, rfl, hk, rfl, HO, HB⟩ := hrel
    by_cases hlt : k < 70
    · have HLL := Aside0.mk (show ((xs ++ List.replicate k 165).length + 1) * 1 ≤ 140737488355328 by have := HL.out; have := HN.out; simp; omega)
      go_wp2_with ((with_reducible refine gate_builtin (b := .append) (xs := #[.tmp 12, .tmp 13]) rfl ?_); at_builtin; refine print_append_both (w0 := W) W.heap.size rfl (.tmp 12) (.tmp 13) 37 5 (.int .u8 0) 1 rfl Try.underlying37 infoU8 rfl (by decide) (.slice t.A t.n t.c) (nums .u8 (xs ++ List.replicate k 165)) (.int .u8 165) rfl rfl rfl ?aO ?aB ?aS ?aL ?_; (case aO => rw [nums_length]; exact HO.out); (case aB => exact HB.out); (case aS => exact HB.out.size); (case aL => rw [nums_length]; exact HLL.out); intro v1 w1 ho _ hb hg hat; obtain ⟨t1, rfl, hsn⟩ := own_more_sl ho; have HO1 := Aside0.mk (own_more ho rfl); have HB1 := Aside0.mk hb; clear ho hb hg hat hsn)
      go_roundw
      case rel => exact ⟨k + 1, t1, by go_num, by omega, rfl, ⟨by have := HO1.out; rw [List.append_assoc, ← List.replicate_succ'] at this; exact this⟩, HB1⟩
      case measure => simp [intOf]; omega
    · have hne2 : ¬ ((k : Int) < 70) := by omega
      have hk70 : k = 70 := by omega
      have HO' := Aside0.mk (show Own .u8 5 wr W.heap.size t (xs ++ List.replicate 70 165) by rw [← hk70]; exact HO.out)
      obtain ⟨g, hA, -, -, -⟩ := HO'.out.form (by simp)
      have hroom := HO'.out.room
      have htn := HO'.out.len
      have htl : t.n = N + 70 := by rw [htn, ← HN.out]; simp
      obtain ⟨i0, hi0, _, hsz, _⟩ := info_parts infoU8
      have hcut := cut_room (P := Try.prog) 37 5 .i64 Try.underlying37 hi0 t.A t.n t.c (N : Int) (by omega) (by omega)
      rw [Int.toNat_natCast, htl] at hcut
      have HA := Aside0.mk hA
      clear hlt hi0 hsz hroom htn hA hk hk70
      go_wp2
      go_ret
      refine ⟨_, rfl, ⟨g, t.c, by rw [HA.out, HN.out]; rfl, ?_⟩, HB.out⟩
      have h1 := HO'.out
      have e : t = ⟨some ⟨g, 0, none⟩, xs.length + 70, t.c⟩ := by
        obtain ⟨tA, tn, tc⟩ := t
        have := HA.out
        simp only at this htl ⊢
        rw [this, htl, HN.out]
      rw [e] at h1
      exact h1

theorem below_drawn {W w1 : World} (h : Drawn0 W w1) : Below W.heap.size W w1 := h.below
theorem same_eq (l : List Int) (hl : l.length ≤ 281474976710656) (k : Nat) (hk : l.length < k) : bulkheadlaw02_same.f k l l = some true := by
  have key : ∀ (d i k : Nat), i + d = l.length → d < k → bulkheadlaw02_same.l0 k l l (i : Int) = some true := by
    intro d
    induction d with
    | zero =>
      intro i k hi hk
      obtain ⟨k, rfl⟩ : ∃ m, k = m + 1 := ⟨k - 1, by omega⟩
      simp only [bulkheadlaw02_same.l0]
      rw [if_neg (by omega)]
    | succ d ih =>
      intro i k hi hk
      obtain ⟨k, rfl⟩ : ∃ m, k = m + 1 := ⟨k - 1, by omega⟩
      simp only [bulkheadlaw02_same.l0]
      rw [if_pos (by omega), if_pos (by omega), if_pos (by omega), if_pos trivial, show wrap64 ((i : Int) + 1) = ((i + 1 : Nat) : Int) by unfold wrap64; omega]
      exact ih (i + 1) k (by omega) (by omega)
  have h0 := key l.length 0 k (by omega) hk
  unfold bulkheadlaw02_same.f
  rw [if_pos rfl]
  exact h0
/-- same, of two rows that read alike. -/
theorem same_yes (A : Option Addr) (n c : Nat) (B : Option Addr) (m d : Nat) (xs : List Int) (W : World) (h1 : Kd.C (Kd.int .u8) W A n xs) (hc1 : n ≤ c) (h2 : Kd.C (Kd.int .u8) W B m xs) (hc2 : m ≤ d) (hl : xs.length ≤ 281474976710656) :
    Calls Try.prog 28 #[.slice A n c, .slice B m d] W fun e w' => e = .returned (.bool true) ∧ Drawn0 W w' := by
  have e1 : xs.length = n := h1.1
  have e2 : xs.length = m := h2.1
  subst e1
  subst e2
  exact bulkheadlaw02_same.calls (xs.length + 1) A c xs B d xs true W h1 hc1 h2 hc2 (same_eq xs hl _ (Nat.lt_succ_self _))
theorem take_reads {k : IntKind} {e base : Nat} {W : World} {g m c : Nat} {xs ys : List Int} (h : Own k e W base ⟨some ⟨g, 0, none⟩, m, c⟩ (xs ++ ys)) : Kd.C (Kd.int k) W (some ⟨g, 0, none⟩) xs.length xs := by
  have h1 := Kd.C_take h.reads (m := xs.length) (by simp)
  rw [List.take_left' rfl] at h1
  exact h1
set_option maxHeartbeats 4000000 in
set_option maxRecDepth 100000 in
theorem left_is (v : Value) (xs : List Int) (base : Nat) (B : Option Addr) (m d : Nat) (W : World) (h : Marked W base v xs) (hy : Kd.C (Kd.int .u8) W B m xs) (hd : m ≤ d) (hl : xs.length ≤ 4398046511104) :
    Calls Try.prog 29 #[v, .slice B m d] W fun e w' => e = .returned (.bool true) ∧ W.grownBy w' v.ownBlock := by
  obtain ⟨g, c, rfl, ho⟩ := h.row
  have hroom := ho.room
  have HO := Aside0.mk ho
  have hm : xs.length = m := hy.1
  subst hm
  have HS := Aside0.mk (same_yes (some ⟨g, 0, none⟩) xs.length c B xs.length d xs W (take_reads ho) (by simp only at hroom; omega) hy hd (by omega))
  obtain ⟨N, hN⟩ : ∃ N, xs.length = N := ⟨_, rfl⟩
  rw [hN] at HS hl hroom ⊢
  rw [hN] at HO
  have HN := Aside0.mk hN
  have HL := Aside0.mk hl
  obtain ⟨i0, hi0, _, hsz, _⟩ := info_parts infoU8
  have hcut := cut_room (P := Try.prog) 37 5 .i64 Try.underlying37 hi0 (some ⟨g, 0, none⟩) N c ((N : Int) + 70) (by omega) (by simp only at hroom; omega)
  rw [show ((N : Int) + 70).toNat = N + 70 by omega] at hcut
  clear h ho hy hd hN hi0 hsz hroom
  go_enter Try.func29, Try.ntmps29
  go_wp2_with (go_at_call 28; refine HS.out.mono ?_; rintro e w1 ⟨rfl, hd1⟩; have HO1 := Aside0.mk (HO.out.below hd1.below); have HG1 := Aside0.mk (grown_of hd1.below (some g)); clear hd1)
  clear hcut
  go_loopw [6, 7] (fun v6 v7 wr => ∃ (i : Nat), v6 = .bool true ∧ v7 = .int .i64 (i : Nat) ∧ N ≤ i ∧ i ≤ N + 70 ∧ Aside0 (Own .u8 5 wr base ⟨some ⟨g, 0, none⟩, N + 70, c⟩ (xs ++ List.replicate 70 165)) ∧ Aside0 (W.grownBy wr (some g))) (fun _ vi _ => N + 70 - (intOf vi).toNat)
  case atStart => exact ⟨N, rfl, rfl, Nat.le_refl _, by omega, HO1, HG1⟩
  case round =>
    clear HO1 HG1 HS HO
    obtain ⟨i, rfl, rfl, hi1, hi2, HO, HG⟩ := hrel
    by_cases hlt : i < N + 70
    · have hil : i < (xs ++ List.replicate 70 165).length := by have := HN.out; simp; omega
      obtain ⟨hc0, -⟩ := HO.out.cell rfl i hil
      rw [List.getElem_append_right (by have := HN.out; omega), List.getElem_replicate] at hc0
      have hii : (i : Int) < (N : Int) + 70 := by omega
      clear hil
      go_wp2
      go_roundw
      case rel => exact ⟨i + 1, rfl, by go_num, by omega, by omega, HO, HG⟩
      case measure => simp [intOf]; omega
    · have hne : ¬ ((i : Int) < (N : Int) + 70) := by omega
      clear hlt hi1 hi2
      go_wp2
      have HO2 := HO
      have HG2 := HG
      clear HO HG
      go_loopw [8] (fun v8 wr => ∃ (i : Nat) (ys : List Int), v8 = .int .i64 (i : Nat) ∧ i ≤ N + 70 ∧ Aside0 (ys.length = N + 70 ∧ Own .u8 5 wr base ⟨some ⟨g, 0, none⟩, N + 70, c⟩ ys) ∧ Aside0 (W.grownBy wr (some g))) (fun vi _ => N + 70 - (intOf vi).toNat)
      case atStart => exact ⟨0, _, rfl, Nat.zero_le _, ⟨by have := HN.out; simp; omega, HO2.out⟩, HG2⟩
      case round =>
        clear HO2 HG2 hne
        obtain ⟨j, ys, rfl, hj, HY, HG⟩ := hrel
        by_cases hlt : j < N + 70
        · obtain ⟨hc0, hc1⟩ := HY.out.2.cell rfl j (by have := HY.out.1; omega)
          have HO3 := Aside0.mk (HY.out.2.put (g := g) rfl j 90)
          have HG3 := Aside0.mk (grown_set (p := ⟨g, j, none⟩) HG.out rfl (.int .u8 90))
          have hii : (j : Int) < (N : Int) + 70 := by omega
          go_wp2
          go_roundw
          case rel => exact ⟨j + 1, ys.set j 90, by go_num, by omega, ⟨by rw [List.length_set]; exact HY.out.1, HO3.out⟩, HG3⟩
          case measure => simp [intOf]; omega
        · have hne : ¬ ((j : Int) < (N : Int) + 70) := by omega
          clear hlt
          go_wp2
          go_ret
          exact ⟨rfl, HG.out⟩
end Go.Proofs.Ytceeoifbimlkdaa.B
