/- Proved: the contracts of the codec law's lent and stood: numbers in new memory with a mark behind them, and that these stand; what is written lies in the row that was lent. Conditions: bounds of the lengths. -/
import Derived.Test.YtceeoifbimlkdaaHOut
import Derived.Test.YtceeoifbimlkdaaCx4
namespace Go.Proofs.Ytceeoifbimlkdaa.B
open Go.RowKit Go.Proofs.YtceeoifbimlkdaaW.PrintWords Go.Proofs.YtceeoifbimlkdaaW.PrintLast Go.Proofs.YtceeoifbimlkdaaW.PrintMore

theorem infoInt : (Try.prog.info? 3).map (fun i => (i.zero, i.size, i.bytes)) = some (some (.int .i64 0), 1, 8) := by kernel_rfl
theorem own_more_i {e base : Nat} {W : World} {v : Value} {zs : List Int} {y : Int} (h : W.ownsRow base e 1 v (nums .i64 zs ++ [Value.int .i64 y]).length (nums .i64 zs ++ [Value.int .i64 y])) : ∃ t : Sl, v = t.v ∧ t.n = zs.length + 1 ∧ Own .i64 e W base t (zs ++ [y]) := by
  obtain ⟨t, rfl, hn⟩ := own_more_sl h
  exact ⟨t, rfl, hn, own_more h rfl⟩
/-- What lent answers: the numbers, and a mark behind them in the same block. -/
structure Lent (W : World) (base : Nat) (v : Value) (xs : List Int) : Prop where
  row : ∃ g c, v = .slice (some ⟨g, 0, none⟩) xs.length c ∧ Own .i64 3 W base ⟨some ⟨g, 0, none⟩, xs.length + 1, c⟩ (xs ++ [-77])
set_option maxHeartbeats 4000000 in
set_option maxRecDepth 100000 in
theorem lent_is (A : Option Addr) (n c : Nat) (xs : List Int) (W : World) (h : Kd.C (Kd.int .i64) W A n xs) (hl : xs.length ≤ 4398046511104) :
    Calls Try.prog 83 #[.slice A n c] W fun e w' => ∃ v, e = .returned v ∧ Lent w' W.heap.size v xs ∧ Below W.heap.size W w' := by
  have hmm : xs.length = n := h.1
  have HX := Aside0.mk h
  subst hmm
  obtain ⟨N, hN⟩ : ∃ N, xs.length = N := ⟨_, rfl⟩
  rw [hN] at hl HX ⊢
  have HN := Aside0.mk hN
  have HL := Aside0.mk hl
  have HLL := Aside0.mk (show (xs.length + 1) * 8 ≤ 140737488355328 by omega)
  clear h hN hl
  go_enter Try.func83, Try.ntmps83
  go_wp2_with (first
    | ((with_reducible refine gate_builtin (b := .append) (xs := #[.tmp 4, .tmp 5]) rfl ?_); at_builtin; refine Kd.R_append_rows (Kd.int .i64) (w0 := W) W.heap.size rfl (.tmp 4) (.tmp 5) 56 3 (.int .i64 0) 8 rfl Try.underlying56 infoInt rfl (by decide) (by omega) (.slice none 0 0) ([] : List Int) xs _ _ _ (fun _ => True) (fun _ => False) rfl rfl ?aO ?aR (fun _ _ h => h) (fun _ h => h.elim) ?aF ?aB ?aS ?aL ?_; (case aR => exact HX.out); (case aB => exact Below.refl _ _); (case aF => exact (fun _ _ => trivial)); (case aO => exact (Kd.R_nil _ _ _ _ (fun _ => True))); (case aS => exact Nat.le_refl _); (case aL => have := HL.out; have := HN.out; simp; omega); intro v1 w1 ho hb hg hat; obtain ⟨t0, rfl, hown⟩ := Own.of_R ho; have HT0 := Aside0.mk hown; have HB0 := Aside0.mk hb; clear ho hb hg hat hown)
    | ((with_reducible refine gate_builtin (b := .append) (xs := #[.tmp 7, .tmp 8]) rfl ?_); at_builtin; refine print_append_both (w0 := W) W.heap.size rfl (.tmp 7) (.tmp 8) 56 3 (.int .i64 0) 8 rfl Try.underlying56 infoInt rfl (by decide) (.slice t0.A t0.n t0.c) (nums .i64 ([] ++ xs)) (.int .i64 (-77)) rfl rfl rfl ?aO ?aB ?aS ?aL ?_; (case aO => rw [nums_length]; exact HT0.out); (case aB => exact HB0.out); (case aS => exact HB0.out.size); (case aL => rw [nums_length]; exact HLL.out); intro v1 w1 ho _ hb hg hat; obtain ⟨t1, rfl, hsn, hown⟩ := own_more_i ho; have HO1 := Aside0.mk hown; have HB1 := Aside0.mk hb; clear ho hb hg hat hsn hown; have HH := Aside0.mk (show True ∧ True from ⟨trivial, trivial⟩); obtain ⟨g, hA, -, -, -⟩ := HO1.out.form (by simp); have hroom := HO1.out.room; have htn := HO1.out.len; have htl : t1.n = N + 1 := (by rw [htn, ← HN.out]; simp); obtain ⟨i0, hi0, _, hsz, _⟩ := info_parts infoInt; have hcut := cut_room (P := Try.prog) 56 3 .i64 Try.underlying56 hi0 t1.A t1.n t1.c (N : Int) (by omega) (by omega); rw [Int.toNat_natCast] at hcut; change ∀ W : World, (Instr.slice 56 t1.v none (some (.int .i64 (N : Int))) none).run Try.prog W = .ok (.slice t1.A N t1.c) W at hcut; have HA := Aside0.mk hA; have HTL := Aside0.mk htl; clear hi0 hsz hroom htn hA htl))
  go_ret
  refine ⟨_, rfl, ⟨g, t1.c, by rw [HA.out, HN.out]; rfl, ?_⟩, HB1.out⟩
  have h1 := HO1.out
  have e : t1 = ⟨some ⟨g, 0, none⟩, xs.length + 1, t1.c⟩ := by
    have h2 := HA.out
    have h3 := HTL.out
    rw [← HN.out] at h3
    revert h2 h3
    obtain ⟨tA, tn, tc⟩ := t1
    intro h2 h3
    simp only at h2 h3 ⊢
    rw [h2, h3]
  rw [e] at h1
  exact h1
theorem sameInts_eq (l : List Int) (hl : l.length ≤ 281474976710656) (k : Nat) (hk : l.length < k) : bulkheadlaw02_sameInts.f k l l = some true := by
  have key : ∀ (d i k : Nat), i + d = l.length → d < k → bulkheadlaw02_sameInts.l0 k l l (i : Int) = some true := by
    intro d
    induction d with
    | zero =>
      intro i k hi hk
      obtain ⟨k, rfl⟩ : ∃ m, k = m + 1 := ⟨k - 1, by omega⟩
      simp only [bulkheadlaw02_sameInts.l0]
      rw [if_neg (by omega)]
    | succ d ih =>
      intro i k hi hk
      obtain ⟨k, rfl⟩ : ∃ m, k = m + 1 := ⟨k - 1, by omega⟩
      simp only [bulkheadlaw02_sameInts.l0]
      rw [if_pos (by omega), if_pos (by omega), if_pos (by omega), if_pos trivial, show wrap64 ((i : Int) + 1) = ((i + 1 : Nat) : Int) by unfold wrap64; omega]
      exact ih (i + 1) k (by omega) (by omega)
  have h0 := key l.length 0 k (by omega) hk
  unfold bulkheadlaw02_sameInts.f
  rw [if_pos rfl]
  exact h0
/-- sameInts, of two rows that read alike. -/
theorem sameInts_yes (A : Option Addr) (n c : Nat) (B : Option Addr) (m d : Nat) (xs : List Int) (W : World) (h1 : Kd.C (Kd.int .i64) W A n xs) (hc1 : n ≤ c) (h2 : Kd.C (Kd.int .i64) W B m xs) (hc2 : m ≤ d) (hl : xs.length ≤ 281474976710656) :
    Calls Try.prog 98 #[.slice A n c, .slice B m d] W fun e w' => e = .returned (.bool true) ∧ Drawn0 W w' := by
  have e1 : xs.length = n := h1.1
  have e2 : xs.length = m := h2.1
  subst e1
  subst e2
  exact bulkheadlaw02_sameInts.calls (xs.length + 1) A c xs B d xs true W h1 hc1 h2 hc2 (sameInts_eq xs hl _ (Nat.lt_succ_self _))
set_option maxHeartbeats 4000000 in
set_option maxRecDepth 100000 in
theorem stood_is (v : Value) (xs : List Int) (base : Nat) (B : Option Addr) (m d : Nat) (W : World) (h : Lent W base v xs) (hy : Kd.C (Kd.int .i64) W B m xs) (hd : m ≤ d) (hl : xs.length ≤ 4398046511104) :
    Calls Try.prog 86 #[v, .slice B m d] W fun e w' => e = .returned (.bool true) ∧ W.grownBy w' v.ownBlock := by
  obtain ⟨g, c, rfl, ho⟩ := h.row
  have hroom := ho.room
  have HO := Aside0.mk ho
  have hm : xs.length = m := hy.1
  subst hm
  have HS := Aside0.mk (sameInts_yes (some ⟨g, 0, none⟩) xs.length c B xs.length d xs W (take_reads ho) (by simp only at hroom; omega) hy hd (by omega))
  obtain ⟨N, hN⟩ : ∃ N, xs.length = N := ⟨_, rfl⟩
  rw [hN] at HS hl hroom ⊢
  rw [hN] at HO
  have HN := Aside0.mk hN
  have HL := Aside0.mk hl
  obtain ⟨i0, hi0, _, hsz, _⟩ := info_parts infoInt
  have hcut := cut_room (P := Try.prog) 56 3 .i64 Try.underlying56 hi0 (some ⟨g, 0, none⟩) N c ((N : Int) + 1) (by omega) (by simp only at hroom; omega)
  rw [show ((N : Int) + 1).toNat = N + 1 by omega] at hcut
  clear h ho hy hd hN hi0 hsz hroom
  go_enter Try.func86, Try.ntmps86
  go_wp2_with (go_at_call 98; refine HS.out.mono ?_; rintro e w1 ⟨rfl, hd1⟩; have HO1 := Aside0.mk (HO.out.below hd1.below); have HG1 := Aside0.mk (grown_of hd1.below (some g)); clear hd1; obtain ⟨hc0, -⟩ := HO1.out.cell rfl N (by have := HN.out; simp; omega); rw [List.getElem_append_right (by have := HN.out; omega), List.getElem_singleton] at hc0)
  clear hcut
  go_loopw [7] (fun v8 wr => ∃ (i : Nat) (ys : List Int), v8 = .int .i64 (i : Nat) ∧ i ≤ N + 1 ∧ Aside0 (ys.length = N + 1 ∧ Own .i64 3 wr base ⟨some ⟨g, 0, none⟩, N + 1, c⟩ ys) ∧ Aside0 (W.grownBy wr (some g))) (fun vi _ => N + 1 - (intOf vi).toNat)
  case atStart => exact ⟨0, _, rfl, Nat.zero_le _, ⟨by have := HN.out; simp; omega, HO1.out⟩, HG1⟩
  case round =>
    clear HO1 HG1 HS HO
    obtain ⟨j, ys, rfl, hj, HY, HG⟩ := hrel
    by_cases hlt : j < N + 1
    · obtain ⟨hc0, hc1⟩ := HY.out.2.cell rfl j (by have := HY.out.1; omega)
      have HO3 := Aside0.mk (HY.out.2.put (g := g) rfl j (-78))
      have HG3 := Aside0.mk (grown_set (p := ⟨g, j, none⟩) HG.out rfl (.int .i64 (-78)))
      have hii : (j : Int) < (N : Int) + 1 := by omega
      go_wp2
      go_roundw
      case rel => exact ⟨j + 1, ys.set j (-78), by go_num, by omega, ⟨by rw [List.length_set]; exact HY.out.1, HO3.out⟩, HG3⟩
      case measure => simp [intOf]; omega
    · have hne : ¬ ((j : Int) < (N : Int) + 1) := by omega
      clear hlt
      go_wp2
      go_ret
      exact ⟨rfl, HG.out⟩
end Go.Proofs.Ytceeoifbimlkdaa.B
