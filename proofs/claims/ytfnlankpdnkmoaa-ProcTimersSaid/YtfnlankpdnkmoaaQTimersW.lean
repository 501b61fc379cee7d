/- Proved: the walk of the law ProcTimers: it answers true. No conditions. -/
import Derived.Test.YtfnlankpdnkmoaaQKnown
import Derived.Deep.DeepCutAuto
namespace Go.Proofs.Ytfnlankpdnkmoaa.B
open Go.RowKit Go.Proofs.YtfnlankpdnkmoaaW.PrintWords Go.Proofs.YtfnlankpdnkmoaaW.PrintLast Go.Proofs.YtfnlankpdnkmoaaW.PrintMore

theorem wrap64_in (n : Int) (h : -9223372036854775808 ≤ n ∧ n ≤ 9223372036854775807) : wrap64 n = n := by unfold wrap64; omega
instance (t : Int) : Decidable (tickP t) := by unfold tickP; infer_instance
def pdT : PD := ⟨0, 0, 0, 0, 0, false⟩
def psA : PS := ⟨1, 0, 1, [0, 9, 9, 9, 0, 0, 0, 0, 0, 0, 0, 0, 0, 0, 0, 0], 0, 0, -1, -1, false, 0, 0, ⟨none, 0, 0⟩, [], 0⟩
theorem psA_is : ({ ((PS.dormant 0).started pdT 0 9 9 9).enter 1 with pl := 1 } : PS) = psA := by kernel_rfl
def psB (st un : Int) (s : Sl) : PS := ⟨st, 0, 2, [0, 9, 9, 9, 0, 0, 0, 0, 0, 0, 0, 0, 0, 0, 0, 0], 0, 0, -1, un, false, 4, 5, s, [6], 0⟩
theorem psB_is (st un : Int) (s : Sl) : ({ psA.waits st un 4 5 s [6] with pl := 2 } : PS) = psB st un s := rfl
def psC (r : Int) : PS := ⟨1, 0, 3, [r, 9, 9, 9, 0, 0, 0, 0, 0, 0, 0, 0, 0, 0, 0, 0], 0, 0, -1, -1, false, 0, 0, ⟨none, 0, 0⟩, [], 0⟩
theorem psC_enc (r : Int) (A : Option Addr) (c : Nat) : ({ psC r with dat := ⟨A, 0, c⟩ } : PS).enc.toArray = #[.int .i64 1, .int .i64 0, .int .i64 3, .int .i64 r, .int .i64 9, .int .i64 9, .int .i64 9, .int .i64 0, .int .i64 0, .int .i64 0, .int .i64 0, .int .i64 0, .int .i64 0, .int .i64 0, .int .i64 0, .int .i64 0, .int .i64 0, .int .i64 0, .int .i64 0, .int .i64 0, .int .i64 0, .int .i64 (-1), .int .i64 (-1), .bool false, .int .i64 0, .int .i64 0, .slice A 0 c, .int .i64 0] := rfl
theorem psC_get {W : World} {base g : Nat} {r pl : Int} {p : PD} (h : One W base g (psC r) p pl) : Calls Try.prog 16 #[.pointer (some ⟨g, 0, none⟩), .int .i64 1] W fun e w' => ∃ A c, e = .returned (.tuple #[.agg #[.int .i64 1, .int .i64 0, .int .i64 3, .int .i64 r, .int .i64 9, .int .i64 9, .int .i64 9, .int .i64 0, .int .i64 0, .int .i64 0, .int .i64 0, .int .i64 0, .int .i64 0, .int .i64 0, .int .i64 0, .int .i64 0, .int .i64 0, .int .i64 0, .int .i64 0, .int .i64 0, .int .i64 0, .int .i64 (-1), .int .i64 (-1), .bool false, .int .i64 0, .int .i64 0, .slice A 0 c, .int .i64 0], .bool true]) ∧ Below W.heap.size W w' := by
  refine (one_get h (show 0 < 17592186044416 from by decide)).mono fun e w' hq => ?_
  obtain ⟨⟨A, n, c⟩, h1, h2, h3⟩ := hq
  have hn : n = 0 := h2
  subst hn
  exact ⟨A, c, by rw [h1, psC_enc], h3⟩
theorem psC_woken (st un r : Int) (s : Sl) : ({ ((psB st un s).woken r).enter 1 with pl := 3 } : PS) = psC r := rfl
theorem psC_fired (st un : Int) (s : Sl) (now : Int) : (psB st un s).fired pdT 3 3 now = psC (if st = 2 then 0 else 4) := rfl
theorem due1 (st un : Int) (s : Sl) : dueX (psB st un s) pdT 1 = -1 := by
  unfold dueX psB
  split
  · rfl
  · rfl
theorem due2 (st un : Int) (s : Sl) (h : st ≠ 3) : dueX (psB st un s) pdT 2 = -1 := by
  unfold dueX
  split
  · rfl
  · rw [if_neg (by decide), if_pos rfl]
    unfold relTick psB pdT
    rw [if_neg h, if_pos (.inl rfl)]
theorem due3 (st un : Int) (s : Sl) (h : waitsP st) : dueX (psB st un s) pdT 3 = un := by
  unfold waitsP at h
  unfold dueX psB
  rw [if_neg (by dsimp only; omega), if_neg (by decide), if_neg (by decide)]
  unfold wakeTk
  rw [if_neg (by dsimp only; omega)]
theorem no_tick (now : Int) : decide (now ≠ -1 ∧ (-1 : Int) = now) = false := by
  rw [decide_eq_false_iff_not]
  omega
theorem nxt1_none (now next : Int) : nxt1 now next (-1) = next := if_neg fun h => h.2.1 rfl
theorem nxt1_first (now un : Int) : nxt1 now (-1) un = if now < un ∧ un ≠ -1 then un else -1 := by
  unfold nxt1
  by_cases h : now < un ∧ un ≠ -1
  · rw [if_pos h, if_pos ⟨h.1, h.2, .inl rfl⟩]
  · rw [if_neg h, if_neg fun h2 => h ⟨h2.1, h2.2.1⟩]
theorem next_B (now st un : Int) (s : Sl) (h : waitsP st) : nxtK now (psB st un s) pdT (-1) 3 = if now < un ∧ un ≠ -1 then un else -1 := by
  have h3 : st ≠ 3 := by unfold waitsP at h; omega
  have e1 : dueX (psB st un s) pdT (((0 : Nat) : Int) + 1) = -1 := due1 st un s
  have e2 : dueX (psB st un s) pdT (((1 : Nat) : Int) + 1) = -1 := due2 st un s h3
  have e3 : dueX (psB st un s) pdT (((2 : Nat) : Int) + 1) = un := due3 st un s h
  simp only [nxtK, e1, e2, e3, nxt1_none, nxt1_first]
theorem next_C (now r : Int) : nxtK now (psC r) pdT (-1) 3 = -1 := by
  have e1 : dueX (psC r) pdT (((0 : Nat) : Int) + 1) = -1 := rfl
  have e2 : dueX (psC r) pdT (((1 : Nat) : Int) + 1) = -1 := rfl
  have e3 : dueX (psC r) pdT (((2 : Nat) : Int) + 1) = -1 := rfl
  simp only [nxtK, e1, e2, e3, nxt1_none]
theorem One.lt {W : World} {base g : Nat} {x : PS} {p : PD} {pl : Int} (h : One W base g x p pl) : base ≤ g ∧ g < W.heap.size := by
  obtain ⟨T, q, h⟩ := h
  exact ⟨h.at_.tab.low, blk_lt h.at_.tab.blk⟩
theorem own_one (W : World) (base : Nat) (x : Int) (h : base ≤ W.heap.size) : Own .i64 2 (W.alloc (.cells #[.int .i64 x] 2)) base ⟨some ⟨W.heap.size, 0, none⟩, 1, 1⟩ [x] :=
  ⟨rfl, .inr ⟨W.heap.size, 1, _, rfl, h, heap_alloc_new _ _, Nat.le_refl _, by decide, rfl, rfl⟩⟩
set_option maxHeartbeats 16000000 in
set_option maxRecDepth 100000 in
theorem timersW (st un now result : Int) (woken : Bool) (W : World) : Calls Try.prog 3 #[.int .i64 st, .int .i64 un, .int .i64 now, .int .i64 result, .bool woken] W fun e w' => e = .returned (.bool true) ∧ Below W.heap.size W w' := by
  have hu25 := Try.underlying25
  have hu28 := Try.underlying28
  have hu38 := Try.underlying38
  have hu41 := Try.underlying41
  have hu48 := Try.underlying48
  have hu46 := Try.underlying46
  go_enter Try.func3, Try.ntmps3
  go_upto_region 4 with (first
    | (go_at_call 8; generalize hW2 : World.alloc (World.alloc W _) _ = W2; have hY := heap_alloc_new (W.alloc (.cells #[.int .u8 0, .int .u8 0, .int .u8 0, .int .u8 0, .int .i32 0] 25)) (.cells #[.int .i64 0, .int .i64 0, .int .i64 0, .int .i64 0, .int .i64 0, .bool false] 28); rw [World.size_alloc] at hY; rw [hW2] at hY; have hB2 : Below W.heap.size W W2 := (by rw [← hW2]; exact ((Below.refl _ _).alloc (Nat.le_refl _) _).alloc (by simp) _); refine (one_new pdT _ _ _ (W.heap.size + 1) hY).mono ?_; rintro e w3 ⟨g, rfl, ho, hb⟩; have HO := Aside0.mk ho; have HB := Aside0.mk (hB2.trans (hb.mono hB2.size)); have HL := Aside0.mk hB2.size; clear hY hB2 hW2 ho hb)
    | (go_at_call 9; refine (known_is _).mono ?_; rintro e w4 ⟨rfl, hb⟩; have HO4 := Aside0.mk (HO.out.below hb); have HB4 := Aside0.mk (HB.out.trans (hb.mono HB.out.size)); clear hb)
    | (go_at_call 10; have hst := one_start HO4.out 0 9 9 9 rfl (by decide) (by decide); rw [psA_is] at hst; refine hst.mono ?_; clear hst; rintro e w5 ⟨rfl, ho, hb⟩; have HO5 : Aside0 (One w5 W2.heap.size g psA pdT 2) := ⟨ho⟩; have HB5 := Aside0.mk (HB4.out.trans (hb.mono HL.out)); clear ho hb))
  clear HO HB HO4 HB4
  obtain ⟨G, hG⟩ : ∃ G, decide (waitsP st) = G := ⟨_, rfl⟩
  obtain ⟨U, hU⟩ : ∃ U, decide (tickP un) = U := ⟨_, rfl⟩
  have HG := Aside0.mk hG
  have HU := Aside0.mk hU
  clear hG hU
  go_cut [12] (fun v12 w' => v12 = .bool G ∧ w' = w5)
  case first => as_aux_lemma =>
    by_cases h2 : st = 2
    · have ev := HG.out
      rw [decide_eq_true (show waitsP st from .inl h2)] at ev
      subst ev
      subst h2
      go_wp2
      go_meet
      exact ⟨rfl, rfl⟩
    · have q2 : (st == 2) = false := by rw [beq_eq_false_iff_ne]; exact h2
      by_cases h4 : 4 ≤ st
      · by_cases h9 : st ≤ 9
        · have ev := HG.out
          rw [decide_eq_true (show waitsP st from .inr ⟨h4, h9⟩)] at ev
          subst ev
          go_wp2
          go_meet
          exact ⟨rfl, rfl⟩
        · have ev := HG.out
          rw [decide_eq_false (show ¬ waitsP st by unfold waitsP; omega)] at ev
          subst ev
          go_wp2
          go_meet
          exact ⟨rfl, rfl⟩
      · have ev := HG.out
        rw [decide_eq_false (show ¬ waitsP st by unfold waitsP; omega)] at ev
        subst ev
        go_wp2
        go_meet
        exact ⟨rfl, rfl⟩
  case rest => as_aux_lemma =>
    obtain ⟨rfl, rfl⟩ := hcut
    go_upto_region 5 with (fail)
    go_cut [13] (fun v13 w' => v13 = .bool U ∧ w' = wc)
    case first => as_aux_lemma =>
      by_cases h2 : un = -1
      · have ev := HU.out
        rw [decide_eq_true (show tickP un from .inl h2)] at ev
        subst ev
        subst h2
        go_wp2
        go_meet
        exact ⟨rfl, rfl⟩
      · have q2 : (un == -1) = false := by rw [beq_eq_false_iff_ne]; exact h2
        by_cases h4 : 0 ≤ un
        · by_cases h9 : un < 1099511627776
          · have ev := HU.out
            rw [decide_eq_true (show tickP un from .inr ⟨h4, h9⟩)] at ev
            subst ev
            go_wp2
            go_meet
            exact ⟨rfl, rfl⟩
          · have ev := HU.out
            rw [decide_eq_false (show ¬ tickP un by unfold tickP; omega)] at ev
            subst ev
            go_wp2
            go_meet
            exact ⟨rfl, rfl⟩
        · have ev := HU.out
          rw [decide_eq_false (show ¬ tickP un by unfold tickP; omega)] at ev
          subst ev
          go_wp2
          go_meet
          exact ⟨rfl, rfl⟩
    case rest => as_aux_lemma =>
      obtain ⟨rfl, rfl⟩ := hcut
      by_cases hgt : waitsP st ∧ tickP un
      · have eg := HG.out
        have eu := HU.out
        rw [decide_eq_true hgt.1] at eg
        rw [decide_eq_true hgt.2] at eu
        subst eg
        subst eu
        clear HG HU
        have HGT := Aside0.mk hgt
        clear hgt
        go_upto_region 10 with (go_at_call 11; refine (one_wait (HO5.out.below ((Below.refl _ _).alloc (Nat.le_refl _) _)) st un 4 5 (some ⟨wc.heap.size, 0, none⟩) 1 [6] rfl HGT.out (by decide) (own_one _ _ _ ?ha) ?hb (by decide) (by decide)).mono ?_; (case ha => have := HO5.out.lt; omega); (case hb => (intro b hb; have h8 : wc.heap.size = b := Option.some.inj hb; have := HO5.out.lt; omega)); rintro e w6 ⟨rfl, ⟨s, ho⟩, hb⟩; have HO6 : Aside0 (One w6 W2.heap.size g (psB st un s) pdT 3) := ⟨ho⟩; have HB6 := Aside0.mk ((HB5.out.alloc HB5.out.size _).trans (hb.mono HL.out)); clear ho hb)
        clear HO5 HB5
        go_cut [91] (fun v w' => v = .bool false ∧ Aside0 (One w' W2.heap.size g (psB st un s) pdT 3) ∧ Aside0 (Below W.heap.size W w'))
        case first => as_aux_lemma =>
          have D1 := Aside0.mk (no_tick now)
          have hd3 := Aside0.mk (due3 st un s HGT.out.1)
          have hd2 := Aside0.mk (due2 st un s (by have := HGT.out.1; unfold waitsP at this; omega))
          have hd1 := Aside0.mk (due1 st un s)
          obtain ⟨D3, hD3⟩ : ∃ D3, decide (now ≠ -1 ∧ un = now) = D3 := ⟨_, rfl⟩
          have HD3 := Aside0.mk (fun (w' : World) (ho : One w' W2.heap.size g (psB st un s) pdT 3) => one_due ho 3 now)
          have HD2 := Aside0.mk (fun (w' : World) (ho : One w' W2.heap.size g (psB st un s) pdT 3) => one_due ho 2 now)
          have HD1 := Aside0.mk (fun (w' : World) (ho : One w' W2.heap.size g (psB st un s) pdT 3) => one_due ho 1 now)
          rw [hd1.out, D1.out] at HD1
          rw [hd2.out, D1.out] at HD2
          rw [hd3.out, hD3] at HD3
          have HDD := Aside0.mk hD3
          clear hD3 hd1 hd2 hd3 D1
          by_cases e1 : un = now
          · subst e1
            by_cases e2 : un = -1
            · have e3 := HDD.out
              rw [decide_eq_false (fun h => h.1 e2)] at e3
              subst e3
              subst e2
              go_wp2_with (first
                | (go_at_call 12; (with_reducible refine (HD3.out _ HO6.out).mono ?_); rintro e w7 ⟨rfl, hb⟩; have HO7 := Aside0.mk (HO6.out.below hb); have HB7 := Aside0.mk (HB6.out.trans (hb.mono HB6.out.size)); clear hb)
                | (go_at_call 12; (with_reducible refine (HD1.out _ HO7.out).mono ?_); rintro e w8 ⟨rfl, hb⟩; have HO8 := Aside0.mk (HO7.out.below hb); have HB8 := Aside0.mk (HB7.out.trans (hb.mono HB7.out.size)); clear hb)
                | (go_at_call 12; (with_reducible refine (HD2.out _ HO8.out).mono ?_); rintro e w9 ⟨rfl, hb⟩; have HO9 := Aside0.mk (HO8.out.below hb); have HB9 := Aside0.mk (HB8.out.trans (hb.mono HB8.out.size)); clear hb))
              go_meet
              exact ⟨rfl, HO9, HB9⟩
            · have q2 : (un == -1) = false := by rw [beq_eq_false_iff_ne]; exact e2
              have q3 : (un != -1) = true := by rw [bne_iff_ne]; exact e2
              have e3 := HDD.out
              rw [decide_eq_true ⟨e2, rfl⟩] at e3
              subst e3
              go_wp2_with (first
                | (go_at_call 12; (with_reducible refine (HD3.out _ HO6.out).mono ?_); rintro e w7 ⟨rfl, hb⟩; have HO7 := Aside0.mk (HO6.out.below hb); have HB7 := Aside0.mk (HB6.out.trans (hb.mono HB6.out.size)); clear hb)
                | (go_at_call 12; (with_reducible refine (HD1.out _ HO7.out).mono ?_); rintro e w8 ⟨rfl, hb⟩; have HO8 := Aside0.mk (HO7.out.below hb); have HB8 := Aside0.mk (HB7.out.trans (hb.mono HB7.out.size)); clear hb)
                | (go_at_call 12; (with_reducible refine (HD2.out _ HO8.out).mono ?_); rintro e w9 ⟨rfl, hb⟩; have HO9 := Aside0.mk (HO8.out.below hb); have HB9 := Aside0.mk (HB8.out.trans (hb.mono HB8.out.size)); clear hb))
              go_meet
              exact ⟨rfl, HO9, HB9⟩
          · have q2 : (un == now) = false := by rw [beq_eq_false_iff_ne]; exact e1
            have e3 := HDD.out
            rw [decide_eq_false (fun h => e1 h.2)] at e3
            subst e3
            go_wp2_with (first
              | (go_at_call 12; (with_reducible refine (HD3.out _ HO6.out).mono ?_); rintro e w7 ⟨rfl, hb⟩; have HO7 := Aside0.mk (HO6.out.below hb); have HB7 := Aside0.mk (HB6.out.trans (hb.mono HB6.out.size)); clear hb)
              | (go_at_call 12; (with_reducible refine (HD1.out _ HO7.out).mono ?_); rintro e w8 ⟨rfl, hb⟩; have HO8 := Aside0.mk (HO7.out.below hb); have HB8 := Aside0.mk (HB7.out.trans (hb.mono HB7.out.size)); clear hb)
              | (go_at_call 12; (with_reducible refine (HD2.out _ HO8.out).mono ?_); rintro e w9 ⟨rfl, hb⟩; have HO9 := Aside0.mk (HO8.out.below hb); have HB9 := Aside0.mk (HB8.out.trans (hb.mono HB8.out.size)); clear hb))
            go_meet
            exact ⟨rfl, HO9, HB9⟩
        case rest => as_aux_lemma =>
          clear HO6 HB6
          obtain ⟨rfl, HO, HB⟩ := hcut
          go_upto_region 12 with (fail)
          go_cut [116] (fun v w' => v = .bool false ∧ Aside0 (One w' W2.heap.size g (psB st un s) pdT 3) ∧ Aside0 (Below W.heap.size W w'))
          case first => as_aux_lemma =>
            have HNX := Aside0.mk (fun (t : Int) (w' : World) (ho : One w' W2.heap.size g (psB st un s) pdT 3) => one_next ho t)
            by_cases e1 : un = -1
            · have hn1 := Aside0.mk (HNX.out (-1))
              rw [next_B (-1) st un s HGT.out.1, if_neg (fun h => h.2 e1)] at hn1
              subst e1
              clear HNX
              go_wp2_with (go_at_call 13; (with_reducible refine (hn1.out _ HO.out).mono ?_); rintro e w7 ⟨rfl, hb⟩; have HO7 := Aside0.mk (HO.out.below hb); have HB7 := Aside0.mk (HB.out.trans (hb.mono HB.out.size)); clear hb)
              go_meet
              exact ⟨rfl, HO7, HB7⟩
            · have q2 : (un == -1) = false := by rw [beq_eq_false_iff_ne]; exact e1
              have q3 : (un != -1) = true := by rw [bne_iff_ne]; exact e1
              have hn1 := Aside0.mk (HNX.out un)
              rw [next_B un st un s HGT.out.1, if_neg (fun h => by omega)] at hn1
              have hn2 := Aside0.mk (HNX.out (un - 1))
              rw [next_B (un - 1) st un s HGT.out.1, if_pos ⟨by omega, e1⟩] at hn2
              have hu : 0 ≤ un ∧ un < 1099511627776 := by
                rcases HGT.out.2 with h | h
                · exact absurd h e1
                · exact h
              have hw : wrap64 (un - 1) = un - 1 := wrap64_in _ ⟨by omega, by omega⟩
              obtain ⟨hu0, hu1⟩ := hu
              clear HNX
              go_wp2_with (first
                | (go_at_call 13; (with_reducible refine (hn1.out _ HO.out).mono ?_); rintro e w7 ⟨rfl, hb⟩; have HO7 := Aside0.mk (HO.out.below hb); have HB7 := Aside0.mk (HB.out.trans (hb.mono HB.out.size)); clear hb)
                | (go_at_call 13; (with_reducible refine (hn2.out _ HO7.out).mono ?_); rintro e w8 ⟨rfl, hb⟩; have HO8 := Aside0.mk (HO7.out.below hb); have HB8 := Aside0.mk (HB7.out.trans (hb.mono HB7.out.size)); clear hb))
              go_meet
              exact ⟨rfl, HO8, HB8⟩
          case rest => as_aux_lemma =>
            clear HO HB
            obtain ⟨rfl, HO, HB⟩ := hcut
            go_upto_if 118 with (fail)
            obtain ⟨R0, hR0⟩ : ∃ R0, (if st = 2 then (0 : Int) else 4) = R0 := ⟨_, rfl⟩
            have HR0 := Aside0.mk hR0
            clear hR0
            go_cut [14] (fun v w' => v = .int .i64 R0 ∧ w' = wc)
            case first => as_aux_lemma =>
              by_cases h2 : st = 2
              · have ev := HR0.out
                rw [if_pos h2] at ev
                subst ev
                subst h2
                go_wp2
                go_meet
                exact ⟨rfl, rfl⟩
              · have q2 : (st == 2) = false := by rw [beq_eq_false_iff_ne]; exact h2
                have ev := HR0.out
                rw [if_neg h2] at ev
                subst ev
                go_wp2
                go_meet
                exact ⟨rfl, rfl⟩
            case rest => as_aux_lemma =>
              obtain ⟨rfl, rfl⟩ := hcut
              go_upto_region 17 with (fail)
              obtain ⟨K, hK⟩ : ∃ K, (woken || decide (un = -1)) = K := ⟨_, rfl⟩
              have HK := Aside0.mk hK
              clear hK
              go_cut [123] (fun v w' => v = .bool K ∧ w' = wc)
              case first => as_aux_lemma =>
                have ev := HK.out
                clear HK
                cases woken with
                | true =>
                  rw [Bool.true_or] at ev
                  subst ev
                  go_wp2
                  go_meet
                  exact ⟨rfl, rfl⟩
                | false =>
                  rw [Bool.false_or] at ev
                  by_cases h2 : un = -1
                  · rw [decide_eq_true h2] at ev
                    subst ev
                    subst h2
                    go_wp2
                    go_meet
                    exact ⟨rfl, rfl⟩
                  · have q2 : (un == -1) = false := by rw [beq_eq_false_iff_ne]; exact h2
                    rw [decide_eq_false h2] at ev
                    subst ev
                    go_wp2
                    go_meet
                    exact ⟨rfl, rfl⟩
              case rest => as_aux_lemma =>
                obtain ⟨rfl, rfl⟩ := hcut
                go_upto_if 123 with (fail)
                go_cut [14] (fun v w' => ∃ r, v = .int .i64 r ∧ Aside0 (One w' W2.heap.size g (psC r) pdT 4) ∧ Aside0 (Below W.heap.size W w'))
                case first => as_aux_lemma =>
                  have hs : st ≠ 0 ∧ st ≠ 1 ∧ st ≠ 3 := by have := HGT.out.1; unfold waitsP at this; omega
                  have HS := Aside0.mk hs
                  clear hs
                  cases K with
                  | true =>
                    clear HK
                    go_wp2_with (go_at_call 14; refine (one_wake HO.out result HS.out (by decide)).mono ?_; rintro e w7 ⟨rfl, ho, hb⟩; have HO7 : Aside0 (One w7 W2.heap.size g (psC result) pdT 4) := ⟨ho⟩; have HB7 := Aside0.mk (HB.out.trans (hb.mono HL.out)); clear ho hb)
                    go_meet
                    exact ⟨result, rfl, HO7, HB7⟩
                  | false =>
                    have e1 : un ≠ -1 := fun h => by have := HK.out; rw [decide_eq_true h, Bool.or_true] at this; exact absurd this (by decide)
                    have hu : 0 ≤ un ∧ un < 1099511627776 := by
                      rcases HGT.out.2 with h | h
                      · exact absurd h e1
                      · exact h
                    have hw : wrap64 (un + 1) = un + 1 := wrap64_in _ ⟨by omega, by omega⟩
                    obtain ⟨hu0, hu1⟩ := hu
                    have HF1 := Aside0.mk (one_fire_no HO.out 3 (un + 1) (by rw [due3 st un s HGT.out.1]; omega))
                    have HF2 := Aside0.mk (fun (w' : World) (ho : One w' W2.heap.size g (psB st un s) pdT 3) => one_fire ho 3 un ⟨e1, due3 st un s HGT.out.1⟩ (by decide) (show (0 : Int) ≤ 0 ∧ (0 : Int) < 4611686018427387904 from by decide))
                    have hR := HR0.out
                    clear HK e1
                    go_wp2_with (first
                      | (go_at_call 15; (with_reducible refine HF1.out.mono ?_); rintro e w7 ⟨rfl, hb⟩; have HO7 := Aside0.mk (HO.out.below hb); have HB7 := Aside0.mk (HB.out.trans (hb.mono HB.out.size)); clear hb)
                      | (go_at_call 15; (with_reducible refine (HF2.out _ HO7.out).mono ?_); rintro e w8 ⟨rfl, ho, hb⟩; have HO8 := Aside0.mk ho; have HB8 := Aside0.mk (HB7.out.trans (hb.mono HL.out)); clear ho hb))
                    go_meet
                    have ho := HO8.out
                    rw [psC_fired, hR] at ho
                    exact ⟨R0, rfl, ⟨ho⟩, HB8⟩
                case rest => as_aux_lemma =>
                  clear HO HB HK HR0
                  obtain ⟨r, rfl, HO, HB⟩ := hcut
                  have HNX := Aside0.mk (fun (w' : World) (ho : One w' W2.heap.size g (psC r) pdT 4) => one_next ho (-1))
                  rw [next_C (-1) r] at HNX
                  have HNW := Aside0.mk (fun (w' : World) (ho : One w' W2.heap.size g (psC r) pdT 4) => one_wake_no ho 3 (.inr (.inl rfl)))
                  go_wp2_with (first
                    | (go_at_call 16; refine (psC_get HO.out).mono ?_; rintro e w9 ⟨A, c, rfl, hb⟩; have HO9 := Aside0.mk (HO.out.below hb); have HB9 := Aside0.mk (HB.out.trans (hb.mono HB.out.size)); clear hb)
                    | ((with_reducible refine gate_store (t := 48) (p := 15) rfl ?_); refine wpList_store_new rfl 48 (.tmp 15) (.tmp 142) rfl _ #[.int .i64 1, .int .i64 0, .int .i64 3, .int .i64 r, .int .i64 9, .int .i64 9, .int .i64 9, .int .i64 0, .int .i64 0, .int .i64 0, .int .i64 0, .int .i64 0, .int .i64 0, .int .i64 0, .int .i64 0, .int .i64 0, .int .i64 0, .int .i64 0, .int .i64 0, .int .i64 0, .int .i64 0, .int .i64 (-1), .int .i64 (-1), .bool false, .int .i64 0, .int .i64 0, .slice A 0 c, .int .i64 0] rfl rfl (by kernel_rfl) (by kernel_rfl) (by kernel_rfl) ?_)
                    | (go_at_call 13; (with_reducible refine (HNX.out _ (HO9.out.below ((Below.refl _ _).alloc (Nat.le_refl _) _))).mono ?_); rintro e w10 ⟨rfl, hb⟩; have HO10 := Aside0.mk ((HO9.out.below ((Below.refl _ _).alloc (Nat.le_refl _) _)).below hb); have HB10 := Aside0.mk ((HB9.out.alloc HB9.out.size _).trans (hb.mono (HB9.out.alloc HB9.out.size _).size)); clear hb)
                    | (go_at_call 14; (with_reducible refine (HNW.out _ HO10.out).mono ?_); rintro e w11 ⟨rfl, rfl⟩))
                  go_ret
                  exact ⟨rfl, HB10.out⟩
      · have HN := Aside0.mk hgt
        have hGU : G = false ∨ (G = true ∧ U = false) := by
          have eg := HG.out
          have eu := HU.out
          by_cases h1 : waitsP st
          · rw [decide_eq_true h1] at eg
            rw [decide_eq_false (fun h2 => hgt ⟨h1, h2⟩)] at eu
            exact .inr ⟨eg.symm, eu.symm⟩
          · rw [decide_eq_false h1] at eg
            exact .inl eg.symm
        clear hgt HG HU
        rcases hGU with rfl | ⟨rfl, rfl⟩
        all_goals
          go_wp2_with (go_at_call 11; refine (one_wait_no (HO5.out.below ((Below.refl _ _).alloc (Nat.le_refl _) _)) st un 4 5 _ rfl HN.out).mono ?_; rintro e w6 ⟨rfl, hb⟩; have HB6 := Aside0.mk ((HB5.out.alloc HB5.out.size _).trans (hb.mono (HB5.out.alloc HB5.out.size _).size)); clear hb)
          go_ret
          exact ⟨rfl, HB6.out⟩
end Go.Proofs.Ytfnlankpdnkmoaa.B
