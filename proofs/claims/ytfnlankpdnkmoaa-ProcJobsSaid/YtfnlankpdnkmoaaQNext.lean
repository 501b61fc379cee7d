/- Proved: the contracts of the table's Fire and Next. Conditions: the table's length is that of a list; places and misses are not beyond a half of all numbers. -/
import Derived.Test.YtfnlankpdnkmoaaQFire
namespace Go.Proofs.Ytfnlankpdnkmoaa.B
open Go.RowKit Go.Proofs.YtfnlankpdnkmoaaW.PrintWords Go.Proofs.YtfnlankpdnkmoaaW.PrintLast Go.Proofs.YtfnlankpdnkmoaaW.PrintMore

set_option maxHeartbeats 4000000 in
theorem fire_no (k now : Int) (W : World) (base g : Nat) (T : Tb) (q i : Nat) (x : PS) (p : PD) (h : At W base g T q i x p) (hn : ¬ (now ≠ -1 ∧ dueX x p k = now)) :
    Calls Try.prog 15 #[.pointer (some ⟨g, 0, none⟩), .int .i64 ((i : Int) + 1), .int .i64 k, .int .i64 now] W fun e w' => e = .returned (.bool false) ∧ Below W.heap.size W w' := by
  have HD := Aside0.mk (Due_is k now W base g T q i x p h)
  rw [decide_eq_false hn] at HD
  clear h hn
  go_enter Try.func15, Try.ntmps15
  go_wp2_with (go_at_call 12; refine HD.out.mono ?_; rintro e w1 ⟨rfl, hb⟩; have HB := Aside0.mk hb; clear hb)
  go_ret
  exact ⟨rfl, HB.out⟩
/-- What a timer that is due does. -/
def Tb.fire (T : Tb) (i : Nat) (x : PS) (p : PD) (k now : Int) : Tb := if k = 1 then T.put i x.missed else if k = 2 then T.begin_ i x p now else T.enter i x.late0 1
theorem TPost.after {W w1 : World} {base g : Nat} {T T' : Tb} {val : Value} {e : Ending} {w' : World} (hb : Below W.heap.size W w1) (h : TPost w1 base g T T' val e w') : TPost W base g T T' val e w' := ⟨h.1, h.2.1, (TK.of_below hb).trans h.2.2⟩
set_option maxHeartbeats 4000000 in
set_option maxRecDepth 100000 in
theorem fire_yes (k now : Int) (W : World) (base g : Nat) (T : Tb) (q i : Nat) (x : PS) (p : PD) (h : At W base g T q i x p) (hn : now ≠ -1 ∧ dueX x p k = now) (hp : 0 ≤ T.place ∧ T.place < 4611686018427387904) (hm : 0 ≤ x.miss ∧ x.miss < 4611686018427387904) :
    Calls Try.prog 15 #[.pointer (some ⟨g, 0, none⟩), .int .i64 ((i : Int) + 1), .int .i64 k, .int .i64 now] W (TPost W base g T (T.fire i x p k now) (.bool true)) := by
  have hu95 := Try.underlying95
  have hu96 := Try.underlying96
  have HD := Aside0.mk (Due_is k now W base g T q i x p h)
  rw [decide_eq_true hn] at HD
  have hk : k = 1 ∨ k = 2 ∨ k = 3 := by
    have h1 := hn.2
    unfold dueX at h1
    split at h1
    · exact absurd h1.symm hn.1
    · rename_i h2
      omega
  have HT := Aside0.mk (fun (w' : World) => timers_is w' (.pointer (some ⟨g, 0, none⟩)))
  have HD1 := Aside0.mk (fun (w' : World) (hb : Below W.heap.size W w') => miss_is now w' base g T q i x p (h.below hb) hm)
  have HD2 := Aside0.mk (fun (w' : World) (hb : Below W.heap.size W w') => begin_is now w' base g T q i x p (h.below hb) hp)
  have HD3 := Aside0.mk (fun (w' : World) (hb : Below W.heap.size W w') => timeOut_is now w' base g T q i x p (h.below hb) hp)
  have ix1 := timers_at1 (.pointer (some ⟨g, 0, none⟩))
  have ix2 := timers_at2 (.pointer (some ⟨g, 0, none⟩))
  have ix3 := timers_at3 (.pointer (some ⟨g, 0, none⟩))
  unfold timersV at HT ix1 ix2 ix3
  have fx1 := timer_f1
  clear h hn hp hm
  rcases hk with rfl | rfl | rfl
  · rw [show T.fire i x p 1 now = T.put i x.missed from rfl]
    generalize T.put i x.missed = T' at *
    go_enter Try.func15, Try.ntmps15
    go_wp2_with (first
      | (go_at_call 12; refine HD.out.mono ?_; rintro e w1 ⟨rfl, hb⟩; have HB := Aside0.mk hb; clear hb)
      | (go_at_call 43; refine (HT.out _).mono ?_; rintro e w2 ⟨rfl, hb⟩; have HB2 := Aside0.mk (HB.out.trans (hb.mono HB.out.size)); clear hb)
      | (go_at_call 64; refine (HD1.out _ HB2.out).mono ?_; rintro e w3 hq; have he := hq.1; subst he; have HQ := Aside0.mk (TPost.after HB2.out hq); clear hq))
    go_ret
    exact ⟨rfl, HQ.out.2⟩
  · rw [show T.fire i x p 2 now = T.begin_ i x p now from rfl]
    generalize T.begin_ i x p now = T' at *
    go_enter Try.func15, Try.ntmps15
    go_wp2_with (first
      | (go_at_call 12; refine HD.out.mono ?_; rintro e w1 ⟨rfl, hb⟩; have HB := Aside0.mk hb; clear hb)
      | (go_at_call 43; refine (HT.out _).mono ?_; rintro e w2 ⟨rfl, hb⟩; have HB2 := Aside0.mk (HB.out.trans (hb.mono HB.out.size)); clear hb)
      | (go_at_call 66; refine (HD2.out _ HB2.out).mono ?_; rintro e w3 hq; have he := hq.1; subst he; have HQ := Aside0.mk (TPost.after HB2.out hq); clear hq))
    go_ret
    exact ⟨rfl, HQ.out.2⟩
  · rw [show T.fire i x p 3 now = T.enter i x.late0 1 from rfl]
    generalize T.enter i x.late0 1 = T' at *
    go_enter Try.func15, Try.ntmps15
    go_wp2_with (first
      | (go_at_call 12; refine HD.out.mono ?_; rintro e w1 ⟨rfl, hb⟩; have HB := Aside0.mk hb; clear hb)
      | (go_at_call 43; refine (HT.out _).mono ?_; rintro e w2 ⟨rfl, hb⟩; have HB2 := Aside0.mk (HB.out.trans (hb.mono HB.out.size)); clear hb)
      | (go_at_call 68; refine (HD3.out _ HB2.out).mono ?_; rintro e w3 hq; have he := hq.1; subst he; have HQ := Aside0.mk (TPost.after HB2.out hq); clear hq))
    go_ret
    exact ⟨rfl, HQ.out.2⟩
/-! ### Next -/
def nxt1 (now next at_ : Int) : Int := if now < at_ ∧ at_ ≠ -1 ∧ (next = -1 ∨ at_ < next) then at_ else next
def nxtK (now : Int) (x : PS) (p : PD) (next : Int) : Nat → Int
  | 0 => next
  | k + 1 => nxt1 now (nxtK now x p next k) (dueX x p ((k : Int) + 1))
def nxtL (now : Int) (l : List (PS × PD)) : Int := l.foldl (fun next xp => nxtK now xp.1 xp.2 next 3) (-1)
def Tb.next (T : Tb) (now : Int) : Int := nxtL now (T.xs.zip T.ps)
set_option maxHeartbeats 8000000 in
set_option maxRecDepth 100000 in
theorem next_is (now : Int) (W : World) (base g : Nat) (T : Tb) (h : TabAt W base g T) (hn : T.xs.length ≤ 4294967296) :
    Calls Try.prog 13 #[.pointer (some ⟨g, 0, none⟩), .int .i64 now] W fun e w' => e = .returned (.int .i64 (T.next now)) ∧ Below W.heap.size W w' := by
  have hu86 := Try.underlying86
  have j3 : W.cell? ⟨g, 3, none⟩ = some (.slice T.sv.A T.xs.length T.sv.c) := by rw [← h.sn]; exact h.c3
  have H := Aside0.mk h
  obtain ⟨n, hN⟩ : ∃ n, T.xs.length = n := ⟨_, rfl⟩
  rw [hN] at j3 hn
  have HN := Aside0.mk hN
  have HZ := Aside0.mk (show (T.xs.zip T.ps).length = n by rw [List.length_zip, h.len, hN, Nat.min_self])
  have HW := Aside0.mk (show T.next now = nxtL now (T.xs.zip T.ps) from rfl)
  generalize T.next now = V at *
  clear h hN
  go_enter Try.func13, Try.ntmps13
  go_wp2
  go_loopw [5, 14] (fun v5 v14 wr => ∃ i : Nat, v14 = .int .i64 (i : Nat) ∧ i ≤ n ∧ v5 = .int .i64 (nxtL now ((T.xs.zip T.ps).take i)) ∧ Aside0 (Below W.heap.size W wr)) (fun _ vi _ => n - (intOf vi).toNat)
  case atStart => exact ⟨0, rfl, Nat.zero_le _, rfl, ⟨Below.refl _ _⟩⟩
  case round =>
    obtain ⟨i, rfl, hi, rfl, HB⟩ := hrel
    by_cases hlt : i < n
    · have hii : (i : Int) < (n : Int) := by omega
      obtain ⟨x, hx⟩ : ∃ x, T.xs[i]? = some x := ⟨_, List.getElem?_eq_getElem (by have := HN.out; omega)⟩
      obtain ⟨p, hp⟩ : ∃ p, T.ps[i]? = some p := ⟨_, List.getElem?_eq_getElem (by have := HN.out; have := H.out.len; omega)⟩
      obtain ⟨q, hA⟩ := H.out.A hx
      have HD := Aside0.mk (fun (k : Int) (w' : World) (hb : Below W.heap.size W w') => due_is k w' base g T q i x p ⟨H.out.below hb, hA, hx, hp, by have := HN.out; omega⟩)
      have HS := Aside0.mk (show nxtL now ((T.xs.zip T.ps).take (i + 1)) = nxtK now x p (nxtL now ((T.xs.zip T.ps).take i)) 3 by
        have hl : i < (T.xs.zip T.ps).length := by have := HZ.out; omega
        rw [List.take_succ_eq_append_getElem hl]
        unfold nxtL
        rw [List.foldl_append]
        obtain ⟨h1, h2⟩ := List.getElem?_eq_some_iff.1 hx
        obtain ⟨h3, h4⟩ := List.getElem?_eq_some_iff.1 hp
        simp only [List.foldl_cons, List.foldl_nil, List.getElem_zip, h2, h4])
      generalize nxtL now ((T.xs.zip T.ps).take i) = N0 at *
      clear hx hp hA
      go_wp2
      go_loopw [5, 7] (fun v5 v7 wr => ∃ k : Nat, v7 = .int .i64 ((k : Int) + 1) ∧ k ≤ 3 ∧ v5 = .int .i64 (nxtK now x p N0 k) ∧ Aside0 (Below W.heap.size W wr)) (fun _ v7 _ => 4 - (intOf v7).toNat)
      case atStart => exact ⟨0, rfl, Nat.zero_le _, rfl, HB⟩
      case round =>
        clear HB
        obtain ⟨k, rfl, hk, rfl, HB⟩ := hrel
        by_cases hkt : k < 3
        · have hk4 : (k : Int) + 1 < 4 := by omega
          have HDK := Aside0.mk (HD.out ((k : Int) + 1) _ HB.out)
          have HSK := Aside0.mk (show nxtK now x p N0 (k + 1) = nxt1 now (nxtK now x p N0 k) (dueX x p ((k : Int) + 1)) from rfl)
          generalize dueX x p ((k : Int) + 1) = D at *
          generalize nxtK now x p N0 k = M at *
          by_cases c1 : now < D
          · by_cases c2 : D = -1
            · have HR := Aside0.mk (show nxtK now x p N0 (k + 1) = M by rw [HSK.out]; unfold nxt1; rw [if_neg (fun h => h.2.1 c2)])
              subst c2
              go_wp2_with (go_at_call 42; refine HDK.out.mono ?_; rintro e w1 ⟨rfl, hb⟩; have HB1 := Aside0.mk (HB.out.trans (hb.mono HB.out.size)); clear hb)
              go_roundw
              case rel => exact ⟨k + 1, by go_num, by omega, by rw [HR.out], HB1⟩
              case measure => simp [intOf]; omega
            · have q2 : (D == -1) = false := by rw [beq_eq_false_iff_ne]; exact c2
              have q2' : (D != -1) = true := by rw [bne_iff_ne]; exact c2
              by_cases c3 : M = -1
              · have HR := Aside0.mk (show nxtK now x p N0 (k + 1) = D by rw [HSK.out]; unfold nxt1; rw [if_pos ⟨c1, c2, .inl c3⟩])
                subst c3
                go_wp2_with (go_at_call 42; refine HDK.out.mono ?_; rintro e w1 ⟨rfl, hb⟩; have HB1 := Aside0.mk (HB.out.trans (hb.mono HB.out.size)); clear hb)
                go_roundw
                case rel => exact ⟨k + 1, by go_num, by omega, by rw [HR.out], HB1⟩
                case measure => simp [intOf]; omega
              · have q3 : (M == -1) = false := by rw [beq_eq_false_iff_ne]; exact c3
                by_cases c4 : D < M
                · have HR := Aside0.mk (show nxtK now x p N0 (k + 1) = D by rw [HSK.out]; unfold nxt1; rw [if_pos ⟨c1, c2, .inr c4⟩])
                  go_wp2_with (go_at_call 42; refine HDK.out.mono ?_; rintro e w1 ⟨rfl, hb⟩; have HB1 := Aside0.mk (HB.out.trans (hb.mono HB.out.size)); clear hb)
                  go_roundw
                  case rel => exact ⟨k + 1, by go_num, by omega, by rw [HR.out], HB1⟩
                  case measure => simp [intOf]; omega
                · have HR := Aside0.mk (show nxtK now x p N0 (k + 1) = M by rw [HSK.out]; unfold nxt1; rw [if_neg (fun h => h.2.2.elim c3 c4)])
                  go_wp2_with (go_at_call 42; refine HDK.out.mono ?_; rintro e w1 ⟨rfl, hb⟩; have HB1 := Aside0.mk (HB.out.trans (hb.mono HB.out.size)); clear hb)
                  go_roundw
                  case rel => exact ⟨k + 1, by go_num, by omega, by rw [HR.out], HB1⟩
                  case measure => simp [intOf]; omega
          · have HR := Aside0.mk (show nxtK now x p N0 (k + 1) = M by rw [HSK.out]; unfold nxt1; rw [if_neg (fun h => c1 h.1)])
            go_wp2_with (go_at_call 42; refine HDK.out.mono ?_; rintro e w1 ⟨rfl, hb⟩; have HB1 := Aside0.mk (HB.out.trans (hb.mono HB.out.size)); clear hb)
            go_roundw
            case rel => exact ⟨k + 1, by go_num, by omega, by rw [HR.out], HB1⟩
            case measure => simp [intOf]; omega
        · obtain rfl : k = 3 := by omega
          clear hkt hk
          go_wp2
          go_roundw
          case rel => exact ⟨i + 1, by go_num, by omega, by rw [HS.out], HB⟩
          case measure => simp [intOf]; omega
    · have hne : ¬ ((i : Int) < (n : Int)) := by omega
      have HE := Aside0.mk (show nxtL now ((T.xs.zip T.ps).take i) = V by rw [HW.out, List.take_of_length_le (by have := HZ.out; omega)])
      clear hlt hi
      go_wp2
      go_ret
      exact ⟨by rw [← HE.out]; rfl, HB.out⟩
end Go.Proofs.Ytfnlankpdnkmoaa.B
