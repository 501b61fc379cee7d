/- Proved: the contracts of due, Due, Next, and of what a timer does. Conditions: the table's length is that of a list. -/
import Derived.Test.YtfnlankpdnkmoaaQTim
namespace Go.Proofs.Ytfnlankpdnkmoaa.B
open Go.RowKit Go.Proofs.YtfnlankpdnkmoaaW.PrintWords Go.Proofs.YtfnlankpdnkmoaaW.PrintLast Go.Proofs.YtfnlankpdnkmoaaW.PrintMore

theorem timers_at1 (v : Value) (w : World) : (Instr.index 96 (timersV v) (.int .i64 1)).run Try.prog w = .ok (.agg #[.func (.func 63) #[v] #[], .func (.func 64) #[v] #[]]) w := by kernel_rfl
theorem timers_at2 (v : Value) (w : World) : (Instr.index 96 (timersV v) (.int .i64 2)).run Try.prog w = .ok (.agg #[.func (.func 65) #[v] #[], .func (.func 66) #[v] #[]]) w := by kernel_rfl
theorem timers_at3 (v : Value) (w : World) : (Instr.index 96 (timersV v) (.int .i64 3)).run Try.prog w = .ok (.agg #[.func (.func 67) #[v] #[], .func (.func 68) #[v] #[]]) w := by kernel_rfl
theorem timer_f0 (a b : Fn) (c d : Array Value) (w : World) : (Instr.field 95 (.agg #[.func a c #[], .func b d #[]]) 0).run Try.prog w = .ok (.func a c #[]) w := by kernel_rfl
theorem timer_f1 (a b : Fn) (c d : Array Value) (w : World) : (Instr.field 95 (.agg #[.func a c #[], .func b d #[]]) 1).run Try.prog w = .ok (.func b d #[]) w := by kernel_rfl
def dueX (x : PS) (p : PD) (k : Int) : Int := if x.st = 0 ∨ k < 1 ∨ 4 ≤ k then -1 else if k = 1 then x.dl else if k = 2 then relTick x p else wakeTk x
set_option maxHeartbeats 4000000 in
set_option maxRecDepth 100000 in
theorem due_is (k : Int) (W : World) (base g : Nat) (T : Tb) (q i : Nat) (x : PS) (p : PD) (h : At W base g T q i x p) :
    Calls Try.prog 42 #[.pointer (some ⟨g, 0, none⟩), .int .i64 ((i : Int) + 1), .int .i64 k] W fun e w' => e = .returned (.int .i64 (dueX x p k)) ∧ Below W.heap.size W w' := by
  have hu48 := Try.underlying48
  have hu95 := Try.underlying95
  have hu96 := Try.underlying96
  have HA := Aside0.mk h.at_
  have y0 := h.tab.r_st h.a h.x
  simp only [Nat.add_zero] at y0
  have HT := Aside0.mk (timers_is W (.pointer (some ⟨g, 0, none⟩)))
  have HD1 := Aside0.mk (fun (w' : World) (hb : Below W.heap.size W w') => deadlineTick_is w' base g T q i x p (h.below hb))
  have HD2 := Aside0.mk (fun (w' : World) (hb : Below W.heap.size W w') => releaseTick_is w' base g T q i x p (h.below hb))
  have HD3 := Aside0.mk (fun (w' : World) (hb : Below W.heap.size W w') => wakeTick_is w' base g T q i x p (h.below hb))
  obtain ⟨V, hV⟩ : ∃ V, dueX x p k = V := ⟨_, rfl⟩
  rw [hV]
  have HV := Aside0.mk (show (if x.st = 0 ∨ k < 1 ∨ 4 ≤ k then -1 else if k = 1 then x.dl else if k = 2 then relTick x p else wakeTk x) = V from hV)
  generalize relTick x p = R2 at *
  generalize wakeTk x = R3 at *
  generalize x.dl = R1 at *
  generalize x.st = s at *
  clear h hV
  have ix1 := timers_at1 (.pointer (some ⟨g, 0, none⟩))
  have ix2 := timers_at2 (.pointer (some ⟨g, 0, none⟩))
  have ix3 := timers_at3 (.pointer (some ⟨g, 0, none⟩))
  unfold timersV at HT ix1 ix2 ix3
  have fx0 := timer_f0
  by_cases h0 : s = 0
  · have HE := Aside0.mk (show V = -1 by rw [← HV.out, if_pos (.inl h0)])
    subst h0
    go_enter Try.func42, Try.ntmps42
    go_wp2_with (go_at_call 35; refine HA.out.mono ?_; rintro e w' ⟨rfl, rfl⟩)
    go_ret
    exact ⟨by rw [HE.out]; rfl, Below.refl _ _⟩
  · have q0 : (s == 0) = false := by rw [beq_eq_false_iff_ne]; exact h0
    by_cases h1 : k < 1
    · have HE := Aside0.mk (show V = -1 by rw [← HV.out, if_pos (.inr (.inl h1))])
      go_enter Try.func42, Try.ntmps42
      go_wp2_with (go_at_call 35; refine HA.out.mono ?_; rintro e w' ⟨rfl, rfl⟩)
      go_ret
      exact ⟨by rw [HE.out]; rfl, Below.refl _ _⟩
    · by_cases h4 : 4 ≤ k
      · have HE := Aside0.mk (show V = -1 by rw [← HV.out, if_pos (.inr (.inr h4))])
        go_enter Try.func42, Try.ntmps42
        go_wp2_with (go_at_call 35; refine HA.out.mono ?_; rintro e w' ⟨rfl, rfl⟩)
        go_ret
        exact ⟨by rw [HE.out]; rfl, Below.refl _ _⟩
      · have hk : k = 1 ∨ k = 2 ∨ k = 3 := by omega
        have HN := Aside0.mk (show ¬ (s = 0 ∨ k < 1 ∨ 4 ≤ k) by omega)
        rcases hk with rfl | rfl | rfl
        · have HE := Aside0.mk (show V = R1 by rw [← HV.out, if_neg HN.out, if_pos rfl])
          clear h1 h4
          go_enter Try.func42, Try.ntmps42
          go_wp2_with (first
            | (go_at_call 35; refine HA.out.mono ?_; rintro e w' ⟨rfl, rfl⟩)
            | (go_at_call 43; refine HT.out.mono ?_; rintro e w1 ⟨rfl, hb⟩; have HB := Aside0.mk hb; clear hb)
            | (go_at_call 63; refine (HD1.out _ HB.out).mono ?_; rintro e w' ⟨rfl, rfl⟩))
          go_ret
          exact ⟨by rw [HE.out]; rfl, HB.out⟩
        · have HE := Aside0.mk (show V = R2 by rw [← HV.out, if_neg HN.out, if_neg (by decide), if_pos rfl])
          clear h1 h4
          go_enter Try.func42, Try.ntmps42
          go_wp2_with (first
            | (go_at_call 35; refine HA.out.mono ?_; rintro e w' ⟨rfl, rfl⟩)
            | (go_at_call 43; refine HT.out.mono ?_; rintro e w1 ⟨rfl, hb⟩; have HB := Aside0.mk hb; clear hb)
            | (go_at_call 65; refine (HD2.out _ HB.out).mono ?_; rintro e w2 ⟨rfl, hb⟩; have HB2 := Aside0.mk (HB.out.trans (hb.mono HB.out.size)); clear hb))
          go_ret
          exact ⟨by rw [HE.out]; rfl, HB2.out⟩
        · have HE := Aside0.mk (show V = R3 by rw [← HV.out, if_neg HN.out, if_neg (by decide), if_neg (by decide)])
          clear h1 h4
          go_enter Try.func42, Try.ntmps42
          go_wp2_with (first
            | (go_at_call 35; refine HA.out.mono ?_; rintro e w' ⟨rfl, rfl⟩)
            | (go_at_call 43; refine HT.out.mono ?_; rintro e w1 ⟨rfl, hb⟩; have HB := Aside0.mk hb; clear hb)
            | (go_at_call 67; refine (HD3.out _ HB.out).mono ?_; rintro e w' ⟨rfl, rfl⟩))
          go_ret
          exact ⟨by rw [HE.out]; rfl, HB.out⟩
set_option maxHeartbeats 4000000 in
theorem due_out (k p : Int) (W : World) (base g : Nat) (T : Tb) (h : TabAt W base g T) (hp : p < 1 ∨ (T.xs.length : Int) < p) :
    Calls Try.prog 42 #[.pointer (some ⟨g, 0, none⟩), .int .i64 p, .int .i64 k] W fun e w' => e = .returned (.int .i64 (-1)) ∧ W = w' := by
  have HA := Aside0.mk (at_out W base g T h p hp)
  clear h hp
  go_enter Try.func42, Try.ntmps42
  go_wp2_with (go_at_call 35; refine HA.out.mono ?_; rintro e w' ⟨rfl, rfl⟩)
  go_ret
  exact ⟨rfl, rfl⟩
set_option maxHeartbeats 4000000 in
theorem Due_is (k now : Int) (W : World) (base g : Nat) (T : Tb) (q i : Nat) (x : PS) (p : PD) (h : At W base g T q i x p) :
    Calls Try.prog 12 #[.pointer (some ⟨g, 0, none⟩), .int .i64 ((i : Int) + 1), .int .i64 k, .int .i64 now] W fun e w' => e = .returned (.bool (decide (now ≠ -1 ∧ dueX x p k = now))) ∧ Below W.heap.size W w' := by
  have HD := Aside0.mk (due_is k W base g T q i x p h)
  generalize dueX x p k = V at *
  obtain ⟨R, hR⟩ : ∃ R, decide (now ≠ -1 ∧ V = now) = R := ⟨_, rfl⟩
  rw [hR]
  have HR := Aside0.mk hR
  clear h hR
  by_cases h1 : now = -1
  · have HE := Aside0.mk (show R = false by rw [← HR.out]; exact decide_eq_false (fun h => h.1 h1))
    subst h1
    go_enter Try.func12, Try.ntmps12
    go_wp2
    go_ret
    exact ⟨by rw [HE.out]; rfl, Below.refl _ _⟩
  · have q1 : (now == -1) = false := by rw [beq_eq_false_iff_ne]; exact h1
    have q2 : (now != -1) = true := by rw [bne_iff_ne]; exact h1
    by_cases h2 : V = now
    · have HE := Aside0.mk (show R = true by rw [← HR.out]; exact decide_eq_true ⟨h1, h2⟩)
      subst h2
      go_enter Try.func12, Try.ntmps12
      go_wp2_with (go_at_call 42; refine HD.out.mono ?_; rintro e w1 ⟨rfl, hb⟩; have HB := Aside0.mk hb; clear hb)
      go_ret
      exact ⟨by rw [HE.out]; first | rfl | (simp; done), HB.out⟩
    · have HE := Aside0.mk (show R = false by rw [← HR.out]; exact decide_eq_false (fun h => h2 h.2))
      have q3 : (V == now) = false := by rw [beq_eq_false_iff_ne]; exact h2
      go_enter Try.func12, Try.ntmps12
      go_wp2_with (go_at_call 42; refine HD.out.mono ?_; rintro e w1 ⟨rfl, hb⟩; have HB := Aside0.mk hb; clear hb)
      go_ret
      exact ⟨by rw [HE.out]; first | rfl | (simp [h2]; done), HB.out⟩
end Go.Proofs.Ytfnlankpdnkmoaa.B
