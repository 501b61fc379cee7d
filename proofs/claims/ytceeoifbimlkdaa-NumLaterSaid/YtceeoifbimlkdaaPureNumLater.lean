/- Proved: the law NumLater answers true for every three numbers: what Later tells of a tick and a time-out is the sum where that is a tick, Never else, and two time-outs one behind the other are one. No conditions. -/
import Derived.Test.YtceeoifbimlkdaaPNumLaterx1
namespace Go.Proofs.Ytceeoifbimlkdaa.Pure
open Go.RowKit Go.Proofs.Ytceeoifbimlkdaa.PNumLater Go.Proofs.YtceeoifbimlkdaaW.PrintWords Go.Proofs.YtceeoifbimlkdaaW.PrintLast

theorem i64_bd {n : Int} (h : (Lit.int .i64 n).wf = true) : -9223372036854775808 ≤ n ∧ n ≤ 9223372036854775807 := by
  simp [Lit.wf, IntKind.min, IntKind.max, IntKind.signed, IntKind.bits] at h
  omega

theorem later_eq (t n : Int) (hn : -9223372036854775808 ≤ n ∧ n ≤ 9223372036854775807) :
    num_Later.f t n = some (if 0 ≤ t ∧ t < 1099511627776 ∧ 0 ≤ n ∧ n < 1099511627776 - t then t + n else -1) := by
  unfold num_Later.f wrap64
  repeat' split
  all_goals first | rfl | (exfalso; omega) | (congr 1; omega)

theorem add_eq (a b : Int) (ha : -9223372036854775808 ≤ a ∧ a ≤ 9223372036854775807) (hb : -9223372036854775808 ≤ b ∧ b ≤ 9223372036854775807) :
    num_Add.f a b = some (if -9223372036854775808 ≤ a + b ∧ a + b ≤ 9223372036854775807 then (a + b, true) else (0, false)) := by
  unfold num_Add.f wrap64
  by_cases h : -9223372036854775808 ≤ a + b ∧ a + b ≤ 9223372036854775807
  · rw [if_pos h]
    have e : (a + b + 9223372036854775808) % 18446744073709551616 - 9223372036854775808 = a + b := by omega
    rw [e]
    by_cases h0 : b = 0
    · subst h0; simp
    · rw [if_neg]; simp only [bne_iff_ne, ne_eq, decide_eq_decide]; omega
  · rw [if_neg h]
    rw [if_pos, if_neg (by omega)]
    simp only [bne_iff_ne, ne_eq, decide_eq_decide]; omega

theorem NumLater : bulkheadlaw01_NumLater.Pure := by
  intro a0 a1 a2 w0 w1 w2
  have h0 := i64_bd w0
  have h1 := i64_bd w1
  have h2 := i64_bd w2
  refine ⟨3, ?_⟩
  simp only [bulkheadlaw01_NumLater.f, bulkheadlaw01_NumLater.j0, bulkheadlaw01_NumLater.j1]
  rw [later_eq a0 a1 h1, later_eq 0 0 (by omega), add_eq a1 a2 h1 h2]
  simp only [Option.bind_some]
  by_cases c : 0 ≤ a0 ∧ a0 < 1099511627776 ∧ 0 ≤ a1 ∧ a1 < 1099511627776 - a0
  · rw [if_pos c, if_neg (by omega), if_neg (by omega), if_neg (by simp; omega), if_neg (by omega)]
    have e : wrap64 (a0 + a1) = a0 + a1 := by unfold wrap64; omega
    rw [e, if_neg (by simp; omega), if_pos rfl]
    by_cases d : a2 < 0
    · rw [if_pos d]
    · rw [if_neg d]
      by_cases s : -9223372036854775808 ≤ a1 + a2 ∧ a1 + a2 ≤ 9223372036854775807
      · simp only [if_pos s, if_true]
        rw [later_eq (a0 + a1) a2 h2, later_eq a0 (a1 + a2) (by omega)]
        simp only [Option.bind_some, Option.some.injEq, beq_iff_eq]
        by_cases q : 0 ≤ a0 + a1 ∧ a0 + a1 < 1099511627776 ∧ 0 ≤ a2 ∧ a2 < 1099511627776 - (a0 + a1)
        · rw [if_pos q, if_pos (by omega)]; omega
        · rw [if_neg q, if_neg (by omega)]
      · simp [if_neg s]
  · rw [if_neg c]
    by_cases c1 : a0 < 0
    · rw [if_pos c1]; simp
    · rw [if_neg c1]
      by_cases c2 : a0 ≥ 1099511627776
      · rw [if_pos c2]; simp
      · rw [if_neg c2]
        by_cases c3 : a1 < 0
        · rw [if_pos (by simpa using c3)]; simp
        · rw [if_neg (by simpa using c3)]
          by_cases c4 : a1 ≥ 1099511627776
          · rw [if_pos c4]; simp
          · rw [if_neg c4]
            have e : wrap64 (a0 + a1) ≥ 1099511627776 := by unfold wrap64; omega
            rw [if_pos (by simpa using e)]; simp

end Go.Proofs.Ytceeoifbimlkdaa.Pure
