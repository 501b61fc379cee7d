/- Proved: the law NumDivides answers true for every two numbers: a sum taken back, a product divided, a quotient and its rest put together again. No conditions. -/
import Derived.Test.YtceeoifbimlkdaaPNumDividesx2
namespace Go.Proofs.Ytceeoifbimlkdaa.Pure
open Go.RowKit Go.Proofs.Ytceeoifbimlkdaa.PNumDivides Go.Proofs.YtceeoifbimlkdaaW.PrintWords Go.Proofs.YtceeoifbimlkdaaW.PrintLast

theorem i64_bd {n : Int} (h : (Lit.int .i64 n).wf = true) : -9223372036854775808 ≤ n ∧ n ≤ 9223372036854775807 := by
  simp [Lit.wf, IntKind.min, IntKind.max, IntKind.signed, IntKind.bits] at h
  omega

def Fits (n : Int) : Prop := -9223372036854775808 ≤ n ∧ n ≤ 9223372036854775807
instance (n : Int) : Decidable (Fits n) := inferInstanceAs (Decidable (_ ∧ _))
theorem wrap_fits {n : Int} (h : Fits n) : wrap64 n = n := by unfold Fits at h; unfold wrap64; omega
theorem fits_wrap (n : Int) : Fits (wrap64 n) := by unfold Fits wrap64; omega

theorem add_eq (a b : Int) (ha : Fits a) (hb : Fits b) : num_Add.f a b = some (if Fits (a + b) then (a + b, true) else (0, false)) := by
  unfold num_Add.f
  by_cases h : Fits (a + b)
  · rw [if_pos h, wrap_fits h]
    by_cases h0 : b = 0
    · subst h0; simp
    · rw [if_neg]; simp only [bne_iff_ne, ne_eq, decide_eq_decide]; omega
  · rw [if_neg h]
    unfold Fits at *
    rw [if_pos, if_neg (by omega)]
    unfold wrap64
    simp only [bne_iff_ne, ne_eq, decide_eq_decide]; omega

theorem sub_eq (a b : Int) (ha : Fits a) (hb : Fits b) : num_Sub.f a b = some (if Fits (a - b) then (a - b, true) else (0, false)) := by
  unfold num_Sub.f
  by_cases h : Fits (a - b)
  · rw [if_pos h, wrap_fits h]
    by_cases h0 : b = 0
    · subst h0; simp
    · rw [if_neg]; simp only [bne_iff_ne, ne_eq, decide_eq_decide]; omega
  · rw [if_neg h]
    unfold Fits at *
    rw [if_pos, if_neg (by omega)]
    unfold wrap64
    simp only [bne_iff_ne, ne_eq, decide_eq_decide]; omega

theorem tmod_bd (c b : Int) (hb : b ≠ 0) : (Int.tmod c b).natAbs < b.natAbs := by
  rw [Int.natAbs_tmod]; exact Nat.mod_lt _ (by omega)
theorem tdiv_bd (c b : Int) : (Int.tdiv c b).natAbs ≤ c.natAbs := by
  rw [Int.natAbs_tdiv]; exact Nat.div_le_self _ _

theorem mul_eq (k : Nat) (a b : Int) (ha : Fits a) (hb : Fits b) : num_Mul.f (k + 2) a b = some (if Fits (a * b) then (a * b, true) else (0, false)) := by
  unfold num_Mul.f
  by_cases a0 : a = 0
  · subst a0; rw [if_pos rfl]; simp only [num_Mul.j0, if_true, Int.zero_mul]; rw [if_pos (by unfold Fits; omega)]
  by_cases b0 : b = 0
  · subst b0; rw [if_neg a0]; simp only [num_Mul.j0]; rw [if_pos (by rfl), Int.mul_zero, if_pos (by unfold Fits; omega)]
  rw [if_neg a0]
  simp only [num_Mul.j0]
  rw [if_neg (by simpa using b0)]
  -- the two products that are 2^63
  have big : ∀ (x y : Int), x = -1 → y = -9223372036854775808 → ¬ Fits (x * y) ∧ ¬ Fits (y * x) := by
    intro x y hx hy; subst hx; subst hy; unfold Fits; omega
  have yes : num_Mul.j1 (k + 1) a b true = some (0, false) := by simp only [num_Mul.j1, if_true]
  have no : ¬ ((a = -1 ∧ b = -9223372036854775808) ∨ (b = -1 ∧ a = -9223372036854775808)) → num_Mul.j1 (k + 1) a b false = some (if Fits (a * b) then (a * b, true) else (0, false)) := by
    intro hn
    simp only [num_Mul.j1]
    rw [if_neg (by simp), if_neg b0]
    by_cases f : Fits (a * b)
    · rw [if_pos f, wrap_fits f, Int.mul_tdiv_cancel _ b0, wrap_fits ha, if_pos rfl]
    · rw [if_neg f, if_neg]
      intro e
      have cf := fits_wrap (a * b)
      have hm := Int.mul_tdiv_add_tmod (wrap64 (a * b)) b
      have b1 := tmod_bd (wrap64 (a * b)) b b0
      have b2 := tdiv_bd (wrap64 (a * b)) b
      have same : ∃ j : Int, wrap64 (a * b) = a * b + j * 18446744073709551616 := ⟨-((a * b + 9223372036854775808) / 18446744073709551616), by unfold wrap64; omega⟩
      obtain ⟨j, hj⟩ := same
      by_cases g : Fits (Int.tdiv (wrap64 (a * b)) b)
      · rw [wrap_fits g] at e
        rw [e, Int.mul_comm b a] at hm
        unfold Fits at *; omega
      · have c1 : wrap64 (a * b) = -9223372036854775808 := by unfold Fits at *; omega
        have c2 : Int.tdiv (wrap64 (a * b)) b = 9223372036854775808 := by unfold Fits at *; omega
        rw [c2] at e hm
        have a1 : a = -9223372036854775808 := by unfold wrap64 at e; omega
        have : b = -1 := by rw [c1] at hm b1; unfold Fits at *; omega
        exact hn (.inr ⟨this, a1⟩)
  by_cases c1 : a = -1
  · rw [if_pos c1]
    by_cases c2 : b = -9223372036854775808
    · rw [if_pos c2, yes, if_neg (big a b c1 c2).1]
    · rw [if_neg c2]
      have e : (a == -9223372036854775808) = false := by simp; omega
      rw [e]
      have : num_Mul.j1 (k + 1) a b false = some (if Fits (a * b) then (a * b, true) else (0, false)) := no (by omega)
      split <;> exact this
  · rw [if_neg c1]
    by_cases c2 : b = -1
    · rw [if_pos c2]
      by_cases c3 : a = -9223372036854775808
      · rw [show (a == -9223372036854775808) = true by simpa using c3, yes, if_neg (big b a c2 c3).2]
      · rw [show (a == -9223372036854775808) = false by simpa using c3]; exact no (by omega)
    · rw [if_neg c2]; exact no (by omega)

/-- The quotient and the rest: what Div tells. -/
theorem div_eq (k : Nat) (a b : Int) (ha : Fits a) (hb : Fits b) (b0 : b ≠ 0) (hm : ¬ (a = -9223372036854775808 ∧ b = -1)) :
    ∃ q r : Int, num_Div.f (k + 1) a b = some (q, r, true) ∧ q * b + r = a ∧ 0 ≤ r ∧ r < b.natAbs ∧ (Int.tmod a b = 0 → q = Int.tdiv a b ∧ r = 0) := by
  have e : num_Div.f (k + 1) a b = num_Div.j0 (k + 1) a b false := by
    unfold num_Div.f
    rw [if_neg b0]
    split
    · rw [show (b == -1) = false by simp; omega]
    · rfl
  have hm' := Int.mul_tdiv_add_tmod a b
  have b1 := tmod_bd a b b0
  have b2 := tdiv_bd a b
  rw [Int.mul_comm] at hm'
  rw [e]
  simp only [num_Div.j0]
  rw [if_neg (by simp), if_neg b0]
  have qf : Fits (Int.tdiv a b) := by
    unfold Fits at *
    by_cases c : Int.tdiv a b = 9223372036854775808
    · exfalso
      have : a = -9223372036854775808 := by omega
      have : b = -1 := by rw [c] at hm'; omega
      exact hm ⟨by assumption, this⟩
    · omega
  rw [wrap_fits qf]
  by_cases c : Int.tmod a b < 0
  · rw [if_pos c]
    by_cases d : b > 0
    · rw [if_pos d]
      have w1 : Fits (Int.tmod a b + b) := by unfold Fits at *; omega
      have w2 : Fits (Int.tdiv a b - 1) := by
        unfold Fits at *
        have : Int.tdiv a b ≠ -9223372036854775808 := by
          intro h
          rw [h] at hm'
          omega
        omega
      rw [wrap_fits w1, wrap_fits w2]
      refine ⟨_, _, rfl, ?_, by omega, by omega, fun h => by omega⟩
      rw [Int.sub_mul]; omega
    · rw [if_neg d]
      have w1 : Fits (Int.tmod a b - b) := by unfold Fits at *; omega
      have w2 : Fits (Int.tdiv a b + 1) := by
        unfold Fits at *
        have : Int.tdiv a b ≠ 9223372036854775807 := by
          intro h
          rw [h] at hm'
          omega
        omega
      rw [wrap_fits w1, wrap_fits w2]
      refine ⟨_, _, rfl, ?_, by omega, by omega, fun h => by omega⟩
      rw [Int.add_mul]; omega
  · rw [if_neg c]
    exact ⟨_, _, rfl, hm', by omega, by omega, fun h => ⟨rfl, h⟩⟩

theorem div_bad (k : Nat) (a b : Int) (h : b = 0 ∨ (a = -9223372036854775808 ∧ b = -1)) : num_Div.f (k + 1) a b = some (0, 0, false) := by
  unfold num_Div.f
  by_cases c : b = 0
  · rw [if_pos c]; simp only [num_Div.j0, if_true]
  · rw [if_neg c, if_pos (by omega)]; simp only [num_Div.j0]; rw [if_pos (by simp; omega)]

/-- The last test of the law: quotient and rest of a by b. -/
theorem j4_holds (k : Nat) (a b : Int) (ha : Fits a) (hb : Fits b) : bulkheadlaw01_NumDivides.j4 (k + 2) a b false = some true := by
  simp only [bulkheadlaw01_NumDivides.j4]
  rw [if_neg (by simp)]
  by_cases bad : b = 0 ∨ (a = -9223372036854775808 ∧ b = -1)
  · rw [div_bad k a b bad]
    simp only [Option.bind_some, Bool.false_eq_true, if_false]
    by_cases c : b = 0
    · rw [if_pos c]
    · rw [if_neg c, if_pos (by omega)]; simp; omega
  · obtain ⟨q, r, e, hq, h0, h1, -⟩ := div_eq k a b ha hb (by omega) (by omega)
    rw [e]
    simp only [Option.bind_some, if_true]
    have w : wrap64 (wrap64 (q * b) + r) = a := by unfold Fits at *; unfold wrap64; omega
    have nb : b < 0 → wrap64 (-b) = -b ∨ b = -9223372036854775808 := by unfold Fits at *; unfold wrap64; omega
    rw [if_neg (by omega), if_pos (by omega), w]
    by_cases c : b < 0
    · rw [if_pos c, if_neg (by omega)]
      rcases nb c with h | h
      · rw [if_pos (by omega)]; simp
      · rw [if_pos h]; simp
    · rw [if_neg c, if_pos (by omega), if_pos (by omega)]; simp

theorem j3_holds (k : Nat) (a b p : Int) (t : Bool) (ha : Fits a) (hb : Fits b) (ht : t = true → b ≠ 0 ∧ p = a * b ∧ Fits p) : bulkheadlaw01_NumDivides.j3 (k + 3) a b p t = some true := by
  cases t with
  | false =>
    have := j4_holds (k + 1) a b ha hb
    simp only [bulkheadlaw01_NumDivides.j4] at this
    simp only [bulkheadlaw01_NumDivides.j3]
    exact this
  | true =>
    obtain ⟨b0, rfl, hp⟩ := ht rfl
    simp only [bulkheadlaw01_NumDivides.j3, if_true]
    have bad : ¬ (a * b = -9223372036854775808 ∧ b = -1) := by
      rintro ⟨h, rfl⟩; unfold Fits at *; omega
    obtain ⟨q, r, e, -, -, -, h⟩ := div_eq (k + 1) (a * b) b hp hb b0 bad
    obtain ⟨rfl, rfl⟩ := h (Int.mul_tmod_left _ _)
    rw [e]
    simp only [Option.bind_some, if_true]
    rw [Int.mul_tdiv_cancel _ b0, if_pos rfl]
    exact j4_holds k a b ha hb

theorem j1_holds (k : Nat) (a b : Int) (ha : Fits a) (hb : Fits b) : bulkheadlaw01_NumDivides.j1 (k + 5) a b = some true := by
  simp only [bulkheadlaw01_NumDivides.j1]
  rw [mul_eq (k + 2) a b ha hb, mul_eq (k + 2) b a hb ha, Int.mul_comm b a]
  simp only [Option.bind_some, if_true, bne_self_eq_false]
  simp only [bulkheadlaw01_NumDivides.j2]
  rw [if_neg (by simp)]
  by_cases f : Fits (a * b)
  · rw [if_pos f]
    simp only [if_true]
    refine j3_holds k a b _ _ ha hb fun h => ⟨by simpa using h, rfl, f⟩
  · rw [if_neg f]
    simp only [Bool.false_eq_true, if_false]
    exact j3_holds k a b _ _ ha hb fun h => by cases h

theorem NumDivides : bulkheadlaw01_NumDivides.Pure := by
  intro a b w0 w1
  have ha : Fits a := i64_bd w0
  have hb : Fits b := i64_bd w1
  refine ⟨6, ?_⟩
  unfold bulkheadlaw01_NumDivides.f
  rw [add_eq a b ha hb, add_eq b a hb ha, Int.add_comm b a]
  simp only [Option.bind_some, if_true, bne_self_eq_false]
  simp only [bulkheadlaw01_NumDivides.j0]
  rw [if_neg (by simp)]
  by_cases f : Fits (a + b)
  · rw [if_pos f]
    simp only [if_true]
    have : Fits (a + b - b) := by rw [Int.add_sub_cancel]; exact ha
    rw [sub_eq (a + b) b f hb, if_pos this, Int.add_sub_cancel]
    simp only [Option.bind_some, if_true]
    exact j1_holds 0 a b ha hb
  · rw [if_neg f]
    simp only [Bool.false_eq_true, if_false]
    exact j1_holds 0 a b ha hb

end Go.Proofs.Ytceeoifbimlkdaa.Pure
