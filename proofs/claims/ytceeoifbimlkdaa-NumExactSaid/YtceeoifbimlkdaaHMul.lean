/- Proved: what bulkheadref01.Mul answers of any two int64: the product, where it is one. No conditions. -/
import Derived.Test.YtceeoifbimlkdaaAx1
import Derived.Test.YtceeoifbimlkdaaAx1
import Derived.IntWalk
import Derived.Outline
namespace Go.Proofs.Ytceeoifbimlkdaa.B
open Go.RowKit Go.Proofs.YtceeoifbimlkdaaW.PrintWords Go.Proofs.YtceeoifbimlkdaaW.PrintLast Go.Proofs.YtceeoifbimlkdaaW.PrintMore

def FitsM (n : Int) : Prop := -9223372036854775808 ≤ n ∧ n ≤ 9223372036854775807
instance (n : Int) : Decidable (FitsM n) := inferInstanceAs (Decidable (_ ∧ _))

theorem u64_wrap (n : Int) (h : 0 ≤ n ∧ n ≤ 18446744073709551615) : IntKind.u64.wrap n = n := by
  simp only [IntKind.wrap, IntKind.signed, IntKind.bits]
  obtain ⟨h1, h2⟩ := h
  simp; omega

theorem away_eq (a : Int) (h : FitsM a) : bulkheadref01_away.f a = some (a.natAbs : Int) := by
  obtain ⟨h1, h2⟩ := h
  unfold bulkheadref01_away.f
  by_cases c : a < 0
  · have e1 : wrap64 (a + 1) = a + 1 := by unfold wrap64; omega
    have e2 : wrap64 (-(a + 1)) = -(a + 1) := by unfold wrap64; omega
    rw [if_pos c, e1, e2, u64_wrap (-(a + 1)) (by omega), u64_wrap _ (by omega)]; congr 1; omega
  · rw [if_neg c, u64_wrap a (by omega)]; congr 1; omega

theorem away_is (a : Int) (h : FitsM a) (w : World) : Calls Try.prog 132 #[.int .i64 a] w fun e w' => e = .returned (.int .u64 (a.natAbs : Int)) ∧ Drawn0 w w' :=
  bulkheadref01_away.calls a _ w (away_eq a h)

theorem signed_eq (s : Bool) (d : Int) (h : 0 ≤ d ∧ d ≤ 9223372036854775808) : bulkheadref01_signed.f s d = some (if s = true then (-d, true) else if d ≤ 9223372036854775807 then (d, true) else (0, false)) := by
  obtain ⟨h1, h2⟩ := h
  unfold bulkheadref01_signed.f
  cases s with
  | true =>
    simp only [if_true]
    rw [if_neg (by omega)]
    by_cases c : d = 9223372036854775808
    · subst c; rfl
    · have e : wrap64 d = d := by unfold wrap64; omega
      have e2 : wrap64 (-d) = -d := by unfold wrap64; omega
      rw [if_neg c, e, e2]
  | false =>
    simp only [Bool.false_eq_true, if_false]
    by_cases c : d ≤ 9223372036854775807
    · have e : wrap64 d = d := by unfold wrap64; omega
      rw [if_neg (by omega), if_pos c, e]
    · rw [if_pos (by omega), if_neg c]

def bulkheadref01_Mul.f (a b : Int) : Option (Int × Bool) := if FitsM a ∧ FitsM b then some (if FitsM (a * b) then (a * b, true) else (0, false)) else none

theorem mul_abs (a b : Int) : ((a.natAbs : Int) * (b.natAbs : Int)) = ((a * b).natAbs : Int) := by rw [Int.natAbs_mul, Int.natCast_mul]

set_option maxHeartbeats 4000000 in
set_option maxRecDepth 100000 in
theorem bulkheadref01_Mul.calls (a0 : Int) (a1 : Int) (r1 : Int) (r2 : Bool) (w : World) (h : bulkheadref01_Mul.f a0 a1 = some (r1, r2)) :
    Calls Try.prog 105 #[.int .i64 a0, .int .i64 a1] w fun e w' => e = .returned (.tuple #[.int .i64 r1, .bool r2]) ∧ Drawn0 w w' := by
  unfold bulkheadref01_Mul.f at h
  by_cases hf : FitsM a0 ∧ FitsM a1
  case neg => rw [if_neg hf] at h; cases h
  rw [if_pos hf] at h
  obtain ⟨fa, fb⟩ := hf
  have FA := Aside0.mk fa
  have FB := Aside0.mk fb
  have la : (a0.natAbs : Int) ≤ 9223372036854775808 := by obtain ⟨_, _⟩ := fa; omega
  have lb : (a1.natAbs : Int) ≤ 9223372036854775808 := by obtain ⟨_, _⟩ := fb; omega
  have mab := mul_abs a0 a1
  have sgn : ((decide (a0 < 0)) != (decide (a1 < 0))) = true → a0 * a1 ≤ 0 := by
    intro s
    by_cases c : a0 < 0
    · have : ¬ a1 < 0 := by intro d; simp [c, d] at s
      exact Int.mul_nonpos_of_nonpos_of_nonneg (by omega) (by omega)
    · have : a1 < 0 := by apply Classical.byContradiction; intro d; simp [c, d] at s
      exact Int.mul_nonpos_of_nonneg_of_nonpos (by omega) (by omega)
  have sgn2 : ((decide (a0 < 0)) != (decide (a1 < 0))) = false → 0 ≤ a0 * a1 := by
    intro s
    by_cases c : a0 < 0
    · have : a1 < 0 := by apply Classical.byContradiction; intro d; simp [c, d] at s
      exact Int.mul_nonneg_of_nonpos_of_nonpos (by omega) (by omega)
    · have : ¬ a1 < 0 := by intro d; simp [c, d] at s
      exact Int.mul_nonneg (by omega) (by omega)
  -- the test: more than 2^63 by the quotient just if by the product
  have test : 0 < (a0.natAbs : Int) → ((9223372036854775808 : Int) / (a0.natAbs : Int) < (a1.natAbs : Int) ↔ 9223372036854775808 < (a0.natAbs : Int) * (a1.natAbs : Int)) := by
    intro hp
    have key := Int.le_ediv_iff_mul_le (a := (a1.natAbs : Int)) (b := 9223372036854775808) (c := (a0.natAbs : Int)) hp
    rw [Int.mul_comm]
    generalize (9223372036854775808 : Int) / (a0.natAbs : Int) = q at *
    generalize (a1.natAbs : Int) * (a0.natAbs : Int) = m at *
    omega
  have qb : 0 ≤ (9223372036854775808 : Int) / (a0.natAbs : Int) ∧ (9223372036854775808 : Int) / (a0.natAbs : Int) ≤ 9223372036854775808 := ⟨Int.ediv_nonneg (by omega) (by omega), Int.ediv_le_self _ (by omega)⟩
  have hw0 : (a0.natAbs : Int) * (a1.natAbs : Int) ≤ 9223372036854775808 → IntKind.u64.wrap ((a0.natAbs : Int) * (a1.natAbs : Int)) = (a0.natAbs : Int) * (a1.natAbs : Int) := fun hle => u64_wrap _ ⟨by rw [mab]; omega, by omega⟩
  have hq0 : IntKind.u64.wrap ((9223372036854775808 : Int) / (a0.natAbs : Int)) = (9223372036854775808 : Int) / (a0.natAbs : Int) := u64_wrap _ ⟨qb.1, by omega⟩
  obtain ⟨x, hx⟩ : ∃ x : Int, (a0.natAbs : Int) = x := ⟨_, rfl⟩
  obtain ⟨y, hy⟩ : ∃ y : Int, (a1.natAbs : Int) = y := ⟨_, rfl⟩
  have AX : ∀ w, Calls Try.prog 132 #[.int .i64 a0] w fun e w' => e = .returned (.int .u64 x) ∧ Drawn0 w w' := fun w => by rw [← hx]; exact away_is a0 fa w
  have AY : ∀ w, Calls Try.prog 132 #[.int .i64 a1] w fun e w' => e = .returned (.int .u64 y) ∧ Drawn0 w w' := fun w => by rw [← hy]; exact away_is a1 fb w
  have x0 : 0 ≤ x := by omega
  have y0 : 0 ≤ y := by omega
  rw [hx] at la mab test qb hw0 hq0
  rw [hy] at lb mab test hw0
  obtain ⟨q, hq⟩ : ∃ q : Int, (9223372036854775808 : Int) / x = q := ⟨_, rfl⟩
  have HAX := Aside0.mk AX
  have HAY := Aside0.mk AY
  have HQ0 := Aside0.mk hq0
  have HW0 := Aside0.mk hw0
  have HT := Aside0.mk test
  have HSG := Aside0.mk sgn
  have HSG2 := Aside0.mk sgn2
  have HM := Aside0.mk mab
  have HH := Aside0.mk h
  have HX := Aside0.mk hx
  clear AX AY hq0 hw0 test sgn sgn2 mab h hx hy fa fb hq qb
  have toN : ∀ z : Int, ((z.natAbs : Int) ≤ 9223372036854775807 → FitsM z) ∧ (9223372036854775808 < (z.natAbs : Int) → ¬ FitsM z) := by
    intro z; unfold FitsM; omega
  by_cases z : x = 0
  · -- nothing
    have hz0 : a0 = 0 := by have := HX.out; omega
    have hr : r1 = 0 ∧ r2 = true := by
      have h := HH.out
      rw [hz0, Int.zero_mul, if_pos (by unfold FitsM; omega)] at h
      simp only [Option.some.injEq, Prod.mk.injEq] at h; exact ⟨h.1.symm, h.2.symm⟩
    obtain ⟨rfl, rfl⟩ := hr
    subst z
    subst hz0
    have hsg : bulkheadref01_signed.f false 0 = some (0, true) := by rw [signed_eq _ _ (by omega)]; rfl
    have HSS := Aside0.mk hsg
    clear hsg toN
    cases hb : decide (a1 < 0) with
    | true =>
      go_enter Try.func105, Try.ntmps105
      go_wp2_with (first | (go_at_call 132; (with_reducible refine (HAX.out _).mono ?_); rintro e w' ⟨rfl, ⟨nd, rfl⟩⟩) | (go_at_call 132; (with_reducible refine (HAY.out _).mono ?_); rintro e w' ⟨rfl, ⟨nd, rfl⟩⟩) | (go_at_call 133; (with_reducible refine (bulkheadref01_signed.calls _ _ _ _ _ HSS.out).mono ?_); rintro e w' ⟨rfl, ⟨nd, rfl⟩⟩))
      go_ret2
      exact ⟨rfl, by repeat (first | exact Drawn0.refl _ | apply Drawn0.step)⟩
    | false =>
      go_enter Try.func105, Try.ntmps105
      go_wp2_with (first | (go_at_call 132; (with_reducible refine (HAX.out _).mono ?_); rintro e w' ⟨rfl, ⟨nd, rfl⟩⟩) | (go_at_call 132; (with_reducible refine (HAY.out _).mono ?_); rintro e w' ⟨rfl, ⟨nd, rfl⟩⟩) | (go_at_call 133; (with_reducible refine (bulkheadref01_signed.calls _ _ _ _ _ HSS.out).mono ?_); rintro e w' ⟨rfl, ⟨nd, rfl⟩⟩))
      go_ret2
      exact ⟨rfl, by repeat (first | exact Drawn0.refl _ | apply Drawn0.step)⟩
  · by_cases big : (9223372036854775808 : Int) / x < y
    · have hr : r1 = 0 ∧ r2 = false := by
        have h := HH.out
        have t := (HT.out (by omega)).1 big
        rw [HM.out] at t
        rw [if_neg ((toN _).2 t)] at h
        simp only [Option.some.injEq, Prod.mk.injEq] at h; exact ⟨h.1.symm, h.2.symm⟩
      obtain ⟨rfl, rfl⟩ := hr
      have hxne : (x != 0) = true := by simpa using z
      have hxz : (x == 0) = false := by simpa using z
      have hd : decide ((9223372036854775808 : Int) / x < y) = true := decide_eq_true big
      have hq0 := HQ0.out
      clear big toN
      go_enter Try.func105, Try.ntmps105
      go_wp2_with (first | (go_at_call 132; (with_reducible refine (HAX.out _).mono ?_); rintro e w' ⟨rfl, ⟨nd, rfl⟩⟩) | (go_at_call 132; (with_reducible refine (HAY.out _).mono ?_); rintro e w' ⟨rfl, ⟨nd, rfl⟩⟩))
      go_ret2
      exact ⟨rfl, by repeat (first | exact Drawn0.refl _ | apply Drawn0.step)⟩
    · have hle : x * y ≤ 9223372036854775808 := by
        have t := HT.out (by omega)
        apply Classical.byContradiction
        intro c; exact big (t.2 (by omega))
      have hxy0 : 0 ≤ x * y := by rw [HM.out]; omega
      have hxne : (x != 0) = true := by simpa using z
      have hxz : (x == 0) = false := by simpa using z
      have hd : decide ((9223372036854775808 : Int) / x < y) = false := decide_eq_false big
      have hq0 := HQ0.out
      have hw0 := HW0.out hle
      have hM := HM.out
      have hsame := HSG2.out
      have hdiff := HSG.out
      have key : (((decide (a0 < 0)) != (decide (a1 < 0))) = false → bulkheadref01_signed.f false (x * y) = some (r1, r2)) ∧
          (((decide (a0 < 0)) != (decide (a1 < 0))) = true → bulkheadref01_signed.f (x * y != 0) (x * y) = some (r1, r2)) := by
        have h := HH.out
        constructor
        · intro s
          have s1 := hsame s
          rw [signed_eq _ _ ⟨hxy0, hle⟩, ← h]
          simp only [Bool.false_eq_true, if_false]
          by_cases c : x * y ≤ 9223372036854775807
          · rw [if_pos c, if_pos ((toN _).1 (by omega))]; congr 2; omega
          · rw [if_neg c, if_neg (by unfold FitsM; omega)]
        · intro s
          have s1 := hdiff s
          rw [signed_eq _ _ ⟨hxy0, hle⟩, ← h]
          by_cases c : x * y = 0
          · rw [if_neg (by simp [c]), if_pos (by omega), if_pos (by unfold FitsM; omega)]; congr 2; omega
          · rw [if_pos (by simpa using c), if_pos (by unfold FitsM; omega)]; congr 2; omega
      obtain ⟨k1, k2⟩ := key
      have hp : ((x * y != 0) = true ∧ (x * y == 0) = false) ∨ ((x * y != 0) = false ∧ (x * y == 0) = true) := by
        by_cases c : x * y = 0
        · right; simp [c]
        · left; simp [c]
      clear hle hxy0 big toN hM hsame hdiff HT HH HM HSG HSG2
      cases ha : decide (a0 < 0) <;> cases hb : decide (a1 < 0)
      · have HSS := Aside0.mk (k1 (by rw [ha, hb]; rfl))
        clear k1 k2 hp
        go_enter Try.func105, Try.ntmps105
        go_wp2_with (first | (go_at_call 132; (with_reducible refine (HAX.out _).mono ?_); rintro e w' ⟨rfl, ⟨nd, rfl⟩⟩) | (go_at_call 132; (with_reducible refine (HAY.out _).mono ?_); rintro e w' ⟨rfl, ⟨nd, rfl⟩⟩) | (go_at_call 133; (with_reducible refine (bulkheadref01_signed.calls _ _ _ _ _ HSS.out).mono ?_); rintro e w' ⟨rfl, ⟨nd, rfl⟩⟩))
        (go_ret2; exact ⟨rfl, by repeat (first | exact Drawn0.refl _ | apply Drawn0.step)⟩)
      · have HSS := Aside0.mk (k2 (by rw [ha, hb]; rfl))
        clear k1 k2
        rcases hp with ⟨p1, p2⟩ | ⟨p1, p2⟩
        · rw [p1] at HSS
          go_enter Try.func105, Try.ntmps105
          go_wp2_with (first | (go_at_call 132; (with_reducible refine (HAX.out _).mono ?_); rintro e w' ⟨rfl, ⟨nd, rfl⟩⟩) | (go_at_call 132; (with_reducible refine (HAY.out _).mono ?_); rintro e w' ⟨rfl, ⟨nd, rfl⟩⟩) | (go_at_call 133; (with_reducible refine (bulkheadref01_signed.calls _ _ _ _ _ HSS.out).mono ?_); rintro e w' ⟨rfl, ⟨nd, rfl⟩⟩))
          (go_ret2; exact ⟨rfl, by repeat (first | exact Drawn0.refl _ | apply Drawn0.step)⟩)
        · rw [p1] at HSS
          go_enter Try.func105, Try.ntmps105
          go_wp2_with (first | (go_at_call 132; (with_reducible refine (HAX.out _).mono ?_); rintro e w' ⟨rfl, ⟨nd, rfl⟩⟩) | (go_at_call 132; (with_reducible refine (HAY.out _).mono ?_); rintro e w' ⟨rfl, ⟨nd, rfl⟩⟩) | (go_at_call 133; (with_reducible refine (bulkheadref01_signed.calls _ _ _ _ _ HSS.out).mono ?_); rintro e w' ⟨rfl, ⟨nd, rfl⟩⟩))
          (go_ret2; exact ⟨rfl, by repeat (first | exact Drawn0.refl _ | apply Drawn0.step)⟩)
      · have HSS := Aside0.mk (k2 (by rw [ha, hb]; rfl))
        clear k1 k2
        rcases hp with ⟨p1, p2⟩ | ⟨p1, p2⟩
        · rw [p1] at HSS
          go_enter Try.func105, Try.ntmps105
          go_wp2_with (first | (go_at_call 132; (with_reducible refine (HAX.out _).mono ?_); rintro e w' ⟨rfl, ⟨nd, rfl⟩⟩) | (go_at_call 132; (with_reducible refine (HAY.out _).mono ?_); rintro e w' ⟨rfl, ⟨nd, rfl⟩⟩) | (go_at_call 133; (with_reducible refine (bulkheadref01_signed.calls _ _ _ _ _ HSS.out).mono ?_); rintro e w' ⟨rfl, ⟨nd, rfl⟩⟩))
          (go_ret2; exact ⟨rfl, by repeat (first | exact Drawn0.refl _ | apply Drawn0.step)⟩)
        · rw [p1] at HSS
          go_enter Try.func105, Try.ntmps105
          go_wp2_with (first | (go_at_call 132; (with_reducible refine (HAX.out _).mono ?_); rintro e w' ⟨rfl, ⟨nd, rfl⟩⟩) | (go_at_call 132; (with_reducible refine (HAY.out _).mono ?_); rintro e w' ⟨rfl, ⟨nd, rfl⟩⟩) | (go_at_call 133; (with_reducible refine (bulkheadref01_signed.calls _ _ _ _ _ HSS.out).mono ?_); rintro e w' ⟨rfl, ⟨nd, rfl⟩⟩))
          (go_ret2; exact ⟨rfl, by repeat (first | exact Drawn0.refl _ | apply Drawn0.step)⟩)
      · have HSS := Aside0.mk (k1 (by rw [ha, hb]; rfl))
        clear k1 k2 hp
        go_enter Try.func105, Try.ntmps105
        go_wp2_with (first | (go_at_call 132; (with_reducible refine (HAX.out _).mono ?_); rintro e w' ⟨rfl, ⟨nd, rfl⟩⟩) | (go_at_call 132; (with_reducible refine (HAY.out _).mono ?_); rintro e w' ⟨rfl, ⟨nd, rfl⟩⟩) | (go_at_call 133; (with_reducible refine (bulkheadref01_signed.calls _ _ _ _ _ HSS.out).mono ?_); rintro e w' ⟨rfl, ⟨nd, rfl⟩⟩))
        (go_ret2; exact ⟨rfl, by repeat (first | exact Drawn0.refl _ | apply Drawn0.step)⟩)
end Go.Proofs.Ytceeoifbimlkdaa.B
