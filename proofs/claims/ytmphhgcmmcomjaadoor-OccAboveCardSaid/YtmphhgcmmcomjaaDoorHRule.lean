/- Plain: the law's own choice among rests is the plain one; a rest is at most the budget; the rests of tick 0, and of the next tick. -/
import Derived.Test.YtmphhgcmmcomjaaDoorHRests
import Derived.Test.YtmphhgcmmcomjaaDoorHWorks
import Derived.Test.YtmphhgcmmcomjaaDoorHOpen
import Derived.Test.YtmphhgcmmcomjaaDoorBx2
import Derived.Test.YtmphhgcmmcomjaaDoorLx1
namespace Go.Proofs.YtmphhgcmmcomjaaDoor.Pure
open Go.Proofs.YtmphhgcmmcomjaaDoor.B
open Go.RowKit Go.Proofs.YtmphhgcmmcomjaaDoorW.PrintWords Go.Proofs.YtmphhgcmmcomjaaDoorW.PrintLast Go.Proofs.YtmphhgcmmcomjaaDoorW.PrintMore

theorem works_true : bulkheadlaw11_works.f = some true := by
  unfold bulkheadlaw11_works.f
  have e : ([(⟨5, 2, 4, 9⟩ : S30), (⟨10, 6, 0, 1⟩ : S30)] : List S30) = twoL := rfl
  simp only [e, Option.bind_some, two_18, two_8, two_4]
  simp

theorem rd_nat (l : List S30) (i : Nat) : rd_T30 l (i : Int) = l.getD i z30 := by simp [rd_T30]

theorem rd_rests (l : List S30) (T n i : Nat) (hi : i < n) : rd (restsL l T n) (i : Int) = (((sv l).R T i : Nat) : Int) := by
  simp [rd, restsL, hi]

theorem rests_ok {l : List S30} (h : (hypS lcmF l).2 = 0) (t : Nat) (ht : (t : Int) < 1099511627776) : occ_Rests.f l (t : Int) = some (restsL l t l.length, 0) := by
  unfold occ_Rests.f
  rw [if_pos h, if_neg (by omega), Int.toNat_natCast]

theorem chosen_loop (l : List S30) (hok : ∀ i, i < l.length → okAt l i = true) (h32 : l.length ≤ 32) (r : Nat → Nat) (xs : List Int) (hx : xs.length = l.length) (hr : ∀ i, i < l.length → rd xs (i : Int) = ((r i : Nat) : Int)) :
    ∀ (d i k : Nat), i + d = l.length → 2 * d + 2 ≤ k → bulkheadlaw11_chosen.l0 k l xs ((OccMath.chosen (sv l).pr r i : Nat) : Int) (i : Int) = some ((OccMath.chosen (sv l).pr r l.length : Nat) : Int) := by
  intro d
  induction d with
  | zero =>
    intro i k hi hk
    obtain ⟨k, rfl⟩ : ∃ m, k = m + 1 + 1 := ⟨k - 2, by omega⟩
    obtain rfl : i = l.length := by omega
    simp only [bulkheadlaw11_chosen.l0]
    rw [if_neg (by omega)]
    simp only [bulkheadlaw11_chosen.j1]
    rw [if_neg (by simp)]
  | succ d ih =>
    intro i k hi hk
    obtain ⟨k, rfl⟩ : ∃ m, k = m + 1 + 1 := ⟨k - 2, by omega⟩
    simp only [bulkheadlaw11_chosen.l0]
    rw [if_pos (by omega), decide_eq_true (by omega)]
    simp only [bulkheadlaw11_chosen.j1]
    have w1 : wrap64 ((i : Int) + 1) = ((i + 1 : Nat) : Int) := wr (by omega) (by omega)
    have hCi := OccMath.chosen_le (sv l).pr r i
    have hstep : OccMath.chosen (sv l).pr r (i + 1) = if 0 < r i ∧ (OccMath.chosen (sv l).pr r i = 0 ∨ (sv l).pr (OccMath.chosen (sv l).pr r i - 1) < (sv l).pr i) then i + 1 else OccMath.chosen (sv l).pr r i := rfl
    have ihh := ih (i + 1) k (by omega) (by omega)
    rw [hstep] at ihh
    generalize hC : OccMath.chosen (sv l).pr r i = C at *
    rw [if_pos trivial, if_pos (by omega), if_pos (by omega), hr i (by omega), w1]
    by_cases c1 : 0 < r i
    · rw [if_pos (by omega)]
      by_cases c2 : C = 0
      · subst c2
        rw [if_pos (show ((0 : Nat) : Int) = 0 from rfl)]
        rw [if_pos ⟨c1, .inl rfl⟩] at ihh
        exact ihh
      · rw [if_neg (by omega), if_pos (by omega), wr (x := (C : Int) - 1) (by omega) (by omega), if_pos (by omega), if_pos (by omega), show (C : Int) - 1 = ((C - 1 : Nat) : Int) by omega, rd_nat, rd_nat,
          (srv_at hok i (by omega)).2.2.2.1, (srv_at hok (C - 1) (by omega)).2.2.2.1]
        by_cases c3 : (sv l).pr (C - 1) < (sv l).pr i
        · rw [if_pos (by omega)]
          rw [if_pos ⟨c1, .inr c3⟩] at ihh
          exact ihh
        · rw [if_neg (by omega)]
          rw [if_neg (fun h => by omega)] at ihh
          exact ihh
    · rw [if_neg (by omega)]
      rw [if_neg (fun h => by omega)] at ihh
      exact ihh

theorem chosen_plain (l : List S30) (hok : ∀ i, i < l.length → okAt l i = true) (h32 : l.length ≤ 32) (T k : Nat) (hk : 70 ≤ k) : bulkheadlaw11_chosen.f k l (restsL l T l.length) = some (((sv l).occ T : Nat) : Int) := by
  unfold bulkheadlaw11_chosen.f
  exact chosen_loop l hok h32 ((sv l).R T) _ (restsL_length _ _ _) (fun i hi => rd_rests l T l.length i hi) l.length 0 k (by omega) (by omega)

theorem rest_le (S : OccMath.Sv) (i : Nat) : ∀ T, S.R T i ≤ S.b i
  | 0 => by
    show (if S.rel i 0 then S.b i else 0) ≤ _
    split <;> omega
  | T + 1 => by
    have ih := rest_le S i T
    show (if S.rel i (T + 1) then S.b i else S.R T i - _) ≤ _
    split <;> omega

theorem rest_first (S : OccMath.Sv) (i : Nat) : S.R 0 i = if S.o i = 0 then S.b i else 0 := by
  show (if S.rel i 0 then S.b i else 0) = _
  by_cases c : S.o i = 0
  · rw [if_pos c, if_pos ⟨by omega, by rw [Nat.zero_sub]; exact Nat.zero_mod _⟩]
  · rw [if_neg c, if_neg (fun h => by have := h.1; omega)]
end Go.Proofs.YtmphhgcmmcomjaaDoor.Pure
