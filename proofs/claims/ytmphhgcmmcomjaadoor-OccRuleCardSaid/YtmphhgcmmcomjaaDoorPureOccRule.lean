/- The law OccRule, plainly: rests and occupant of each tick follow from those of the tick ahead. -/
import Derived.Test.YtmphhgcmmcomjaaDoorNx2
import Derived.Test.YtmphhgcmmcomjaaDoorHRule
namespace Go.Proofs.YtmphhgcmmcomjaaDoor.Pure
open Go.Proofs.YtmphhgcmmcomjaaDoor.B
open Go.RowKit Go.Proofs.YtmphhgcmmcomjaaDoorW.PrintWords Go.Proofs.YtmphhgcmmcomjaaDoorW.PrintLast Go.Proofs.YtmphhgcmmcomjaaDoorW.PrintMore

theorem rule_loop (l : List S30) (hok : ∀ i, i < l.length → okAt l i = true) (h32 : l.length ≤ 32) (T : Nat) (hT : (T : Int) < 1099511627775) :
    ∀ (d i k : Nat), i + d = l.length → 4 * d + 1 ≤ k → bulkheadlaw11_OccRule.l0 k l (T : Int) (restsL l 0 l.length) (restsL l T l.length) (restsL l (T + 1) l.length) (((sv l).occ T : Nat) : Int) (i : Int) = some true := by
  intro d
  induction d with
  | zero =>
    intro i k hi hk
    obtain ⟨k, rfl⟩ : ∃ m, k = m + 1 := ⟨k - 1, by omega⟩
    simp only [bulkheadlaw11_OccRule.l0]
    rw [if_neg (by omega)]
    simp [works_true]
  | succ d ih =>
    intro i k hi hk
    obtain ⟨k, rfl⟩ : ∃ m, k = m + 1 + 1 + 1 + 1 := ⟨k - 4, by omega⟩
    have hil : i < l.length := by omega
    have ihh := ih (i + 1) k (by omega) (by omega)
    have w1 : wrap64 ((i : Int) + 1) = ((i + 1 : Nat) : Int) := wr (by omega) (by omega)
    obtain ⟨s0, s1, s2, s3, p1, p2, b1, b2, o1, o2⟩ := srv_at hok i hil
    have hR := rest_le (sv l) i T
    have hF := rest_first (sv l) i
    have hN : (sv l).R (T + 1) i = if (sv l).rel i (T + 1) then (sv l).b i else (sv l).R T i - (if (sv l).occ T = i + 1 then 1 else 0) := rfl
    have hpos : (sv l).occ T = i + 1 → 0 < (sv l).R T i := fun e => by
      have := OccMath.chosen_pos (sv l).pr ((sv l).R T) (sv l).n (show 0 < (sv l).occ T by omega)
      have e' : OccMath.chosen (sv l).pr ((sv l).R T) (sv l).n = i + 1 := e
      rw [e', Nat.add_sub_cancel] at this
      exact this
    -- the last step, whatever is wanted
    have e5 : ∀ (want : Int) (x157 : Bool) (f0 f2 f3 : Int), (x157 = true ↔ (sv l).rel i (T + 1)) → (¬ (sv l).rel i (T + 1) → want = (((sv l).R (T + 1) i : Nat) : Int)) →
        bulkheadlaw11_OccRule.j5 (k + 1) l (T : Int) (restsL l 0 l.length) (restsL l T l.length) (restsL l (T + 1) l.length) (((sv l).occ T : Nat) : Int) (i : Int) want x157 f0 (((sv l).b i : Nat) : Int) f2 f3 = some true := by
      intro want x157 f0 f2 f3 h1 h2
      simp only [bulkheadlaw11_OccRule.j5]
      by_cases c : (sv l).rel i (T + 1)
      · rw [if_pos (h1.2 c), if_pos (by omega : (0 : Int) ≤ (i : Int)), if_pos (by rw [restsL_length]; omega), rd_rests l (T + 1) l.length i hil, w1, if_pos (by rw [hN, if_pos c])]; exact ihh
      · rw [if_neg (fun e => c (h1.1 e)), if_pos (by omega : (0 : Int) ≤ (i : Int)), if_pos (by rw [restsL_length]; omega), rd_rests l (T + 1) l.length i hil, w1, if_pos (h2 c).symm]; exact ihh
    -- is it released at the next tick?
    have e4 : ∀ (want : Int) (f3 : Int), (¬ (sv l).rel i (T + 1) → want = (((sv l).R (T + 1) i : Nat) : Int)) →
        bulkheadlaw11_OccRule.j4 (k + 1 + 1) l (T : Int) (restsL l 0 l.length) (restsL l T l.length) (restsL l (T + 1) l.length) (((sv l).occ T : Nat) : Int) (i : Int) want (((sv l).p i : Nat) : Int) (((sv l).b i : Nat) : Int) (((sv l).o i : Nat) : Int) f3 = some true := by
      intro want f3 h2
      simp only [bulkheadlaw11_OccRule.j4]
      rw [wr (x := (T : Int) + 1) (by omega) (by omega)]
      by_cases c : (sv l).o i ≤ T + 1
      · rw [if_pos (by omega), if_neg (by omega), wr (x := (T : Int) + 1 - (((sv l).o i : Nat) : Int)) (by omega) (by omega), show (T : Int) + 1 - (((sv l).o i : Nat) : Int) = ((T + 1 - (sv l).o i : Nat) : Int) by omega, ← Int.ofNat_tmod]
        refine e5 _ _ _ _ _ ?_ h2
        rw [beq_iff_eq]
        constructor
        · intro h; exact ⟨c, by omega⟩
        · intro h; have := h.2; omega
      · rw [if_neg (by omega)]
        refine e5 _ _ _ _ _ ?_ h2
        constructor
        · intro h; cases h
        · intro h; exact absurd h.1 c
    have e3 : ∀ (f3 : Int), bulkheadlaw11_OccRule.j3 (k + 1 + 1 + 1) l (T : Int) (restsL l 0 l.length) (restsL l T l.length) (restsL l (T + 1) l.length) (((sv l).occ T : Nat) : Int) (i : Int) false (((sv l).p i : Nat) : Int) (((sv l).b i : Nat) : Int) (((sv l).o i : Nat) : Int) f3 = some true := by
      intro f3
      simp only [bulkheadlaw11_OccRule.j3]
      rw [if_neg (by simp), if_pos (by omega), if_pos (by rw [restsL_length]; omega), rd_rests l T l.length i hil, w1]
      by_cases c : (sv l).occ T = i + 1
      · have := hpos c
        rw [if_pos (by omega), wr (x := (((sv l).R T i : Nat) : Int) - 1) (by omega) (by omega)]
        refine e4 _ _ fun hr => ?_
        rw [hN, if_neg hr, if_pos c]; omega
      · rw [if_neg (by omega)]
        refine e4 _ _ fun hr => ?_
        rw [hN, if_neg hr, if_neg c]; rfl
    simp only [bulkheadlaw11_OccRule.l0]
    rw [if_pos (by omega), if_pos (by omega), rd_nat, s0, s1, s2, rd_rests l 0 l.length i hil, hF]
    by_cases c : (sv l).o i = 0
    · rw [if_pos (by omega), if_pos (by rw [restsL_length]; omega), if_pos c, if_pos rfl, if_neg (by omega)]
      exact e3 _
    · rw [if_neg (by omega), if_pos (by omega), if_pos (by rw [restsL_length]; omega), if_neg c]
      exact e3 _

theorem OccRule (l : List S30) (a1 : Int) (_hl : l.length * 32 ≤ 140737488351232) (_hw : ∀ s ∈ l, WfS s) (_h1 : (Lit.int .i64 a1).wf = true) : ∃ k, bulkheadlaw11_OccRule.f k l a1 = some true := by
  refine ⟨300 + 1 + 1, ?_⟩
  unfold bulkheadlaw11_OccRule.f check_Hyper.f
  simp only [Option.bind_some]
  have e0 : bulkheadlaw11_OccRule.j0 (300 + 1 + 1) l a1 true = some true := by
    simp only [bulkheadlaw11_OccRule.j0, if_true, works_true, Option.bind_some]
  by_cases he : (hypS lcmF l).2 = 0
  · rw [if_pos he]
    obtain ⟨hbd, hok, hH1, hH2, hHe, hOk⟩ := ok_of_hyp l he
    by_cases c1 : a1 < 0
    · rw [if_pos c1]; exact e0
    · rw [if_neg c1]
      by_cases c2 : a1 ≥ 1099511627775
      · rw [decide_eq_true c2]; exact e0
      · rw [decide_eq_false c2]
        obtain ⟨T, rfl⟩ : ∃ T : Nat, a1 = (T : Int) := ⟨a1.toNat, by omega⟩
        have z0 := rests_ok he 0 (by omega)
        have z1 := rests_ok he T (by omega)
        have z2 := rests_ok he (T + 1) (by omega)
        rw [show ((0 : Nat) : Int) = 0 from rfl] at z0
        rw [show ((T + 1 : Nat) : Int) = (T : Int) + 1 from rfl] at z2
        simp only [bulkheadlaw11_OccRule.j0]
        rw [if_neg (by simp), wr (x := (T : Int) + 1) (by omega) (by omega), z0, z1, z2, at_ok he T (by omega)]
        simp only [Option.bind_some, if_true, restsL_length]
        simp only [bulkheadlaw11_OccRule.j1]
        rw [if_neg (by simp), chosen_plain l hok hbd.1 T 300 (by omega)]
        simp only [Option.bind_some, if_true]
        exact rule_loop l hok hbd.1 T (by omega) l.length 0 300 (by omega) (by have : l.length ≤ 32 := hbd.1; omega)
  · rw [if_neg he]; exact e0
end Go.Proofs.YtmphhgcmmcomjaaDoor.Pure
