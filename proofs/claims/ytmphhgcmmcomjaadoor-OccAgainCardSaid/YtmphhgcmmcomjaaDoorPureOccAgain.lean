/- The law OccAgain, plainly: from the hyperperiod on the occupants come again with it. -/
import Derived.Test.YtmphhgcmmcomjaaDoorLx1
import Derived.Test.YtmphhgcmmcomjaaDoorHWorks
import Derived.Test.YtmphhgcmmcomjaaDoorHOpen
namespace Go.Proofs.YtmphhgcmmcomjaaDoor.Pure
open Go.Proofs.YtmphhgcmmcomjaaDoor.B
open Go.RowKit Go.Proofs.YtmphhgcmmcomjaaDoorW.PrintWords Go.Proofs.YtmphhgcmmcomjaaDoorW.PrintLast Go.Proofs.YtmphhgcmmcomjaaDoorW.PrintMore

theorem works_true : bulkheadlaw11_works.f = some true := by
  unfold bulkheadlaw11_works.f
  have e : ([(⟨5, 2, 4, 9⟩ : S30), (⟨10, 6, 0, 1⟩ : S30)] : List S30) = twoL := rfl
  simp only [e, Option.bind_some, two_18, two_8, two_4]
  simp

theorem OccAgain (l : List S30) (a1 : Int) (_hl : l.length * 32 ≤ 140737488351232) (_hw : ∀ s ∈ l, WfS s) (_h1 : (Lit.int .i64 a1).wf = true) : ∃ k, bulkheadlaw11_OccAgain.f k l a1 = some true := by
  refine ⟨1, ?_⟩
  unfold bulkheadlaw11_OccAgain.f check_Hyper.f
  simp only [Option.bind_some]
  have e0 : ∀ h, bulkheadlaw11_OccAgain.j0 1 l a1 h true = some true := fun h => by
    rw [show (1 : Nat) = 0 + 1 from rfl]
    simp only [bulkheadlaw11_OccAgain.j0, if_true, works_true, Option.bind_some]
  by_cases he : (hypS lcmF l).2 = 0
  · rw [if_pos he]
    obtain ⟨hbd, hok, hH1, hH2, hHe, hOk⟩ := ok_of_hyp l he
    rw [hHe]
    by_cases c : a1 < (hyp l : Nat)
    · rw [if_pos c]; exact e0 _
    · rw [if_neg c]
      have w1 : wrap64 (1099511627776 - ((hyp l : Nat) : Int)) = 1099511627776 - ((hyp l : Nat) : Int) := by unfold wrap64; omega
      rw [w1]
      by_cases d : a1 ≥ 1099511627776 - ((hyp l : Nat) : Int)
      · rw [decide_eq_true d]; exact e0 _
      · rw [decide_eq_false d]
        obtain ⟨T, rfl⟩ : ∃ T : Nat, a1 = (T : Int) := ⟨a1.toNat, by omega⟩
        rw [show (1 : Nat) = 0 + 1 from rfl]
        simp only [bulkheadlaw11_OccAgain.j0]
        have w2 : wrap64 ((T : Int) + ((hyp l : Nat) : Int)) = ((T + hyp l : Nat) : Int) := by unfold wrap64; omega
        rw [if_neg (by simp), w2, at_ok he T (by omega), at_ok he (T + hyp l) (by omega)]
        simp only [Option.bind_some, if_true, works_true]
        rw [OccMath.Sv.periodic hOk T (by omega), if_pos rfl]
  · rw [if_neg he]; exact e0 _
end Go.Proofs.YtmphhgcmmcomjaaDoor.Pure
