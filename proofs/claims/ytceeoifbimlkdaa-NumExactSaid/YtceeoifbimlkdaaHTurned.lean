/- Proved: a list that is cut off a row of one's own is such a row; turned's answer alone, in the form that the printed text of lists cites. No conditions. -/
import Derived.Test.YtceeoifbimlkdaaBx5
namespace Go.Proofs.Ytceeoifbimlkdaa.B
open Go.RowKit Go.Proofs.YtceeoifbimlkdaaW.PrintWords Go.Proofs.YtceeoifbimlkdaaW.PrintLast Go.Proofs.YtceeoifbimlkdaaW.PrintMore

/-- The first of a row's own, as a row of one's own: its block is one of that kind. -/
theorem R_cutP {e : Nat} {w : World} {base : Nat} {ok : Nat → Prop} {A : Option Addr} {n c : Nat} {xs : List Int} (h : Kd.R (Kd.int .i64) e w base ok (.slice A n c) xs) (m : Nat) (hm : m ≤ xs.length) :
    Kd.R (Kd.int .i64) e w base (fun k => ∃ cs, w.heap[k]? = some (.cells cs e (0, 0))) (.slice A (xs.take m).length c) (xs.take m) := by
  have hn := (Kd.R_reads' h).1
  subst hn
  have ho := Kd.own_of_R h
  obtain ⟨h0, ⟨h1, h2⟩ | ⟨g, cap, cur, e1, e2, e3, e4, e5, e6, e7⟩⟩ := ho
  · have hx : xs = [] := by cases xs with
      | nil => rfl
      | cons x l => simp at h2
    subst hx
    cases h1
    rw [List.take_nil]
    exact Kd.R_nil _ _ _ _ _
  · cases e1
    have hl : (xs.take m).length = m := by rw [List.length_take]; omega
    refine Kd.R_of_own (h1 := fun _ => rfl) ⟨by simp [encs_length], .inr ⟨g, _, cur, rfl, e2, e3, by omega, e5, e6, ?_⟩⟩ ?_
    · rw [Nat.mul_one] at e7 ⊢
      rw [hl, show cur.toList.take m = (cur.toList.take xs.length).take m by rw [List.take_take, Nat.min_eq_left hm], e7]
      unfold encs
      rw [List.map_take]
    · intro k hk
      cases hk
      exact ⟨cur, e3⟩

/-- turned's answer alone. -/
def turnedB.f (k : Nat) (l0 l1 : List Int) (a2 : Int) : Option Bool := (bulkheadlaw01_turned.f k l0 l1 a2).map (·.1)
theorem turnedB.mono (l0 l1 : List Int) (a2 : Int) (k : Nat) : LeO (turnedB.f k l0 l1 a2) (turnedB.f (k + 1) l0 l1 a2) := by
  intro r h
  unfold turnedB.f at h ⊢
  obtain ⟨x, hx, e⟩ := Option.map_eq_some_iff.1 h
  rw [bulkheadlaw01_turned.mono _ _ _ _ _ hx, Option.map_some, e]
theorem turnedB_some {k : Nat} {l0 l1 : List Int} {a2 : Int} {r : Bool} (h : turnedB.f k l0 l1 a2 = some r) : ∃ x y, bulkheadlaw01_turned.f k l0 l1 a2 = some (r, x, y) := by
  unfold turnedB.f at h
  obtain ⟨⟨b, x, y⟩, hx, e⟩ := Option.map_eq_some_iff.1 h
  exact ⟨x, y, by rw [hx]; cases e; rfl⟩
end Go.Proofs.Ytceeoifbimlkdaa.B
