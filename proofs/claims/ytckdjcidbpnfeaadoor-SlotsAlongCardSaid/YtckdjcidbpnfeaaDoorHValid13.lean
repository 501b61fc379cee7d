/- Proved, plainly: slots.Valid tells a number of any table, and 0 only of one that goes. Conditions: the slots' lengths are int64. -/
import Derived.Test.YtckdjcidbpnfeaaDoorHSlotAt13
import Derived.OpenShut
namespace Go.Proofs.YtckdjcidbpnfeaaDoor.B
open Go.RowKit Go.Proofs.YtckdjcidbpnfeaaDoorW.PrintWords Go.Proofs.YtckdjcidbpnfeaaDoorW.PrintLast Go.Proofs.YtckdjcidbpnfeaaDoorW.PrintMore

theorem rdAny (l : List S72) (i : Nat) (h : i < l.length) : rd_T72 l (i : Int) = l[i] := by
  unfold rd_T72
  rw [Int.toNat_natCast, List.getD_eq_getElem?_getD, List.getElem?_eq_getElem h]; rfl
theorem add_any (n : Nat) (b : Int) (hn : n ≤ 1048576) (hb : 1 ≤ b) (hw : (Lit.int .i64 b).wf = true) : ∃ s ok, num_Add.f (n : Int) b = some (s, ok) ∧ (ok = true → s = (n : Int) + b) := by
  have hb2 : b ≤ 9223372036854775807 := by
    exact (bounds_i64 hw).2
  unfold num_Add.f
  by_cases c : ((decide ((wrap64 ((n : Int) + b)) > (n : Int))) != (decide (b > 0))) = true
  · rw [if_pos c, if_neg (by omega)]
    exact ⟨_, _, rfl, fun h => by cases h⟩
  · rw [if_neg c]
    refine ⟨_, _, rfl, fun _ => ?_⟩
    rw [decide_eq_true (show b > 0 by omega)] at c
    have c2 : wrap64 ((n : Int) + b) > (n : Int) := by
      by_cases d : wrap64 ((n : Int) + b) > (n : Int)
      · exact d
      · rw [decide_eq_false d] at c; exact absurd rfl c
    unfold wrap64 at c2 ⊢
    omega
/-- No slot ahead of it, or one of another occupant. -/
def aheadOk (l : List S72) (i : Nat) : Prop := 0 < i → ∀ p q, l[i - 1]? = some p → l[i]? = some q → q.f1 ≠ p.f1
theorem length_any (l : List S72) (hw : ∀ s ∈ l, (Lit.int .i64 s.f0).wf = true) : ∀ (d n i k : Nat), 1 ≤ d → n + d = 1048577 → i ≤ n → i ≤ l.length → 2 * d < k →
    ∃ r : Int, slots_length.l0 k l (n : Int) l ((l.length : Nat) : Int) (i : Int) = some r ∧ (r ≠ 0 → goesS (l.drop i) = true ∧ aheadOk l i ∧ r = ((n + tot (natL (l.drop i)) : Nat) : Int) ∧ r ≤ 1048576) := by
  intro d
  induction d using Nat.strongRecOn with
  | _ d ih =>
    intro n i k hd1 hn hin hil hk
    obtain ⟨k, rfl⟩ : ∃ m, k = m + 1 := ⟨k - 1, by omega⟩
    rcases Nat.lt_or_ge i l.length with hlt | hge
    · have hs := hw l[i] (List.getElem_mem hlt)
      obtain ⟨k, rfl⟩ : ∃ m, k = m + 1 := ⟨k - 1, by omega⟩
      have zero : ∀ a b, ∃ r : Int, slots_length.j1 (k + 1) l (n : Int) l ((l.length : Nat) : Int) (i : Int) true a b = some r ∧ (r ≠ 0 → goesS (l.drop i) = true ∧ aheadOk l i ∧ r = ((n + tot (natL (l.drop i)) : Nat) : Int) ∧ r ≤ 1048576) := fun a b =>
        ⟨0, by rw [slots_length.j1, if_pos rfl], fun h => absurd rfl h⟩
      have hd : l.drop i = l[i] :: l.drop (i + 1) := List.drop_eq_getElem_cons hlt
      rw [slots_length.l0, if_pos (by omega), if_pos (by omega), if_pos (by omega), rdAny l i hlt]
      by_cases c1 : (l[i]).f0 < 1
      · rw [if_pos c1]; exact zero _ _
      rw [if_neg c1]
      by_cases c2 : (l[i]).f1 < 0
      · rw [if_pos c2]; exact zero _ _
      rw [if_neg c2]
      by_cases c3 : (l[i]).f1 > 32
      · rw [if_pos c3]; exact zero _ _
      rw [if_neg c3]
      have fin : aheadOk l i → ∃ r : Int, slots_length.j1 (k + 1) l (n : Int) l ((l.length : Nat) : Int) (i : Int) false (l[i]).f0 (l[i]).f1 = some r ∧ (r ≠ 0 → goesS (l.drop i) = true ∧ aheadOk l i ∧ r = ((n + tot (natL (l.drop i)) : Nat) : Int) ∧ r ≤ 1048576) := by
        intro hah
        obtain ⟨s, ok, e, he⟩ := add_any n (l[i]).f0 (by omega) (by omega) hs
        rw [slots_length.j1, if_neg (by decide), e, Option.bind_some]
        cases ok with
        | false => exact ⟨0, rfl, fun h => absurd rfl h⟩
        | true =>
          have hse := he rfl
          rw [if_pos rfl]
          show ∃ r : Int, (if s > 1048576 then some 0 else slots_length.l0 k l s l ((l.length : Nat) : Int) (wrap64 ((i : Int) + 1))) = some r ∧ _
          by_cases c : s > 1048576
          · rw [if_pos c]; exact ⟨0, rfl, fun h => absurd rfl h⟩
          · rw [if_neg c]
            obtain ⟨f, hf⟩ : ∃ f : Nat, (l[i]).f0 = (f : Int) := ⟨(l[i]).f0.toNat, by omega⟩
            have hw1 : wrap64 ((i : Int) + 1) = ((i + 1 : Nat) : Int) := by unfold wrap64; omega
            have hse2 : s = ((n + f : Nat) : Int) := by omega
            rw [hw1, hse2]
            obtain ⟨r, h1, h2⟩ := ih (d - f) (by omega) (n + f) (i + 1) k (by omega) (by omega) (by omega) (by omega) (by omega)
            refine ⟨r, h1, fun hr => ?_⟩
            obtain ⟨g1, g2, g3, g4⟩ := h2 hr
            have hto : tot (natL (l.drop i)) = f + tot (natL (l.drop (i + 1))) := by
              rw [hd]
              show (l[i]).f0.toNat + tot (natL (l.drop (i + 1))) = _
              omega
            refine ⟨?_, hah, by rw [g3, hto]; omega, g4⟩
            rw [hd, goesS]
            simp only [Bool.and_eq_true]
            refine ⟨?_, ?_, g1⟩
            · unfold okS
              simp only [Bool.and_eq_true, decide_eq_true_eq]
              omega
            · cases hh : (l.drop (i + 1)).head? with
              | none => rfl
              | some q =>
                have hq : l[i + 1]? = some q := by rw [← hh, List.head?_drop]
                have := g2 (by omega) (l[i]) q (by rw [Nat.add_sub_cancel]; exact List.getElem?_eq_getElem hlt) hq
                simp only [Bool.not_eq_true', beq_eq_false_iff_ne]
                exact this
      by_cases c4 : (i : Int) > 0
      · have e : wrap64 ((i : Int) - 1) = ((i - 1 : Nat) : Int) := by unfold wrap64; omega
        rw [if_pos c4, e, if_pos (by omega), if_pos (by omega), rdAny l (i - 1) (by omega)]
        by_cases c5 : ((l[i - 1]'(by omega)).f1 == (l[i]).f1) = true
        · rw [c5]; exact zero _ _
        · rw [Bool.eq_false_iff.2 c5]
          refine fin fun _ p q hp hq => ?_
          rw [List.getElem?_eq_getElem (by omega)] at hp hq
          cases hp; cases hq
          intro h
          exact c5 (beq_iff_eq.2 h.symm)
      · rw [if_neg c4]
        exact fin fun h => by omega
    · rw [slots_length.l0, if_neg (by omega)]
      have hd : l.drop i = [] := List.drop_eq_nil_iff.2 hge
      refine ⟨_, rfl, fun _ => ⟨by rw [hd]; rfl, fun _ p q _ hq => ?_, by rw [hd]; rfl, by omega⟩⟩
      rw [List.getElem?_eq_none hge] at hq; cases hq
theorem length_all (l : List S72) (hw : ∀ s ∈ l, (Lit.int .i64 s.f0).wf = true) (k : Nat) (hk : 4194304 ≤ k) : ∃ r : Int, slots_length.f k l = some r ∧ (r ≠ 0 → goesS l = true ∧ r = ((tot (natL l) : Nat) : Int) ∧ r ≤ 1048576) := by
  obtain ⟨r, h1, h2⟩ := length_any l hw 1048577 0 0 k (by omega) (by omega) (by omega) (by omega) (by omega)
  refine ⟨r, h1, fun h => ?_⟩
  obtain ⟨g1, -, g3, g4⟩ := h2 h
  rw [List.drop_zero] at g1 g3
  exact ⟨g1, by rw [g3]; omega, g4⟩
/-- Any table: Valid tells, and 0 only of one that goes. -/
theorem valid_any (l1 l2 : List S72) (hw1 : ∀ s ∈ l1, (Lit.int .i64 s.f0).wf = true) (hw2 : ∀ s ∈ l2, (Lit.int .i64 s.f0).wf = true) (k : Nat) (hk : 4194304 ≤ k) : ∃ r : Int, slots_Valid.f k l1 l2 = some r ∧ (r = 0 → ∃ P C h, l1 = P.map toS ∧ l2 = C.map toS ∧ Table P C h) := by
  obtain ⟨a, ha, ha2⟩ := length_all l1 hw1 k hk
  obtain ⟨b, hb, hb2⟩ := length_all l2 hw2 k hk
  unfold slots_Valid.f
  rw [ha, Option.bind_some]
  by_cases c : a = 0
  · rw [if_pos c]; exact ⟨20, rfl, fun h => absurd h (by decide)⟩
  · rw [if_neg c, hb, Option.bind_some]
    by_cases e : a = b
    · rw [if_pos e]
      refine ⟨0, rfl, fun _ => ?_⟩
      obtain ⟨p1, p2, p3⟩ := ha2 c
      obtain ⟨q1, q2, q3⟩ := hb2 (by omega)
      obtain ⟨x1, x2⟩ := goesS_yes l1 p1
      obtain ⟨y1, y2⟩ := goesS_yes l2 q1
      exact ⟨natL l1, natL l2, tot (natL l1), x1, y1, x2, y2, rfl, by omega, by omega, by omega⟩
    · rw [if_neg e]; exact ⟨20, rfl, fun h => absurd h (by decide)⟩
end Go.Proofs.YtckdjcidbpnfeaaDoor.B
