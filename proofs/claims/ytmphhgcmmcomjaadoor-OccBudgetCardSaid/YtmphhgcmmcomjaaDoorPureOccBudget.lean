/- The law OccBudget, plainly: in each window at most the budget, the greatest priority just the budget. -/
import Derived.Test.YtmphhgcmmcomjaaDoorMx1
import Derived.Test.YtmphhgcmmcomjaaDoorHWorks
import Derived.Test.YtmphhgcmmcomjaaDoorHOpen
import Derived.Test.YtmphhgcmmcomjaaDoorHWindow
namespace Go.Proofs.YtmphhgcmmcomjaaDoor.Pure
open Go.Proofs.YtmphhgcmmcomjaaDoor.B
open Go.RowKit Go.Proofs.YtmphhgcmmcomjaaDoorW.PrintWords Go.Proofs.YtmphhgcmmcomjaaDoorW.PrintLast Go.Proofs.YtmphhgcmmcomjaaDoorW.PrintMore

theorem works_true : bulkheadlaw11_works.f = some true := by
  unfold bulkheadlaw11_works.f
  have e : ([(⟨5, 2, 4, 9⟩ : S30), (⟨10, 6, 0, 1⟩ : S30)] : List S30) = twoL := rfl
  simp only [e, Option.bind_some, two_18, two_8, two_4]
  simp

theorem rd_nat (l : List S30) (i : Nat) : rd_T30 l (i : Int) = l.getD i z30 := by simp [rd_T30]

/-- The last loop: is there one of a greater priority? -/
theorem top_loop (l : List S30) (v f0 f1 f2 f3 : Int) (h32 : l.length ≤ 32) : ∀ (d i k : Nat) (top : Bool), i + d = l.length → d < k →
    (top = true → (∀ j, i ≤ j → j < l.length → (l.getD j z30).f3 ≤ f3) → v = f1) → bulkheadlaw11_OccBudget.l0 k l v top (i : Int) f0 f1 f2 f3 = some true := by
  intro d
  induction d with
  | zero =>
    intro i k top hi hk h
    obtain ⟨k, rfl⟩ : ∃ m, k = m + 1 := ⟨k - 1, by omega⟩
    simp only [bulkheadlaw11_OccBudget.l0]
    rw [if_neg (by omega)]
    cases top with
    | false => simp [works_true]
    | true => rw [if_pos rfl, if_pos (h rfl fun j h1 h2 => by omega)]; simp [works_true]
  | succ d ih =>
    intro i k top hi hk h
    obtain ⟨k, rfl⟩ : ∃ m, k = m + 1 := ⟨k - 1, by omega⟩
    simp only [bulkheadlaw11_OccBudget.l0]
    have w1 : wrap64 ((i : Int) + 1) = ((i + 1 : Nat) : Int) := by unfold wrap64; omega
    rw [if_pos (by omega), w1, rd_nat]
    cases top with
    | false => rw [if_neg (by simp)]; exact ih (i + 1) k false (by omega) (by omega) (by simp)
    | true =>
      rw [if_pos rfl, if_pos (by omega)]
      refine ih (i + 1) k _ (by omega) (by omega) fun ht hj => h rfl fun j h1 h2 => ?_
      by_cases e : j = i
      · subst e; simpa using ht
      · exact hj j (by omega) h2

theorem OccBudget (l : List S30) (a1 a2 : Int) (_hl : l.length * 32 ≤ 140737488351232) (_hw : ∀ s ∈ l, WfS s) (_h1 : (Lit.int .i64 a1).wf = true) (_h2 : (Lit.int .i64 a2).wf = true) : ∃ k, bulkheadlaw11_OccBudget.f k l a1 a2 = some true := by
  refine ⟨40 + 1 + 1, ?_⟩
  unfold bulkheadlaw11_OccBudget.f check_Hyper.f
  simp only [Option.bind_some]
  have e0 : bulkheadlaw11_OccBudget.j0 (40 + 1 + 1) l a1 a2 true = some true := by
    simp only [bulkheadlaw11_OccBudget.j0, if_true, works_true, Option.bind_some]
  by_cases he : (hypS lcmF l).2 = 0
  · rw [if_pos he]
    obtain ⟨hbd, hok, hH1, hH2, hHe, hOk⟩ := ok_of_hyp l he
    by_cases c1 : a1 < 1
    · rw [if_pos c1]; exact e0
    · rw [if_neg c1]
      by_cases c2 : a1 > (l.length : Int)
      · rw [if_pos c2]; exact e0
      · rw [if_neg c2]
        by_cases c3 : a2 < 0
        · rw [if_pos c3]; exact e0
        · rw [if_neg c3]
          by_cases c4 : a2 ≥ 1099511627776
          · rw [decide_eq_true c4]; exact e0
          · rw [decide_eq_false c4]
            have h32 : l.length ≤ 32 := hbd.1
            obtain ⟨i, rfl⟩ : ∃ i : Nat, a1 = (i : Int) + 1 := ⟨(a1 - 1).toNat, by omega⟩
            obtain ⟨K, rfl⟩ : ∃ K : Nat, a2 = (K : Int) := ⟨a2.toNat, by omega⟩
            have hi : i < l.length := by omega
            obtain ⟨s0, s1, s2, s3, p1, p2, b1, b2, o1, o2⟩ := srv_at hok i hi
            have w1 : wrap64 ((i : Int) + 1 - 1) = (i : Int) := by unfold wrap64; omega
            simp only [bulkheadlaw11_OccBudget.j0]
            rw [if_neg (by simp), w1, if_pos (by omega), if_pos (by omega), rd_nat, s0, s1, s2, s3]
            have hrel : ∀ m, (sv l).rel i ((sv l).o i + m * (sv l).p i) := fun m => ⟨by omega, by rw [Nat.add_sub_cancel_left, Nat.mul_mod_left]⟩
            have hle : ∀ r0, (sv l).rel i r0 → (sv l).count (i + 1) r0 ((sv l).p i) ≤ (sv l).b i := fun r0 hr => (sv l).window_le i r0 hr _ (Nat.le_refl _)
            have htop : (∀ j, j < l.length → (l.getD j z30).f3 ≤ ((sv l).pr i : Int)) → ∀ r0, (sv l).rel i r0 → (sv l).count (i + 1) r0 ((sv l).p i) = (sv l).b i := fun ht r0 hr => by
              rw [(sv l).window_top i r0 hi hOk.inj (fun j hj => by have h1 := ht j hj; rw [(srv_at hok j hj).2.2.2.1] at h1; omega) hr _ (Nat.le_refl _)]
              omega
            generalize hP : (sv l).p i = P at *
            generalize hO : (sv l).o i = O at *
            generalize hB : (sv l).b i = B at *
            rw [if_neg (by omega), wr (x := 1099511627776 - (O : Int)) (by omega) (by omega)]
            have q0 : Int.tdiv (1099511627776 - (O : Int)) (P : Int) = (1099511627776 - (O : Int)) / (P : Int) := Int.tdiv_eq_ediv_of_nonneg (by omega)
            have q1 : 0 ≤ (1099511627776 - (O : Int)) / (P : Int) := Int.ediv_nonneg (by omega) (by omega)
            have q2 : (1099511627776 - (O : Int)) / (P : Int) ≤ 1099511627776 - (O : Int) := Int.ediv_le_self _ (by omega)
            have key := Int.le_ediv_iff_mul_le (a := (K : Int) + 1) (b := 1099511627776 - (O : Int)) (c := (P : Int)) (by omega)
            rw [q0]
            generalize (1099511627776 - (O : Int)) / (P : Int) = Q at *
            rw [wr (x := Q) (by omega) (by omega), wr (x := Q - 1) (by omega) (by omega)]
            by_cases c5 : (K : Int) > Q - 1
            · rw [if_pos c5]; simp [works_true]
            · rw [if_neg c5]
              have hm : ((K : Int) + 1) * (P : Int) ≤ 1099511627776 - (O : Int) := key.1 (by omega)
              have hm2 : ((K : Int) + 1) * (P : Int) = (K : Int) * (P : Int) + (P : Int) := by rw [Int.add_mul, Int.one_mul]
              have hm3 : 0 ≤ (K : Int) * (P : Int) := Int.mul_nonneg (by omega) (by omega)
              rw [hm2] at hm
              have hmul : (K : Int) * (P : Int) = ((K * P : Nat) : Int) := by rw [Int.natCast_mul]
              rw [hmul] at hm hm3 ⊢
              have hr := hrel K
              clear key hm2 hmul hrel
              generalize K * P = M at *
              rw [wr (x := (M : Int)) (by omega) (by omega), wr (x := (O : Int) + (M : Int)) (by omega) (by omega), wr (x := (O : Int) + (M : Int) + (P : Int)) (by omega) (by omega)]
              have hle2 := hle (O + M) hr
              have htop2 := fun ht => htop ht (O + M) hr
              have e1 : occ_Supply.f l ((i : Int) + 1) ((O : Int) + (M : Int)) ((O : Int) + (M : Int) + (P : Int)) = some ((((sv l).count (i + 1) (O + M) P : Nat) : Int), 0) := by
                unfold occ_Supply.f spanB
                rw [if_pos he, if_neg (by omega), if_neg (by simp; omega), show ((i : Int) + 1).toNat = i + 1 by omega, show ((O : Int) + (M : Int)).toNat = O + M by omega, show ((O : Int) + (M : Int) + (P : Int)).toNat = O + M + P by omega]
                have := (sv l).count_add (i + 1) 0 (O + M) P
                rw [Nat.zero_add] at this
                rw [this]
                simp only [Option.some.injEq, Prod.mk.injEq, and_true]
                omega
              rw [e1]
              simp only [Option.bind_some, if_true]
              rw [if_neg (by omega), decide_eq_false (by omega)]
              simp only [bulkheadlaw11_OccBudget.j1]
              rw [if_neg (by simp)]
              refine top_loop l _ _ _ _ _ h32 l.length 0 40 true (by omega) (by omega) fun _ hj => ?_
              rw [htop2 fun j hj2 => hj j (Nat.zero_le _) hj2]
  · rw [if_neg he]; exact e0
end Go.Proofs.YtmphhgcmmcomjaaDoor.Pure
