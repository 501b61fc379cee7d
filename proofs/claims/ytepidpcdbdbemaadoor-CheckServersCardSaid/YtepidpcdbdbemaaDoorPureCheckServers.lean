/- The law CheckServers, plainly: two readings of one list agree, and what the caller writes later changes no earlier reading. -/
import Derived.Test.YtepidpcdbdbemaaDoorLx3
import Derived.Test.YtepidpcdbdbemaaDoorHOpen
import Derived.Test.YtepidpcdbdbemaaDoorHRef10
namespace Go.Proofs.YtepidpcdbdbemaaDoor.Pure
open Go.Proofs.YtepidpcdbdbemaaDoor.B
open Go.RowKit Go.Proofs.YtepidpcdbdbemaaDoorW.PrintWords Go.Proofs.YtepidpcdbdbemaaDoorW.PrintLast Go.Proofs.YtepidpcdbdbemaaDoorW.PrintMore

theorem hyp_two : hypS lcmF [(⟨4, 1, 3, 2⟩ : S25), ⟨6, 6, 0, 1⟩] = (12, 0) := by decide +kernel
theorem serv_one : servS [(⟨4, 1, 4, 2⟩ : S25)] = (101, 1) := by decide +kernel
theorem lives_true : bulkheadlaw10_lives.f = some true := by
  unfold bulkheadlaw10_lives.f check_Hyper.f check_Servers.f
  rw [hyp_two, serv_one]; rfl

theorem loop1 {C : Nat} (hC : ∀ (l : List S25) (k : Nat), C < k → bulkheadref10_Hyper.f k l = some (hypS lcmF l)) (n : Nat) (hn : n ≤ 70000) :
    ∀ (d i k : Nat) (x3 x14 : List S25), i + d = n → C + 100 + d < k → x14.length = i → x3.take i = x14 → n < x3.length →
      bulkheadlaw10_CheckServers.l1 k x3 (n : Int) x14 (i : Int) = some true := by
  intro d
  induction d with
  | zero =>
    intro i k x3 x14 hi hk hlen ht hx
    obtain ⟨k, rfl⟩ : ∃ m, k = m + 1 := ⟨k - 1, by omega⟩
    obtain rfl : i = n := by omega
    simp only [bulkheadlaw10_CheckServers.l1]
    rw [if_neg (by omega), if_pos (by omega), if_pos (by omega), Int.toNat_natCast, ht, Servers_eq x14 k (by omega), hC x14 k (by omega)]
    simp [check_Servers.f, check_Hyper.f]
  | succ d ih =>
    intro i k x3 x14 hi hk hlen ht hx
    obtain ⟨k, rfl⟩ : ∃ m, k = m + 1 := ⟨k - 1, by omega⟩
    simp only [bulkheadlaw10_CheckServers.l1]
    rw [if_pos (by omega), if_pos (by omega), if_pos (by omega)]
    simp only [Option.bind_some, Int.toNat_natCast, rd_sv]
    rw [if_pos (by omega), wrap_i i (by omega)]
    refine ih (i + 1) k _ _ (by omega) (by omega) (by simp; omega) ?_ (by simp; omega)
    rw [List.take_add_one]
    congr 1
    · rw [List.take_set_of_le (Nat.le_refl _), List.take_set_of_le (Nat.le_refl _)]; exact ht
    · simp [List.getD_eq_getElem?_getD, show i < x3.length by omega]

theorem loop0 (l x3 : List S25) (hn : l.length ≤ 70000) (h : ∀ i, i < l.length → x3.getD i z25 = l.getD i z25) (hx : l.length < x3.length) :
    ∀ (d i k : Nat), i + d = l.length → d < k →
      bulkheadlaw10_CheckServers.l0 k l x3 (l.length : Int) (i : Int) = bulkheadlaw10_CheckServers.l1 (k - d - 1) x3 (l.length : Int) [] 0 := by
  intro d
  induction d with
  | zero =>
    intro i k hi hk
    obtain ⟨k, rfl⟩ : ∃ m, k = m + 1 := ⟨k - 1, by omega⟩
    simp only [bulkheadlaw10_CheckServers.l0]
    rw [if_neg (by omega)]; rfl
  | succ d ih =>
    intro i k hi hk
    obtain ⟨k, rfl⟩ : ∃ m, k = m + 1 := ⟨k - 1, by omega⟩
    simp only [bulkheadlaw10_CheckServers.l0]
    rw [if_pos (by omega), if_pos (by omega), if_pos (by omega), if_pos (by omega)]
    simp only [rd_sv, h i (by omega)]
    rw [if_neg (by simp), wrap_i i (by omega), ih (i + 1) k (by omega) (by omega), show k + 1 - (d + 1) - 1 = k - d - 1 by omega]

theorem CheckServers (l : List S25) (hl : l.length * 32 ≤ 140737488351232) (_hw : ∀ s ∈ l, WfS s) : ∃ k, bulkheadlaw10_CheckServers.f k l = some true := by
  obtain ⟨C, hC⟩ := Hyper_eq
  refine ⟨C + 200000, ?_⟩
  unfold bulkheadlaw10_CheckServers.f
  have e0 : ∀ k, C + 199999 = k → bulkheadlaw10_CheckServers.j0 (k + 1) l true = some true := by
    intro k _
    simp only [bulkheadlaw10_CheckServers.j0]
    rw [if_pos trivial, lives_true]; rfl
  by_cases c : (l.length : Int) > 70000
  · rw [if_pos c]; exact e0 _ rfl
  · rw [if_neg c, lives_true]
    simp only [Option.bind_some, Bool.not_true]
    obtain ⟨k, hk⟩ : ∃ k, k = C + 199998 := ⟨_, rfl⟩
    rw [show C + 200000 = k + 1 + 1 by omega]
    simp only [bulkheadlaw10_CheckServers.j0, Bool.false_eq_true, if_false, Option.bind_some, List.nil_append]
    rw [if_pos (by simp; omega), if_pos (by omega), if_pos (by omega), if_pos (by simp; omega), Int.toNat_natCast, List.take_left]
    rw [Servers_eq l (k + 1) (by omega), hC l (k + 1) (by omega)]
    simp only [check_Servers.f, check_Hyper.f, Option.bind_some, if_true]
    rw [if_pos (by rw [List.length_append, List.length_singleton]; omega), rd_sv]
    have e1 : (l ++ [(⟨(-7), 0, 0, 0⟩ : S25)]).getD l.length z25 = ⟨(-7), 0, 0, 0⟩ := by simp [List.getD_eq_getElem?_getD]
    rw [e1]
    simp only [bne_self_eq_false, bulkheadlaw10_CheckServers.j1, Bool.false_eq_true, if_false]
    have h0 := loop0 l (l ++ [(⟨(-7), 0, 0, 0⟩ : S25)]) (by omega) (by intro i hi; simp [List.getD_eq_getElem?_getD, List.getElem?_append_left hi]) (by simp) l.length 0 k (by omega) (by omega)
    rw [Int.natCast_zero] at h0
    rw [h0]
    have h1 := loop1 hC l.length (by omega) l.length 0 (k - l.length - 1) (l ++ [(⟨(-7), 0, 0, 0⟩ : S25)]) [] (by omega) (by omega) rfl rfl (by simp)
    rw [Int.natCast_zero] at h1
    exact h1
end Go.Proofs.YtepidpcdbdbemaaDoor.Pure
