/- Proved: the law NumTicks answers true for every five numbers: what NextAt tells is the least of the ticks from there on, and Count of a stretch is the sum of those of its parts. No conditions. -/
import Derived.Test.YtceeoifbimlkdaaPNumTicksx2
namespace Go.Proofs.Ytceeoifbimlkdaa.Pure
open Go.RowKit Go.Proofs.Ytceeoifbimlkdaa.PNumTicks Go.Proofs.YtceeoifbimlkdaaW.PrintWords Go.Proofs.YtceeoifbimlkdaaW.PrintLast

theorem i64_bd {n : Int} (h : (Lit.int .i64 n).wf = true) : -9223372036854775808 ≤ n ∧ n ≤ 9223372036854775807 := by
  simp [Lit.wf, IntKind.min, IntKind.max, IntKind.signed, IntKind.bits] at h
  omega

/-- How many of o, o + p, o + 2 p, .. lie below x. -/
def nAhead (o p x : Int) : Int := if x ≤ o then 0 else (x - o - 1) / p + 1
/-- The least of them that is x or above. -/
def nx (o p x : Int) : Int := o + p * nAhead o p x

theorem nAhead_nonneg (o p x : Int) (hp : 1 ≤ p) : 0 ≤ nAhead o p x := by
  unfold nAhead
  split
  · omega
  · have := Int.ediv_nonneg (a := x - o - 1) (b := p) (by omega) (by omega); omega

theorem nx_ge (o p x : Int) (hp : 1 ≤ p) : x ≤ nx o p x ∧ o ≤ nx o p x := by
  have h0 := nAhead_nonneg o p x hp
  have h1 : 0 ≤ p * nAhead o p x := Int.mul_nonneg (by omega) h0
  refine ⟨?_, by unfold nx; omega⟩
  unfold nx nAhead at *
  split
  · omega
  · have e := Int.mul_ediv_add_emod (x - o - 1) p
    have := Int.emod_lt_of_pos (x - o - 1) (show 0 < p by omega)
    rw [Int.mul_add]; omega

theorem nx_lt (o p x : Int) (hp : 1 ≤ p) (h : o < x) : nx o p x < x + p := by
  unfold nx nAhead
  rw [if_neg (by omega)]
  have e := Int.mul_ediv_add_emod (x - o - 1) p
  have := Int.emod_nonneg (x - o - 1) (show p ≠ 0 by omega)
  rw [Int.mul_add]; omega

/-- The next multiple, by the rest. -/
theorem nx_rest (o p x : Int) (hp : 1 ≤ p) (h : o < x) :
    nx o p x = if (x - o) % p = 0 then x else x - (x - o) % p + p := by
  unfold nx nAhead
  rw [if_neg (by omega)]
  have e := Int.mul_ediv_add_emod (x - o - 1) p
  have l := Int.emod_lt_of_pos (x - o - 1) (show 0 < p by omega)
  have n := Int.emod_nonneg (x - o - 1) (show p ≠ 0 by omega)
  by_cases c : (x - o - 1) % p + 1 = p
  · have m : (x - o) % p = 0 := by
      have : x - o = p * ((x - o - 1) / p + 1) := by rw [Int.mul_add]; omega
      rw [this, Int.mul_emod_right]
    rw [if_pos m, Int.mul_add]; omega
  · have m : (x - o) % p = (x - o - 1) % p + 1 := by
      have : x - o = (x - o - 1) % p + 1 + p * ((x - o - 1) / p) := by omega
      rw [this, Int.add_mul_emod_self_left, Int.emod_eq_of_lt (by omega) (by omega)]
      rw [← this]
    rw [m, if_neg (by omega), Int.mul_add]; omega

theorem nx_self (o p x : Int) (hp : 1 ≤ p) : nx o p x = x ↔ (o ≤ x ∧ (x - o) % p = 0) := by
  by_cases h : o < x
  · rw [nx_rest o p x hp h]
    have := Int.emod_lt_of_pos (x - o) (show 0 < p by omega)
    split
    · constructor
      · intro; exact ⟨by omega, by assumption⟩
      · intro; rfl
    · constructor
      · intro; omega
      · rintro ⟨_, e⟩; exact absurd e (by assumption)
  · have : nx o p x = o := by unfold nx nAhead; rw [if_pos (by omega)]; omega
    rw [this]
    constructor
    · intro e; subst e; simp
    · intro; omega

/-- How many from one on and below another. -/
def cnt (o p fr be : Int) : Int := if be ≤ nx o p fr then 0 else (be - 1 - nx o p fr) / p + 1

theorem cnt_sub (o p fr be : Int) (hp : 1 ≤ p) (h : fr ≤ be) : cnt o p fr be = nAhead o p be - nAhead o p fr := by
  unfold cnt
  have g := nx_ge o p fr hp
  have n0 := nAhead_nonneg o p fr hp
  split
  · rename_i hb
    by_cases c : be ≤ o
    · unfold nAhead; rw [if_pos c, if_pos (by omega)]; omega
    · by_cases d : fr ≤ o
      · have : nx o p fr = o := by unfold nx nAhead; rw [if_pos d]; omega
        omega
      · have e1 := Int.mul_ediv_add_emod (be - o - 1) p
        have e2 := Int.mul_ediv_add_emod (fr - o - 1) p
        have l1 := Int.emod_nonneg (be - o - 1) (show p ≠ 0 by omega)
        have le : (fr - o - 1) / p ≤ (be - o - 1) / p := Int.ediv_le_ediv (by omega) (by omega)
        have hb' : be - o - 1 < p * ((fr - o - 1) / p + 1) := by
          unfold nx nAhead at hb; rw [if_neg (by omega)] at hb; omega
        have lt : (be - o - 1) / p < (fr - o - 1) / p + 1 := Int.ediv_lt_of_lt_mul (by omega) (by rw [Int.mul_comm]; exact hb')
        unfold nAhead; rw [if_neg (by omega), if_neg (by omega)]; omega
  · rename_i hb
    have e : be - 1 - nx o p fr = be - o - 1 + p * (-(nAhead o p fr)) := by unfold nx; rw [Int.mul_neg]; omega
    rw [e, Int.add_mul_ediv_left _ _ (by omega)]
    have : nAhead o p be = (be - o - 1) / p + 1 := by unfold nAhead; rw [if_neg (by omega)]
    omega

theorem cnt_zero (o p fr be : Int) (hp : 1 ≤ p) (h : be ≤ fr) : cnt o p fr be = 0 := by
  unfold cnt; have := nx_ge o p fr hp; rw [if_pos (by omega)]

theorem cnt_pos (o p fr be : Int) (hp : 1 ≤ p) (h : nx o p fr < be) : 1 ≤ cnt o p fr be := by
  unfold cnt; rw [if_neg (by omega)]
  have := Int.ediv_nonneg (a := be - 1 - nx o p fr) (b := p) (by omega) (by omega); omega

theorem cnt_le (o p fr be : Int) (hp : 1 ≤ p) (ho : 0 ≤ o) (h : be ≤ 9223372036854775807) : 0 ≤ cnt o p fr be ∧ cnt o p fr be ≤ 9223372036854775807 := by
  by_cases c : nx o p fr < be
  · have := cnt_pos o p fr be hp c
    refine ⟨by omega, ?_⟩
    unfold cnt; rw [if_neg (by omega)]
    have g := nx_ge o p fr hp
    have := Int.ediv_le_self (a := be - 1 - nx o p fr) p (by omega)
    omega
  · unfold cnt; rw [if_pos (by omega)]; omega

theorem next_eq (k : Nat) (o p fr : Int) (hp : 1 ≤ p) (ho : 0 ≤ o) (hp' : p ≤ 9223372036854775807) (ho' : o ≤ 9223372036854775807) (hf : fr ≤ 9223372036854775807) :
    num_NextAt.f (k + 1) o p fr = some (if nx o p fr ≤ 9223372036854775807 then (nx o p fr, true) else (0, false)) := by
  unfold num_NextAt.f
  rw [if_neg (by omega)]
  simp only [num_NextAt.j0]
  rw [if_neg (by simp; omega)]
  by_cases c : fr ≤ o
  · have e : nx o p fr = o := by unfold nx nAhead; rw [if_pos c]; omega
    rw [if_pos c, e, if_pos ho']
  · rw [if_neg c, if_neg (by omega)]
    have w : wrap64 (fr - o) = fr - o := by unfold wrap64; omega
    have t : Int.tmod (fr - o) p = (fr - o) % p := Int.tmod_eq_emod_of_nonneg (by omega)
    rw [w, t, nx_rest o p fr hp (by omega)]
    have l := Int.emod_lt_of_pos (fr - o) (show 0 < p by omega)
    have n := Int.emod_nonneg (fr - o) (show p ≠ 0 by omega)
    have sm : (fr - o) % p ≤ fr - o := by
      have e := Int.mul_ediv_add_emod (fr - o) p
      have q := Int.ediv_nonneg (a := fr - o) (b := p) (by omega) (by omega)
      have := Int.mul_nonneg (a := p) (by omega) q
      omega
    generalize (fr - o) % p = r at *
    by_cases z : r = 0
    · rw [if_pos z, if_pos z, if_pos hf]
    · rw [if_neg z, if_neg z]
      have e : wrap64 (fr - r) = fr - r := by unfold wrap64; omega
      rw [e]
      by_cases f : fr - r + p ≤ 9223372036854775807
      · have e2 : wrap64 (fr - r + p) = fr - r + p := by unfold wrap64; omega
        rw [e2, if_pos f]
        simp only [mx]
        congr 2
        · split <;> omega
        · simp; omega
      · have e2 : wrap64 (fr - r + p) = fr - r + p - 18446744073709551616 := by unfold wrap64; omega
        rw [e2, if_neg f]
        simp only [mx]
        congr 2
        · split <;> omega
        · simp; omega

theorem next_bad (k : Nat) (o p fr : Int) (h : p < 1 ∨ o < 0) : num_NextAt.f (k + 1) o p fr = some (0, false) := by
  unfold num_NextAt.f
  by_cases c : p < 1
  · rw [if_pos c]; simp only [num_NextAt.j0, if_true]
  · rw [if_neg c]; simp only [num_NextAt.j0]; rw [if_pos (by simp; omega)]

theorem count_bad (k : Nat) (o p fr be : Int) (h : p < 1 ∨ o < 0) : num_Count.f (k + 1) o p fr be = some (0, false) := by
  unfold num_Count.f
  by_cases c : p < 1
  · rw [if_pos c]; simp only [num_Count.j0, if_true]
  · rw [if_neg c]; simp only [num_Count.j0]; rw [if_pos (by simp; omega)]

theorem count_eq (k : Nat) (o p fr be : Int) (hp : 1 ≤ p) (ho : 0 ≤ o) (hp' : p ≤ 9223372036854775807) (ho' : o ≤ 9223372036854775807) (hf : fr ≤ 9223372036854775807)
    (hb : -9223372036854775808 ≤ be ∧ be ≤ 9223372036854775807) :
    num_Count.f (k + 2) o p fr be = some (cnt o p fr be, true) := by
  unfold num_Count.f
  rw [if_neg (by omega)]
  simp only [num_Count.j0]
  rw [if_neg (by simp; omega), next_eq k o p fr hp ho hp' ho' hf]
  simp only [Option.bind_some]
  have g := nx_ge o p fr hp
  have bd := cnt_le o p fr be hp ho hb.2
  by_cases c : nx o p fr ≤ 9223372036854775807
  · rw [if_pos c]
    simp only [if_true]
    simp only [num_Count.j1]
    by_cases d : be ≤ nx o p fr
    · rw [if_pos (by simpa using d)]; unfold cnt; rw [if_pos d]
    · rw [if_neg (by simpa using d), if_neg (by omega)]
      have e1 : wrap64 (be - 1) = be - 1 := by unfold wrap64; omega
      have e2 : wrap64 (be - 1 - nx o p fr) = be - 1 - nx o p fr := by unfold wrap64; omega
      have e3 : Int.tdiv (be - 1 - nx o p fr) p = (be - 1 - nx o p fr) / p := Int.tdiv_eq_ediv_of_nonneg (by omega)
      unfold cnt at bd ⊢
      rw [if_neg d] at bd ⊢
      rw [e1, e2, e3]
      have e4 : wrap64 ((be - 1 - nx o p fr) / p) = (be - 1 - nx o p fr) / p := by unfold wrap64; omega
      have e5 : wrap64 ((be - 1 - nx o p fr) / p + 1) = (be - 1 - nx o p fr) / p + 1 := by unfold wrap64; omega
      rw [e4, e5]
  · rw [if_neg c]
    have z : be ≤ nx o p fr := by omega
    unfold cnt; rw [if_pos z]
    simp [num_Count.j1]

theorem later_11 : num_Later.f 6 1 1 = some 2 := by simp [num_Later.f, num_Later.j0, wrap64]

theorem NumTicks : bulkheadlaw01_NumTicks.Pure := by
  intro o p fr mid be w0 w1 w2 w3 w4
  have h0 := i64_bd w0
  have h1 := i64_bd w1
  have h2 := i64_bd w2
  have h3 := i64_bd w3
  have h4 := i64_bd w4
  refine ⟨7, ?_⟩
  unfold bulkheadlaw01_NumTicks.f
  by_cases bad : p < 1 ∨ o < 0
  · rw [next_bad 6 o p fr bad]
    simp only [Option.bind_some]
    have e : bulkheadlaw01_NumTicks.j0 7 o p fr mid be 0 false true = some true := by
      simp only [bulkheadlaw01_NumTicks.j0, if_true]
      rw [count_bad 5 o p fr be bad]
      simp [later_11]
    by_cases c : p < 1
    · rw [if_pos c, e]
    · rw [if_neg c, show decide (o < 0) = true by simp; omega, e]
  · have hp : 1 ≤ p := by omega
    have ho : 0 ≤ o := by omega
    rw [next_eq 6 o p fr hp ho (by omega) (by omega) (by omega)]
    have g := nx_ge o p fr hp
    have na := nAhead_nonneg o p fr hp
    have c1 := count_eq 2 o p fr mid hp ho (by omega) (by omega) (by omega) (by omega)
    have c2 := count_eq 2 o p mid be hp ho (by omega) (by omega) (by omega) (by omega)
    have c3 := count_eq 2 o p fr be hp ho (by omega) (by omega) (by omega) (by omega)
    have b1 := cnt_le o p fr mid hp ho (by omega)
    have b2 := cnt_le o p mid be hp ho (by omega)
    have b3 := cnt_le o p fr be hp ho (by omega)
    -- what stands behind the first two tests
    have tail : ∀ (x : Int) (ok : Bool), (ok = true → x = nx o p fr) → (ok = false → 9223372036854775807 < nx o p fr) →
        bulkheadlaw01_NumTicks.j2 5 o p fr mid be x ok false = some true := by
      intro x ok hx hn
      simp only [bulkheadlaw01_NumTicks.j2]
      rw [if_neg (by simp), c1, c2, c3]
      simp only [Option.bind_some, if_true]
      have j3 : bulkheadlaw01_NumTicks.j3 4 o p fr be x ok (cnt o p fr be) false = some true := by
        simp only [bulkheadlaw01_NumTicks.j3]
        rw [if_neg (by simp)]
        by_cases c : fr ≥ be
        · rw [if_pos c, cnt_zero o p fr be hp c]; rfl
        · rw [if_neg c]
          have one : wrap64 (be - fr) = 1 → be = fr + 1 := by unfold wrap64; omega
          -- the last test
          have last : bulkheadlaw01_NumTicks.j4 3 o p fr be (cnt o p fr be) false = some true := by
            simp only [bulkheadlaw01_NumTicks.j4]
            rw [if_neg (by simp)]
            by_cases d : wrap64 (be - fr) = 1
            · rw [if_pos d]
              have hb := one d
              by_cases e : fr < 0
              · rw [if_pos e]
              · rw [if_neg e]
                have self := nx_self o p fr hp
                by_cases f : fr ≥ o
                · rw [if_pos f, if_neg (by omega)]
                  have w : wrap64 (fr - o) = fr - o := by unfold wrap64; omega
                  rw [w, Int.tmod_eq_emod_of_nonneg (by omega)]
                  by_cases s : (fr - o) % p = 0
                  · have e1 := self.2 ⟨f, s⟩
                    have : cnt o p fr be = 1 := by unfold cnt; rw [e1, hb, if_neg (by omega), show fr + 1 - 1 - fr = 0 by omega, Int.zero_ediv]; rfl
                    rw [this, s]; rfl
                  · have e1 : nx o p fr ≠ fr := fun h => s (self.1 h).2
                    have : cnt o p fr be = 0 := by unfold cnt; rw [if_pos (by omega)]
                    rw [this]; simp [s]
                · rw [if_neg f]
                  have : cnt o p fr be = 0 := by unfold cnt; rw [if_pos (by omega)]
                  rw [this]; rfl
            · rw [if_neg d]
          cases ok with
          | true =>
            have hx := hx rfl
            subst hx
            simp only [if_true]
            by_cases d : nx o p fr < be
            · have := cnt_pos o p fr be hp d
              rw [if_pos d, if_neg (by omega), if_neg (by omega)]; exact last
            · have z : cnt o p fr be = 0 := by unfold cnt; rw [if_pos (by omega)]
              rw [if_neg d, if_pos (by omega), show (cnt o p fr be != 0) = false by rw [z]; rfl]; exact last
          | false => simp only [Bool.false_eq_true, if_false]; exact last
      rw [if_neg (by omega), if_neg (by omega)]
      by_cases c : fr ≤ mid
      · rw [if_pos c]
        by_cases d : mid ≤ be
        · rw [if_pos d]
          have e1 := cnt_sub o p fr mid hp c
          have e2 := cnt_sub o p mid be hp d
          have e3 := cnt_sub o p fr be hp (by omega)
          have : wrap64 (cnt o p fr mid + cnt o p mid be) = cnt o p fr be := by unfold wrap64; omega
          rw [this]; simpa using j3
        · rw [if_neg d]; exact j3
      · rw [if_neg c]; exact j3
    have j1 : ∀ (x : Int) (ok : Bool), (ok = true → x = nx o p fr) → (ok = false → x = 0 ∧ 9223372036854775807 < nx o p fr) →
        bulkheadlaw01_NumTicks.j1 6 o p fr mid be x ok false = some true := by
      intro x ok hx hn
      simp only [bulkheadlaw01_NumTicks.j1]
      rw [if_neg (by simp)]
      cases ok with
      | true => simp only [if_true]; exact tail x true hx (fun h => by cases h)
      | false =>
        obtain ⟨rfl, hn'⟩ := hn rfl
        simp only [Bool.false_eq_true, if_false, if_true]
        have w : wrap64 (9223372036854775807 - p) = 9223372036854775807 - p := by unfold wrap64; omega
        have lt : o < fr → nx o p fr < fr + p := nx_lt o p fr hp
        have : o < fr := by
          apply Classical.byContradiction
          intro c
          have : nx o p fr = o := by unfold nx nAhead; rw [if_pos (by omega)]; omega
          omega
        have := lt this
        rw [w, show decide (fr ≤ 9223372036854775807 - p) = false by simp; omega]
        exact tail 0 false (fun h => by cases h) (fun _ => hn')
    have od : decide (o < 0) = false := by simp; omega
    by_cases c : nx o p fr ≤ 9223372036854775807
    · rw [if_pos c]
      simp only [Option.bind_some]
      rw [if_neg (by omega), od]
      simp only [bulkheadlaw01_NumTicks.j0, Bool.false_eq_true, if_false, if_true]
      rw [if_neg (by omega), if_neg (by omega), if_neg (by omega)]
      have w : wrap64 (nx o p fr - o) = nx o p fr - o := by unfold wrap64; omega
      have m : Int.tmod (nx o p fr - o) p = 0 := by
        rw [show nx o p fr - o = p * nAhead o p fr by unfold nx; omega]; exact Int.mul_tmod_right _ _
      rw [w, if_pos m]
      by_cases d : nx o p fr - o ≥ p
      · rw [if_pos d]
        have w2 : wrap64 (nx o p fr - p) = nx o p fr - p := by unfold wrap64; omega
        have lt : nx o p fr < fr + p := by
          by_cases q : o < fr
          · exact nx_lt o p fr hp q
          · have : nx o p fr = o := by unfold nx nAhead; rw [if_pos (by omega)]; omega
            omega
        rw [w2, show decide (nx o p fr - p ≥ fr) = false by simp; omega]
        exact j1 _ true (fun _ => rfl) (fun h => by cases h)
      · rw [if_neg d]; exact j1 _ true (fun _ => rfl) (fun h => by cases h)
    · rw [if_neg c]
      simp only [Option.bind_some]
      rw [if_neg (by omega), od]
      simp only [bulkheadlaw01_NumTicks.j0, Bool.false_eq_true, if_false]
      exact j1 0 false (fun h => by cases h) (fun _ => ⟨rfl, by omega⟩)

end Go.Proofs.Ytceeoifbimlkdaa.Pure
