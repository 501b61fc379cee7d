/- Proved: the law NumLeast answers true for every list and every five numbers: what Lcm tells is the least common multiple, where it is at most the bound, and what divides two numbers divides their Gcd. No conditions. -/
import Derived.Test.YtceeoifbimlkdaaPNumLeastx2
namespace Go.Proofs.Ytceeoifbimlkdaa.Pure
open Go.RowKit Go.Proofs.Ytceeoifbimlkdaa.PNumLeast Go.Proofs.YtceeoifbimlkdaaW.PrintWords Go.Proofs.YtceeoifbimlkdaaW.PrintLast

theorem i64_bd {n : Int} (h : (Lit.int .i64 n).wf = true) : -9223372036854775808 ≤ n ∧ n ≤ 9223372036854775807 := by
  simp [Lit.wf, IntKind.min, IntKind.max, IntKind.signed, IntKind.bits] at h
  omega

def Fits (n : Int) : Prop := -9223372036854775808 ≤ n ∧ n ≤ 9223372036854775807
theorem wrap_fits {n : Int} (h : Fits n) : wrap64 n = n := by unfold Fits at h; unfold wrap64; omega

/-- The greatest common divisor, where it is an int64; else 0. -/
def gcdI (a b : Int) : Int := if Nat.gcd a.natAbs b.natAbs < 9223372036854775808 then (Nat.gcd a.natAbs b.natAbs : Int) else 0

theorem gcd_eq : ∀ (n : Nat) (k : Nat) (a b : Int), Fits a → Fits b → b.natAbs ≤ n → n < k → num_Gcd_int64.l0 k a b = some (gcdI a b) := by
  intro n
  induction n with
  | zero =>
    intro k a b ha hb hn hk
    obtain ⟨k, rfl⟩ : ∃ m, k = m + 1 := ⟨k - 1, by omega⟩
    have : b = 0 := by omega
    subst this
    simp only [num_Gcd_int64.l0, if_true, gcdI, Int.natAbs_zero, Nat.gcd_zero_right, mx]
    unfold Fits at ha
    have e : wrap64 (-a) = -a ∨ (a = -9223372036854775808 ∧ wrap64 (-a) = -9223372036854775808) := by unfold wrap64; omega
    by_cases c : a < 0
    · rw [if_pos c]
      rcases e with e | ⟨e1, e2⟩
      · rw [e, if_neg (show ¬ -a < 0 by omega)]
        by_cases q : a.natAbs < 9223372036854775808
        · rw [if_pos q]; congr 1; omega
        · exfalso; have : wrap64 (-a) ≤ 9223372036854775807 := by unfold wrap64; omega
          omega
      · rw [e2, if_pos (by decide), if_neg (by omega)]
    · rw [if_neg c, if_neg c, if_pos (by omega)]; congr 1; omega
  | succ n ih =>
    intro k a b ha hb hn hk
    obtain ⟨k, rfl⟩ : ∃ m, k = m + 1 := ⟨k - 1, by omega⟩
    by_cases z : b = 0
    · subst z
      have := ih (k + 1) a 0 ha hb (by omega) (by omega)
      exact this
    · simp only [num_Gcd_int64.l0]
      rw [if_neg z]
      by_cases o : b = -1
      · subst o; rw [if_pos rfl]; simp [gcdI]
      · rw [if_neg o]
        have lt : (Int.tmod a b).natAbs < b.natAbs := by rw [Int.natAbs_tmod]; exact Nat.mod_lt _ (by omega)
        have fm : Fits (Int.tmod a b) := by unfold Fits at *; omega
        rw [ih k b (Int.tmod a b) hb fm (by omega) (by omega)]
        unfold gcdI
        rw [Int.natAbs_tmod, Nat.gcd_comm b.natAbs, ← Nat.gcd_rec b.natAbs a.natAbs, Nat.gcd_comm b.natAbs]

theorem gcd_big {B : Nat} (hB : ∀ b : Int, Fits b → b.natAbs ≤ B) (k : Nat) (a b : Int) (ha : Fits a) (hb : Fits b) (hk : B < k) : num_Gcd_int64.f k a b = some (gcdI a b) :=
  gcd_eq B k a b ha hb (hB b hb) hk

/-- Are all from place i on 1 or above? -/
def allB (l : List Int) (i : Nat) : Bool := (l.drop i).all fun x => decide (1 ≤ x)
theorem allB_end (l : List Int) : allB l l.length = true := by simp [allB]
theorem allB_step (l : List Int) (i : Nat) (h : i < l.length) : allB l i = (decide (1 ≤ l.getD i 0) && allB l (i + 1)) := by
  unfold allB
  rw [List.drop_eq_getElem_cons h, List.all_cons, List.getD_eq_getElem?_getD, List.getElem?_eq_getElem h]; rfl
theorem allB_zero (l : List Int) : allB l 0 = true ↔ ∀ x ∈ l, 1 ≤ x := by simp [allB]

/-- The least common multiple of the first i numbers of a list. -/
def lc (l : List Int) (i : Nat) : Nat := (l.take i).foldl (fun m x => Nat.lcm m x.natAbs) 1
theorem lc_zero (l : List Int) : lc l 0 = 1 := by simp [lc]
theorem lc_succ (l : List Int) (i : Nat) (h : i < l.length) : lc l (i + 1) = Nat.lcm (lc l i) (l.getD i 0).natAbs := by
  unfold lc
  rw [List.take_succ_eq_append_getElem h, List.foldl_append]
  simp [List.getD_eq_getElem?_getD, List.getElem?_eq_getElem h]
theorem lc_pos (l : List Int) (hl : ∀ x ∈ l, 1 ≤ x) : ∀ i, i ≤ l.length → 1 ≤ lc l i
  | 0, _ => by rw [lc_zero]; omega
  | i + 1, h => by
    rw [lc_succ l i (by omega)]
    have h1 := lc_pos l hl i (by omega)
    have h2 : 1 ≤ l.getD i 0 := by
      rw [List.getD_eq_getElem?_getD, List.getElem?_eq_getElem (by omega)]; exact hl _ (List.getElem_mem _)
    exact Nat.lcm_pos (by omega) (by omega)
theorem lc_dvd (l : List Int) : ∀ i j, j < i → i ≤ l.length → (l.getD j 0).natAbs ∣ lc l i
  | 0, j, h, _ => by omega
  | i + 1, j, h, hi => by
    rw [lc_succ l i (by omega)]
    by_cases e : j = i
    · subst e; exact Nat.dvd_lcm_right _ _
    · exact Nat.dvd_trans (lc_dvd l i j (by omega) (by omega)) (Nat.dvd_lcm_left _ _)
theorem lc_least (l : List Int) (t : Nat) : ∀ i, i ≤ l.length → (∀ j, j < i → (l.getD j 0).natAbs ∣ t) → lc l i ∣ t
  | 0, _, _ => by rw [lc_zero]; exact Nat.one_dvd _
  | i + 1, hi, h => by
    rw [lc_succ l i (by omega)]
    exact Nat.lcm_dvd (lc_least l t i (by omega) fun j hj => h j (by omega)) (h i (by omega))
theorem lc_mono (l : List Int) (hl : ∀ x ∈ l, 1 ≤ x) (i : Nat) : ∀ d, i + d ≤ l.length → lc l i ≤ lc l (i + d)
  | 0, _ => Nat.le_refl _
  | d + 1, h => by
    have h1 := lc_mono l hl i d (by omega)
    have h2 := lc_pos l hl (i + (d + 1)) h
    rw [← Nat.add_assoc] at *
    rw [lc_succ l (i + d) (by omega)] at *
    exact Nat.le_trans h1 (Nat.le_of_dvd h2 (Nat.dvd_lcm_left _ _))

theorem rd_at (l : List Int) (i : Nat) : rd l (i : Int) = l.getD i 0 := by simp [rd]

theorem getD_fits (l : List Int) (hw : ∀ x ∈ l, (Lit.int .i64 x).wf = true) (i : Nat) : Fits (l.getD i 0) := by
  rw [List.getD_eq_getElem?_getD]
  by_cases h : i < l.length
  · rw [List.getElem?_eq_getElem h]; exact i64_bd (hw _ (List.getElem_mem _))
  · rw [List.getElem?_eq_none (by omega)]; unfold Fits; simp

theorem getD_one (l : List Int) (hl : ∀ x ∈ l, 1 ≤ x) (i : Nat) (h : i < l.length) : 1 ≤ l.getD i 0 := by
  rw [List.getD_eq_getElem?_getD, List.getElem?_eq_getElem h]; exact hl _ (List.getElem_mem _)

theorem test_iff (most M Y : Int) (hm : Fits most) (hp : 1 ≤ M) (hy : 1 ≤ Y) : Y > wrap64 (Int.tdiv most M) ↔ ¬ M * Y ≤ most := by
  obtain ⟨m1, m2⟩ := hm
  have mp : 0 ≤ M * Y := Int.mul_nonneg (by omega) (by omega)
  by_cases nn : 0 ≤ most
  · have t : Int.tdiv most M = most / M := Int.tdiv_eq_ediv_of_nonneg nn
    have b0 : 0 ≤ most / M := Int.ediv_nonneg nn (by omega)
    have b1 : most / M ≤ most := Int.ediv_le_self _ nn
    have key := Int.le_ediv_iff_mul_le (a := Y) (b := most) (c := M) (by omega)
    rw [t, Int.mul_comm M]
    generalize most / M = q at *
    have w0 : wrap64 q = q := wrap_fits ⟨by omega, by omega⟩
    rw [w0]
    omega
  · have t : Int.tdiv most M ≤ 0 := by
      have h := Int.tdiv_nonneg (a := -most) (b := M) (by omega) (by omega)
      rw [Int.neg_tdiv] at h; omega
    have b2 : (Int.tdiv most M).natAbs ≤ most.natAbs := by rw [Int.natAbs_tdiv]; exact Nat.div_le_self _ _
    generalize Int.tdiv most M = q at *
    have w0 : wrap64 q = q := wrap_fits ⟨by omega, by omega⟩
    rw [w0]
    omega

/-- The second loop of Lcm. -/
theorem l2_eq {B : Nat} (hB : ∀ b : Int, Fits b → b.natAbs ≤ B) (l : List Int) (most : Int) (hm : Fits most) (hw : ∀ x ∈ l, (Lit.int .i64 x).wf = true) (hl : ∀ x ∈ l, 1 ≤ x) (hlen : l.length ≤ 140737488351232) :
    ∀ (d i k : Nat), i + d = l.length → (i = 0 ∨ (lc l i : Int) ≤ most) → (B + d + 1) < k →
      num_Lcm_int64.l2 k most (lc l i : Int) l (l.length : Int) (i : Int) = some (if (lc l l.length : Int) ≤ most then ((lc l l.length : Int), true) else (0, false)) := by
  intro d
  induction d with
  | zero =>
    intro i k hi h0 hk
    obtain ⟨k, rfl⟩ : ∃ m, k = m + 1 := ⟨k - 1, by omega⟩
    have : i = l.length := by omega
    subst this
    simp only [num_Lcm_int64.l2]
    rw [if_neg (by omega)]
    by_cases c : (lc l l.length : Int) ≤ most
    · rw [if_neg (by omega), if_pos c]
    · rw [if_pos (by omega), if_neg c]
  | succ d ih =>
    intro i k hi h0 hk
    obtain ⟨k, rfl⟩ : ∃ m, k = m + 1 := ⟨k - 1, by omega⟩
    simp only [num_Lcm_int64.l2]
    rw [if_pos (by omega), if_pos (by omega), if_pos (by omega), rd_at]
    have hx := getD_one l hl i (by omega)
    have fx := getD_fits l hw i
    have hp := lc_pos l hl i (by omega)
    have hle : lc l (i + 1) ≤ lc l l.length := by
      have := lc_mono l hl (i + 1) d (by omega)
      rwa [show i + 1 + d = l.length by omega] at this
    have e1 := lc_succ l i (by omega)
    generalize l.getD i 0 = x at *
    generalize hmm : lc l i = m at *
    have fm : Fits (m : Int) := by
      rcases h0 with h0 | h0
      · subst h0; rw [lc_zero] at hmm; unfold Fits; omega
      · unfold Fits at *; omega
    have hg : num_Gcd_int64.f k m x = some (gcdI m x) := gcd_big hB k m x fm fx (by omega)
    obtain ⟨X, rfl⟩ : ∃ X : Nat, x = (X : Int) := ⟨x.toNat, by omega⟩
    simp only [Int.natAbs_natCast] at *
    have gp : 0 < Nat.gcd m X := Nat.gcd_pos_of_pos_left _ (by omega)
    have gX : Nat.gcd m X ∣ X := Nat.gcd_dvd_right _ _
    have gle : Nat.gcd m X ≤ X := Nat.le_of_dvd (by omega) gX
    have g1 : gcdI m X = (Nat.gcd m X : Int) := by unfold gcdI; simp only [Int.natAbs_natCast]; rw [if_pos (by unfold Fits at fx; omega)]
    rw [hg, g1]
    simp only [Option.bind_some]
    rw [if_neg (by omega), if_neg (by omega)]
    have q1 : Int.tdiv (X : Int) (Nat.gcd m X : Int) = ((X / Nat.gcd m X : Nat) : Int) := by rw [Int.tdiv_eq_ediv_of_nonneg (by omega)]; rfl
    have qle : X / Nat.gcd m X ≤ X := Nat.div_le_self _ _
    have qp : 0 < X / Nat.gcd m X := Nat.div_pos gle gp
    have w1 : wrap64 ((X / Nat.gcd m X : Nat) : Int) = ((X / Nat.gcd m X : Nat) : Int) := wrap_fits (by unfold Fits at *; omega)
    have lcm_eq : m * (X / Nat.gcd m X) = Nat.lcm m X := by
      rw [Nat.lcm, Nat.mul_div_assoc _ gX]
    rw [q1, w1]
    -- the test: y > most / m just if m * y > most
    have test : (((X / Nat.gcd m X : Nat) : Int) > wrap64 (Int.tdiv most (m : Int))) ↔ ¬ ((Nat.lcm m X : Nat) : Int) ≤ most := by
      rw [← lcm_eq, Int.natCast_mul]
      exact test_iff most m _ hm (Int.ofNat_le.2 hp) (Int.ofNat_le.2 qp)
    by_cases c : ((Nat.lcm m X : Nat) : Int) ≤ most
    · rw [if_neg (fun h => test.1 h c)]
      have w2 : wrap64 ((m : Int) * ((X / Nat.gcd m X : Nat) : Int)) = (lc l (i + 1) : Int) := by
        rw [← Int.natCast_mul, lcm_eq, e1]
        refine wrap_fits ?_
        unfold Fits at *; omega
      have w3 : wrap64 ((i : Int) + 1) = ((i + 1 : Nat) : Int) := by unfold wrap64; omega
      rw [w2, w3]
      exact ih (i + 1) k (by omega) (.inr (by rw [e1]; exact c)) (by omega)
    · rw [if_pos (test.2 c), if_neg]
      intro h
      exact c (by rw [← e1]; omega)

/-- The first loop of Lcm: is each 1 or above? -/
theorem l1_eq (l : List Int) (most m : Int) (hlen : l.length ≤ 140737488351232) :
    ∀ (d i k : Nat), i + d = l.length → d < k →
      num_Lcm_int64.l1 k l most m l (l.length : Int) (i : Int) = if allB l i = true then num_Lcm_int64.l2 (k - d - 1) most m l (l.length : Int) 0 else some (0, false) := by
  intro d
  induction d with
  | zero =>
    intro i k hi hk
    obtain ⟨k, rfl⟩ : ∃ m, k = m + 1 := ⟨k - 1, by omega⟩
    obtain rfl : i = l.length := by omega
    simp only [num_Lcm_int64.l1]
    rw [if_neg (by omega), if_pos (allB_end l)]; rfl
  | succ d ih =>
    intro i k hi hk
    obtain ⟨k, rfl⟩ : ∃ m, k = m + 1 := ⟨k - 1, by omega⟩
    simp only [num_Lcm_int64.l1]
    rw [if_pos (by omega), if_pos (by omega), if_pos (by omega), rd_at]
    have w3 : wrap64 ((i : Int) + 1) = ((i + 1 : Nat) : Int) := by unfold wrap64; omega
    rw [allB_step l i (by omega)]
    by_cases c : l.getD i 0 < 1
    · rw [if_pos c, if_neg]
      rw [decide_eq_false (by omega)]; simp
    · rw [if_neg c, w3, ih (i + 1) k (by omega) (by omega), show k + 1 - (d + 1) - 1 = k - d - 1 by omega,
        decide_eq_true (show 1 ≤ l.getD i 0 by omega), Bool.true_and]

/-- What Lcm tells. -/
theorem lcm_eq {B : Nat} (hB : ∀ b : Int, Fits b → b.natAbs ≤ B) (l : List Int) (most : Int) (hm : Fits most) (hw : ∀ x ∈ l, (Lit.int .i64 x).wf = true) (hlen : l.length ≤ 140737488351232) (k : Nat) (hk : B + 2 * l.length + 10 < k) :
    num_Lcm_int64.f k l most = some (if allB l 0 = true then (if (lc l l.length : Int) ≤ most then ((lc l l.length : Int), true) else (0, false)) else (0, false)) := by
  obtain ⟨k, rfl⟩ : ∃ m, k = m + 1 := ⟨k - 1, by omega⟩
  unfold num_Lcm_int64.f
  simp only [num_Lcm_int64.l0]
  have h1 := l1_eq l most 1 hlen l.length 0 k (by omega) (by omega)
  rw [Int.natCast_zero] at h1
  rw [h1]
  by_cases c : allB l 0 = true
  · rw [if_pos c, if_pos c]
    have h2 := l2_eq hB l most hm hw ((allB_zero l).1 c) hlen l.length 0 (k - l.length - 1) (by omega) (.inl rfl) (by omega)
    rw [lc_zero] at h2
    exact h2
  · rw [if_neg c, if_neg c]

theorem tmod_zero (a d : Int) : Int.tmod a d = 0 ↔ d.natAbs ∣ a.natAbs := by
  rw [Int.natAbs_dvd_natAbs]
  exact ⟨Int.dvd_of_tmod_eq_zero, Int.tmod_eq_zero_of_dvd⟩

/-- The end of the law: Gcd. -/
theorem j5_holds {B : Nat} (hB : ∀ b : Int, Fits b → b.natAbs ≤ B) (k : Nat) (a b d : Int) (ha : Fits a) (hb : Fits b) (hk : B < k) : bulkheadlaw01_NumLeast.j5 (k + 1) a b d false = some true := by
  obtain ⟨k, rfl⟩ : ∃ m, k = m + 2 := ⟨k - 2, by have := hB 5 (by unfold Fits; omega); omega⟩
  have hg : num_Gcd_int64.f (k + 2) a b = some (gcdI a b) := gcd_big hB (k + 2) a b ha hb (by omega)
  have la : a.natAbs ≤ 9223372036854775808 := by unfold Fits at ha; omega
  have lb : b.natAbs ≤ 9223372036854775808 := by unfold Fits at hb; omega
  simp only [bulkheadlaw01_NumLeast.j5, Bool.false_eq_true, if_false]
  rw [hg]
  simp only [Option.bind_some]
  by_cases c : Nat.gcd a.natAbs b.natAbs < 9223372036854775808
  · have e : gcdI a b = (Nat.gcd a.natAbs b.natAbs : Int) := by unfold gcdI; rw [if_pos c]
    by_cases z : Nat.gcd a.natAbs b.natAbs = 0
    · have za : a = 0 := by have := Nat.eq_zero_of_gcd_eq_zero_left z; omega
      have zb : b = 0 := by have := Nat.eq_zero_of_gcd_eq_zero_right z; omega
      subst za; subst zb
      rw [e, z]
      simp [bulkheadlaw01_NumLeast.j6, bulkheadlaw01_NumLeast.j7]
    · rw [e, if_neg (by omega), if_pos ((tmod_zero _ _).2 (by rw [Int.natAbs_natCast]; exact Nat.gcd_dvd_left _ _)), if_pos ((tmod_zero _ _).2 (by rw [Int.natAbs_natCast]; exact Nat.gcd_dvd_right _ _)),
        decide_eq_false (show ¬ (Nat.gcd a.natAbs b.natAbs : Int) < 0 by omega)]
      simp only [bulkheadlaw01_NumLeast.j6, Bool.false_eq_true, if_false]
      have j7 : bulkheadlaw01_NumLeast.j7 (k + 1) a b (Nat.gcd a.natAbs b.natAbs : Int) false = some true := by
        simp only [bulkheadlaw01_NumLeast.j7, Bool.false_eq_true, if_false]
        rw [if_neg (by omega)]
      by_cases d0 : d = 0
      · rw [if_pos d0]; exact j7
      · rw [if_neg d0]
        by_cases da : Int.tmod a d = 0
        · rw [if_pos da]
          by_cases db : Int.tmod b d = 0
          · rw [if_pos db, if_neg (by omega)]
            have : Int.tmod (Nat.gcd a.natAbs b.natAbs : Int) d = 0 := (tmod_zero _ _).2 (by rw [Int.natAbs_natCast]; exact Nat.dvd_gcd ((tmod_zero _ _).1 da) ((tmod_zero _ _).1 db))
            rw [this]; exact j7
          · rw [if_neg db]; exact j7
        · rw [if_neg da]; exact j7
  · have e : gcdI a b = 0 := by unfold gcdI; rw [if_neg c]
    rw [e, if_pos rfl]
    have j7 : bulkheadlaw01_NumLeast.j7 (k + 1) a b 0 false = some true := by
      simp only [bulkheadlaw01_NumLeast.j7, Bool.false_eq_true, if_false, if_true]
      have only : ∀ x : Nat, x ≤ 9223372036854775808 → Nat.gcd a.natAbs b.natAbs ∣ x → x = 0 ∨ x = 9223372036854775808 := by
        intro x hx hd
        by_cases z : x = 0
        · exact .inl z
        · have := Nat.le_of_dvd (by omega) hd; omega
      have oa := only _ la (Nat.gcd_dvd_left _ _)
      have ob := only _ lb (Nat.gcd_dvd_right _ _)
      unfold Fits at ha hb
      have ea : a = 0 ∨ a = -9223372036854775808 := by omega
      have eb : b = 0 ∨ b = -9223372036854775808 := by omega
      rcases ea with rfl | rfl <;> rcases eb with rfl | rfl <;> simp
    simp only [bulkheadlaw01_NumLeast.j6, Bool.false_eq_true, if_false, if_true]
    by_cases d0 : d = 0
    · rw [if_pos d0]; exact j7
    · rw [if_neg d0]
      split
      · split <;> exact j7
      · exact j7

/-- The second loop of the law. -/
theorem loop1 {B : Nat} (hB : ∀ b : Int, Fits b → b.natAbs ≤ B) (l : List Int) (times a b d m : Int) (ok : Bool) (ha : Fits a) (hb : Fits b) (hlen : l.length ≤ 140737488351232) (hl : ∀ x ∈ l, 1 ≤ x)
    (hok : ok = true → m ≠ 0 ∧ ∀ j, j < l.length → Int.tmod m (l.getD j 0) = 0) (hend : (∀ j, j < l.length → Int.tmod times (l.getD j 0) = 0) → ok = true ∧ Int.tmod times m = 0 ∨ False) :
    ∀ (e i k : Nat) (common : Bool), i + e = l.length → (B + 2 * e + 20) < k → (common = true → ∀ j, j < i → Int.tmod times (l.getD j 0) = 0) → True →
      bulkheadlaw01_NumLeast.l1 k l times a b d m ok common (i : Int) = some true := by
  intro e
  induction e with
  | zero =>
    intro i k common hi hk hc _
    obtain ⟨k, rfl⟩ : ∃ q, k = q + 2 := ⟨k - 2, by omega⟩
    simp only [bulkheadlaw01_NumLeast.l1]
    rw [if_neg (by omega)]
    have j5 := j5_holds hB k a b d ha hb (by omega)
    cases common with
    | false => simp only [Bool.false_eq_true, if_false]; exact j5
    | true =>
      rcases hend (fun j hj => hc rfl j (by omega)) with ⟨h1, h2⟩ | h
      · subst h1
        simp only [if_true]
        rw [if_neg (hok rfl).1, h2]; exact j5
      · exact h.elim
  | succ e ih =>
    intro i k common hi hk hc _
    obtain ⟨k, rfl⟩ : ∃ q, k = q + 2 := ⟨k - 2, by omega⟩
    simp only [bulkheadlaw01_NumLeast.l1]
    rw [if_pos (by omega)]
    have hx := getD_one l hl i (by omega)
    have w3 : wrap64 ((i : Int) + 1) = ((i + 1 : Nat) : Int) := by unfold wrap64; omega
    have j4 : bulkheadlaw01_NumLeast.j4 (k + 1) l times a b d m ok common (i : Int) false = some true := by
      simp only [bulkheadlaw01_NumLeast.j4, Bool.false_eq_true, if_false]
      cases common with
      | false =>
        simp only [Bool.false_eq_true, if_false]
        rw [w3]
        exact ih (i + 1) k false (by omega) (by omega) (fun h => by cases h) trivial
      | true =>
        simp only [if_true]
        rw [if_pos (by omega), if_pos (by omega), rd_at, if_neg (by omega), w3]
        refine ih (i + 1) k _ (by omega) (by omega) (fun h j hj => ?_) trivial
        by_cases q : j = i
        · subst q; simpa using h
        · exact hc rfl j (by omega)
    cases ok with
    | false => simp only [Bool.false_eq_true, if_false]; exact j4
    | true =>
      simp only [if_true]
      rw [if_pos (by omega), rd_at, if_neg (by omega), (hok rfl).2 i (by omega)]
      exact j4

/-- The same, where common is false from the first round on. -/
theorem loop1f {B : Nat} (hB : ∀ b : Int, Fits b → b.natAbs ≤ B) (l : List Int) (times a b d m : Int) (ok : Bool) (ha : Fits a) (hb : Fits b) (hlen : l.length ≤ 140737488351232) (hl : ∀ x ∈ l, 1 ≤ x)
    (okp : ok = true → m ≠ 0 ∧ ∀ j, j < l.length → Int.tmod m (l.getD j 0) = 0) :
    ∀ (e i k : Nat), i + e = l.length → (B + 2 * e + 20) < k → bulkheadlaw01_NumLeast.l1 k l times a b d m ok false (i : Int) = some true := by
  intro e
  induction e with
  | zero =>
    intro i k hi hk
    obtain ⟨k, rfl⟩ : ∃ q, k = q + 2 := ⟨k - 2, by omega⟩
    simp only [bulkheadlaw01_NumLeast.l1]
    rw [if_neg (by omega)]
    simp only [Bool.false_eq_true, if_false]
    exact j5_holds hB k a b d ha hb (by omega)
  | succ e ih =>
    intro i k hi hk
    obtain ⟨k, rfl⟩ : ∃ q, k = q + 2 := ⟨k - 2, by omega⟩
    simp only [bulkheadlaw01_NumLeast.l1]
    rw [if_pos (by omega)]
    have hx := getD_one l hl i (by omega)
    have w3 : wrap64 ((i : Int) + 1) = ((i + 1 : Nat) : Int) := by unfold wrap64; omega
    have j4 : bulkheadlaw01_NumLeast.j4 (k + 1) l times a b d m ok false (i : Int) false = some true := by
      simp only [bulkheadlaw01_NumLeast.j4, Bool.false_eq_true, if_false]
      rw [w3]
      exact ih (i + 1) k (by omega) (by omega)
    cases hok : ok with
    | false => simp only [Bool.false_eq_true, if_false]; rw [hok] at j4; exact j4
    | true =>
      simp only [if_true]
      rw [if_pos (by omega), rd_at, if_neg (by omega), (okp hok).2 i (by omega)]
      rw [hok] at j4; exact j4

/-- The first loop of the law: are all 1 or above? -/
theorem loop0 (l : List Int) (most times a b d m : Int) (ok : Bool) (hlen : l.length ≤ 140737488351232) :
    ∀ (e i k : Nat) (proper : Bool), i + e = l.length → e < k →
      bulkheadlaw01_NumLeast.l0 k l most times a b d m ok proper (i : Int) = bulkheadlaw01_NumLeast.l0 (k - e) l most times a b d m ok (proper && allB l i) (l.length : Int) := by
  intro e
  induction e with
  | zero =>
    intro i k proper hi hk
    obtain rfl : i = l.length := by omega
    rw [allB_end, Bool.and_true]; rfl
  | succ e ih =>
    intro i k proper hi hk
    obtain ⟨k, rfl⟩ : ∃ q, k = q + 1 := ⟨k - 1, by omega⟩
    have w3 : wrap64 ((i : Int) + 1) = ((i + 1 : Nat) : Int) := by unfold wrap64; omega
    have step : bulkheadlaw01_NumLeast.l0 (k + 1) l most times a b d m ok proper (i : Int) = bulkheadlaw01_NumLeast.l0 k l most times a b d m ok (proper && decide (1 ≤ l.getD i 0)) ((i + 1 : Nat) : Int) := by
      conv => lhs; unfold bulkheadlaw01_NumLeast.l0
      rw [if_pos (by omega), w3]
      cases proper with
      | false => simp
      | true => simp only [if_true, Bool.true_and]; rw [if_pos (by omega), rd_at]
    rw [step, ih (i + 1) k _ (by omega) (by omega), show k + 1 - (e + 1) = k - e by omega, Bool.and_assoc, ← allB_step l i (by omega)]

/-- What stands behind the tests of m. -/
theorem tail {B : Nat} (hB : ∀ b : Int, Fits b → b.natAbs ≤ B) (l : List Int) (most times a b d : Int) (ha : Fits a) (hb : Fits b) (hlen : l.length ≤ 140737488351232) (hl : ∀ x ∈ l, 1 ≤ x) (k : Nat) (hk : B + 2 * l.length + 20 < k)
    (m : Int) (ok : Bool) (h : (ok = true ∧ m = (lc l l.length : Int) ∧ (lc l l.length : Int) ≤ most) ∨ (ok = false ∧ m = 0 ∧ ¬ (lc l l.length : Int) ≤ most)) :
    bulkheadlaw01_NumLeast.j1 (k + 2) l most times a b d m ok false = some true := by
  have hp := lc_pos l hl l.length (Nat.le_refl _)
  have okp : ok = true → m ≠ 0 ∧ ∀ j, j < l.length → Int.tmod m (l.getD j 0) = 0 := by
    intro ho
    rcases h with ⟨_, rfl, _⟩ | ⟨h, _⟩
    · exact ⟨by omega, fun j hj => (tmod_zero _ _).2 (by rw [Int.natAbs_natCast]; exact lc_dvd l l.length j hj (Nat.le_refl _))⟩
    · rw [h] at ho; cases ho
  have l1 : ∀ common : Bool, (common = true → 1 ≤ times ∧ times ≤ most) → bulkheadlaw01_NumLeast.j2 (k + 1) l times a b d m ok common = some true := by
    intro common hcm
    simp only [bulkheadlaw01_NumLeast.j2]
    cases common with
    | true =>
      have ⟨c1, c2⟩ := hcm rfl
      refine loop1 hB l times a b d m ok ha hb hlen hl okp (fun hj => .inl ?_) l.length 0 k true (by omega) hk (fun _ j hj => by omega) trivial
      have dv : lc l l.length ∣ times.natAbs := lc_least l times.natAbs l.length (Nat.le_refl _) fun j hj' => (tmod_zero _ _).1 (hj j hj')
      have le : lc l l.length ≤ times.natAbs := Nat.le_of_dvd (by omega) dv
      rcases h with ⟨ho, rfl, _⟩ | ⟨_, _, hn⟩
      · exact ⟨ho, (tmod_zero _ _).2 (by rw [Int.natAbs_natCast]; exact dv)⟩
      · exact absurd (show (lc l l.length : Int) ≤ most by omega) hn
    | false => exact loop1f hB l times a b d m ok ha hb hlen hl okp l.length 0 k (by omega) hk
  simp only [bulkheadlaw01_NumLeast.j1, Bool.false_eq_true, if_false]
  by_cases t : times ≥ 1
  · rw [if_pos t]; exact l1 _ (fun hc => ⟨t, by simpa using hc⟩)
  · rw [if_neg t]; exact l1 false (fun hc => by cases hc)

theorem NumLeast : bulkheadlaw01_NumLeast.Pure := by
  intro l most times a b d _ hlen hw w1 w2 w3 w4 w5
  have hm : Fits most := i64_bd w1
  have ha : Fits a := i64_bd w3
  have hb : Fits b := i64_bd w4
  have hl' : l.length ≤ 140737488351232 := by omega
  clear w1 w2 w3 w4 w5 hlen
  obtain ⟨B, hB⟩ : ∃ B : Nat, ∀ b : Int, Fits b → b.natAbs ≤ B := ⟨9223372036854775808, fun b h => by unfold Fits at h; omega⟩
  obtain ⟨k, hk⟩ : ∃ k, k = B + 2 * l.length + 21 := ⟨_, rfl⟩
  refine ⟨k + 3 + l.length, ?_⟩
  unfold bulkheadlaw01_NumLeast.f
  by_cases big : (l.length : Int) > 1000
  · rw [if_pos big]
  · rw [if_neg big, lcm_eq hB l most hm hw hl' (k + 3 + l.length) (by omega)]
    simp only [Option.bind_some]
    have h0 := fun m ok => loop0 l most times a b d m ok hl' l.length 0 (k + 3 + l.length) true (by omega) (by omega)
    simp only [Int.natCast_zero, Bool.true_and, Nat.add_sub_cancel] at h0
    rw [h0]
    by_cases cb : allB l 0 = true
    · rw [if_pos cb, cb]
      have c := (allB_zero l).1 cb
      have hp := lc_pos l c l.length (Nat.le_refl _)
      have tl := tail hB l most times a b d ha hb hl' c k (by omega)
      by_cases f : (lc l l.length : Int) ≤ most
      · rw [if_pos f]
        simp only [bulkheadlaw01_NumLeast.l0, if_true]
        rw [if_neg (by omega), if_neg (by omega), if_neg (by omega)]
        exact tl _ true (.inl ⟨rfl, rfl, f⟩)
      · rw [if_neg f]
        simp only [bulkheadlaw01_NumLeast.l0, if_true, Bool.false_eq_true, if_false]
        rw [if_neg (by omega)]
        exact tl 0 false (.inr ⟨rfl, rfl, f⟩)
    · rw [if_neg cb, Bool.eq_false_iff.2 cb]
      simp only [bulkheadlaw01_NumLeast.l0, Bool.false_eq_true, if_false]
      rw [if_neg (by omega)]; rfl

end Go.Proofs.Ytceeoifbimlkdaa.Pure
