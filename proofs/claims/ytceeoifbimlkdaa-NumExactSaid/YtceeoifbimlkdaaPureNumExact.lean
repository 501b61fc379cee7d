/- The law NumExact, plainly: every call of num answers what the document's own answer (bulkheadref01) is, at any numbers. -/
import Derived.Test.YtceeoifbimlkdaaLx3
namespace Go.Proofs.Ytceeoifbimlkdaa.Pure
open Go.Proofs.Ytceeoifbimlkdaa.B
open Go.RowKit Go.Proofs.YtceeoifbimlkdaaW.PrintWords Go.Proofs.YtceeoifbimlkdaaW.PrintLast Go.Proofs.YtceeoifbimlkdaaW.PrintMore

theorem i64_bd {n : Int} (h : (Lit.int .i64 n).wf = true) : -9223372036854775808 ≤ n ∧ n ≤ 9223372036854775807 := by
  simp [Lit.wf, IntKind.min, IntKind.max, IntKind.signed, IntKind.bits] at h
  omega

theorem wrap_fits {n : Int} (h : FitsM n) : wrap64 n = n := by unfold FitsM at h; unfold wrap64; omega
theorem fits_wrap (n : Int) : FitsM (wrap64 n) := by unfold FitsM wrap64; omega

theorem add_eq (a b : Int) (ha : FitsM a) (hb : FitsM b) : num_Add.f a b = some (if FitsM (a + b) then (a + b, true) else (0, false)) := by
  unfold num_Add.f
  by_cases h : FitsM (a + b)
  · rw [if_pos h, wrap_fits h]
    by_cases h0 : b = 0
    · subst h0; simp
    · rw [if_neg]; simp only [bne_iff_ne, ne_eq, decide_eq_decide]; omega
  · rw [if_neg h]
    unfold FitsM at *
    rw [if_pos, if_neg (by omega)]
    unfold wrap64
    simp only [bne_iff_ne, ne_eq, decide_eq_decide]; omega

theorem sub_eq (a b : Int) (ha : FitsM a) (hb : FitsM b) : num_Sub.f a b = some (if FitsM (a - b) then (a - b, true) else (0, false)) := by
  unfold num_Sub.f
  by_cases h : FitsM (a - b)
  · rw [if_pos h, wrap_fits h]
    by_cases h0 : b = 0
    · subst h0; simp
    · rw [if_neg]; simp only [bne_iff_ne, ne_eq, decide_eq_decide]; omega
  · rw [if_neg h]
    unfold FitsM at *
    rw [if_pos, if_neg (by omega)]
    unfold wrap64
    simp only [bne_iff_ne, ne_eq, decide_eq_decide]; omega

theorem tmod_bd (c b : Int) (hb : b ≠ 0) : (Int.tmod c b).natAbs < b.natAbs := by
  rw [Int.natAbs_tmod]; exact Nat.mod_lt _ (by omega)
theorem tdiv_bd (c b : Int) : (Int.tdiv c b).natAbs ≤ c.natAbs := by
  rw [Int.natAbs_tdiv]; exact Nat.div_le_self _ _

theorem mul_eq (k : Nat) (a b : Int) (ha : FitsM a) (hb : FitsM b) : num_Mul.f (k + 2) a b = some (if FitsM (a * b) then (a * b, true) else (0, false)) := by
  unfold num_Mul.f
  by_cases a0 : a = 0
  · subst a0; rw [if_pos rfl]; simp only [num_Mul.j0, if_true, Int.zero_mul]; rw [if_pos (by unfold FitsM; omega)]
  by_cases b0 : b = 0
  · subst b0; rw [if_neg a0]; simp only [num_Mul.j0]; rw [if_pos (by rfl), Int.mul_zero, if_pos (by unfold FitsM; omega)]
  rw [if_neg a0]
  simp only [num_Mul.j0]
  rw [if_neg (by simpa using b0)]
  -- the two products that are 2^63
  have big : ∀ (x y : Int), x = -1 → y = -9223372036854775808 → ¬ FitsM (x * y) ∧ ¬ FitsM (y * x) := by
    intro x y hx hy; subst hx; subst hy; unfold FitsM; omega
  have yes : num_Mul.j1 (k + 1) a b true = some (0, false) := by simp only [num_Mul.j1, if_true]
  have no : ¬ ((a = -1 ∧ b = -9223372036854775808) ∨ (b = -1 ∧ a = -9223372036854775808)) → num_Mul.j1 (k + 1) a b false = some (if FitsM (a * b) then (a * b, true) else (0, false)) := by
    intro hn
    simp only [num_Mul.j1]
    rw [if_neg (by simp), if_neg b0]
    by_cases f : FitsM (a * b)
    · rw [if_pos f, wrap_fits f, Int.mul_tdiv_cancel _ b0, wrap_fits ha, if_pos rfl]
    · rw [if_neg f, if_neg]
      intro e
      have cf := fits_wrap (a * b)
      have hm := Int.mul_tdiv_add_tmod (wrap64 (a * b)) b
      have b1 := tmod_bd (wrap64 (a * b)) b b0
      have b2 := tdiv_bd (wrap64 (a * b)) b
      have same : ∃ j : Int, wrap64 (a * b) = a * b + j * 18446744073709551616 := ⟨-((a * b + 9223372036854775808) / 18446744073709551616), by unfold wrap64; omega⟩
      obtain ⟨j, hj⟩ := same
      by_cases g : FitsM (Int.tdiv (wrap64 (a * b)) b)
      · rw [wrap_fits g] at e
        rw [e, Int.mul_comm b a] at hm
        unfold FitsM at *; omega
      · have c1 : wrap64 (a * b) = -9223372036854775808 := by unfold FitsM at *; omega
        have c2 : Int.tdiv (wrap64 (a * b)) b = 9223372036854775808 := by unfold FitsM at *; omega
        rw [c2] at e hm
        have a1 : a = -9223372036854775808 := by unfold wrap64 at e; omega
        have : b = -1 := by rw [c1] at hm b1; unfold FitsM at *; omega
        exact hn (.inr ⟨this, a1⟩)
  by_cases c1 : a = -1
  · rw [if_pos c1]
    by_cases c2 : b = -9223372036854775808
    · rw [if_pos c2, yes, if_neg (big a b c1 c2).1]
    · rw [if_neg c2]
      have e : (a == -9223372036854775808) = false := by simp; omega
      rw [e]
      have : num_Mul.j1 (k + 1) a b false = some (if FitsM (a * b) then (a * b, true) else (0, false)) := no (by omega)
      split <;> exact this
  · rw [if_neg c1]
    by_cases c2 : b = -1
    · rw [if_pos c2]
      by_cases c3 : a = -9223372036854775808
      · rw [show (a == -9223372036854775808) = true by simpa using c3, yes, if_neg (big b a c2 c3).2]
      · rw [show (a == -9223372036854775808) = false by simpa using c3]; exact no (by omega)
    · rw [if_neg c2]; exact no (by omega)

/-- The quotient and the rest: what Div tells. -/
theorem div_eq (k : Nat) (a b : Int) (ha : FitsM a) (hb : FitsM b) (b0 : b ≠ 0) (hm : ¬ (a = -9223372036854775808 ∧ b = -1)) :
    ∃ q r : Int, num_Div.f (k + 1) a b = some (q, r, true) ∧ q * b + r = a ∧ 0 ≤ r ∧ r < b.natAbs ∧ (Int.tmod a b = 0 → q = Int.tdiv a b ∧ r = 0) := by
  have e : num_Div.f (k + 1) a b = num_Div.j0 (k + 1) a b false := by
    unfold num_Div.f
    rw [if_neg b0]
    split
    · rw [show (b == -1) = false by simp; omega]
    · rfl
  have hm' := Int.mul_tdiv_add_tmod a b
  have b1 := tmod_bd a b b0
  have b2 := tdiv_bd a b
  rw [Int.mul_comm] at hm'
  rw [e]
  simp only [num_Div.j0]
  rw [if_neg (by simp), if_neg b0]
  have qf : FitsM (Int.tdiv a b) := by
    unfold FitsM at *
    by_cases c : Int.tdiv a b = 9223372036854775808
    · exfalso
      have : a = -9223372036854775808 := by omega
      have : b = -1 := by rw [c] at hm'; omega
      exact hm ⟨by assumption, this⟩
    · omega
  rw [wrap_fits qf]
  by_cases c : Int.tmod a b < 0
  · rw [if_pos c]
    by_cases d : b > 0
    · rw [if_pos d]
      have w1 : FitsM (Int.tmod a b + b) := by unfold FitsM at *; omega
      have w2 : FitsM (Int.tdiv a b - 1) := by
        unfold FitsM at *
        have : Int.tdiv a b ≠ -9223372036854775808 := by
          intro h
          rw [h] at hm'
          omega
        omega
      rw [wrap_fits w1, wrap_fits w2]
      refine ⟨_, _, rfl, ?_, by omega, by omega, fun h => by omega⟩
      rw [Int.sub_mul]; omega
    · rw [if_neg d]
      have w1 : FitsM (Int.tmod a b - b) := by unfold FitsM at *; omega
      have w2 : FitsM (Int.tdiv a b + 1) := by
        unfold FitsM at *
        have : Int.tdiv a b ≠ 9223372036854775807 := by
          intro h
          rw [h] at hm'
          omega
        omega
      rw [wrap_fits w1, wrap_fits w2]
      refine ⟨_, _, rfl, ?_, by omega, by omega, fun h => by omega⟩
      rw [Int.add_mul]; omega
  · rw [if_neg c]
    exact ⟨_, _, rfl, hm', by omega, by omega, fun h => ⟨rfl, h⟩⟩

theorem div_bad (k : Nat) (a b : Int) (h : b = 0 ∨ (a = -9223372036854775808 ∧ b = -1)) : num_Div.f (k + 1) a b = some (0, 0, false) := by
  unfold num_Div.f
  by_cases c : b = 0
  · rw [if_pos c]; simp only [num_Div.j0, if_true]
  · rw [if_neg c, if_pos (by omega)]; simp only [num_Div.j0]; rw [if_pos (by simp; omega)]

/-- The greatest common divisor, where it is an int64; else 0. -/
def gcdI (a b : Int) : Int := if Nat.gcd a.natAbs b.natAbs < 9223372036854775808 then (Nat.gcd a.natAbs b.natAbs : Int) else 0


theorem gcd_eq : ∀ (n : Nat) (k : Nat) (a b : Int), FitsM a → FitsM b → b.natAbs ≤ n → n < k → num_Gcd_int64.l0 k a b = some (gcdI a b) := by
  intro n
  induction n with
  | zero =>
    intro k a b ha hb hn hk
    obtain ⟨k, rfl⟩ : ∃ m, k = m + 1 := ⟨k - 1, by omega⟩
    have : b = 0 := by omega
    subst this
    simp only [num_Gcd_int64.l0, if_true, gcdI, Int.natAbs_zero, Nat.gcd_zero_right, mx]
    unfold FitsM at ha
    have e : wrap64 (-a) = -a ∨ (a = -9223372036854775808 ∧ wrap64 (-a) = -9223372036854775808) := by unfold wrap64; omega
    by_cases c : a < 0
    · rw [if_pos c]
      rcases e with e | ⟨e1, e2⟩
      · rw [e, if_neg (show ¬ -a < 0 by omega)]
        by_cases q : a.natAbs < 9223372036854775808
        · rw [if_pos q]; congr 1; omega
        · exfalso; have : wrap64 (-a) ≤ 9223372036854775807 := by unfold wrap64; omega
          omega
      · rw [e2, if_pos (by decide), if_neg (by omega)]
    · rw [if_neg c, if_neg c, if_pos (by omega)]; congr 1; omega
  | succ n ih =>
    intro k a b ha hb hn hk
    obtain ⟨k, rfl⟩ : ∃ m, k = m + 1 := ⟨k - 1, by omega⟩
    by_cases z : b = 0
    · subst z
      have := ih (k + 1) a 0 ha hb (by omega) (by omega)
      exact this
    · simp only [num_Gcd_int64.l0]
      rw [if_neg z]
      by_cases o : b = -1
      · subst o; rw [if_pos rfl]; simp [gcdI]
      · rw [if_neg o]
        have lt : (Int.tmod a b).natAbs < b.natAbs := by rw [Int.natAbs_tmod]; exact Nat.mod_lt _ (by omega)
        have fm : FitsM (Int.tmod a b) := by unfold FitsM at *; omega
        rw [ih k b (Int.tmod a b) hb fm (by omega) (by omega)]
        unfold gcdI
        rw [Int.natAbs_tmod, Nat.gcd_comm b.natAbs, ← Nat.gcd_rec b.natAbs a.natAbs, Nat.gcd_comm b.natAbs]

theorem gcd_big {B : Nat} (hB : ∀ b : Int, FitsM b → b.natAbs ≤ B) (k : Nat) (a b : Int) (ha : FitsM a) (hb : FitsM b) (hk : B < k) : num_Gcd_int64.f k a b = some (gcdI a b) :=
  gcd_eq B k a b ha hb (hB b hb) hk


theorem gcd_eqI : ∀ (n : Nat) (k : Nat) (a b : Int), FitsM a → FitsM b → b.natAbs ≤ n → n < k → num_Gcd_int.l0 k a b = some (gcdI a b) := by
  intro n
  induction n with
  | zero =>
    intro k a b ha hb hn hk
    obtain ⟨k, rfl⟩ : ∃ m, k = m + 1 := ⟨k - 1, by omega⟩
    have : b = 0 := by omega
    subst this
    simp only [num_Gcd_int.l0, if_true, gcdI, Int.natAbs_zero, Nat.gcd_zero_right, mx]
    unfold FitsM at ha
    have e : wrap64 (-a) = -a ∨ (a = -9223372036854775808 ∧ wrap64 (-a) = -9223372036854775808) := by unfold wrap64; omega
    by_cases c : a < 0
    · rw [if_pos c]
      rcases e with e | ⟨e1, e2⟩
      · rw [e, if_neg (show ¬ -a < 0 by omega)]
        by_cases q : a.natAbs < 9223372036854775808
        · rw [if_pos q]; congr 1; omega
        · exfalso; have : wrap64 (-a) ≤ 9223372036854775807 := by unfold wrap64; omega
          omega
      · rw [e2, if_pos (by decide), if_neg (by omega)]
    · rw [if_neg c, if_neg c, if_pos (by omega)]; congr 1; omega
  | succ n ih =>
    intro k a b ha hb hn hk
    obtain ⟨k, rfl⟩ : ∃ m, k = m + 1 := ⟨k - 1, by omega⟩
    by_cases z : b = 0
    · subst z
      have := ih (k + 1) a 0 ha hb (by omega) (by omega)
      exact this
    · simp only [num_Gcd_int.l0]
      rw [if_neg z]
      by_cases o : b = -1
      · subst o; rw [if_pos rfl]; simp [gcdI]
      · rw [if_neg o]
        have lt : (Int.tmod a b).natAbs < b.natAbs := by rw [Int.natAbs_tmod]; exact Nat.mod_lt _ (by omega)
        have fm : FitsM (Int.tmod a b) := by unfold FitsM at *; omega
        rw [ih k b (Int.tmod a b) hb fm (by omega) (by omega)]
        unfold gcdI
        rw [Int.natAbs_tmod, Nat.gcd_comm b.natAbs, ← Nat.gcd_rec b.natAbs a.natAbs, Nat.gcd_comm b.natAbs]

theorem gcd_bigI {B : Nat} (hB : ∀ b : Int, FitsM b → b.natAbs ≤ B) (k : Nat) (a b : Int) (ha : FitsM a) (hb : FitsM b) (hk : B < k) : num_Gcd_int.f k a b = some (gcdI a b) :=
  gcd_eqI B k a b ha hb (hB b hb) hk


/-- Are all from place i on 1 or above? -/
def allB (l : List Int) (i : Nat) : Bool := (l.drop i).all fun x => decide (1 ≤ x)
theorem allB_end (l : List Int) : allB l l.length = true := by simp [allB]
theorem allB_step (l : List Int) (i : Nat) (h : i < l.length) : allB l i = (decide (1 ≤ l.getD i 0) && allB l (i + 1)) := by
  unfold allB
  rw [List.drop_eq_getElem_cons h, List.all_cons, List.getD_eq_getElem?_getD, List.getElem?_eq_getElem h]; rfl
theorem allB_zero (l : List Int) : allB l 0 = true ↔ ∀ x ∈ l, 1 ≤ x := by simp [allB]

/-- The least common multiple of the first i numbers of a list. -/
def lc (l : List Int) (i : Nat) : Nat := (l.take i).foldl (fun m x => Nat.lcm m x.natAbs) 1
theorem lc_zero (l : List Int) : lc l 0 = 1 := by simp [lc]
theorem lc_succ (l : List Int) (i : Nat) (h : i < l.length) : lc l (i + 1) = Nat.lcm (lc l i) (l.getD i 0).natAbs := by
  unfold lc
  rw [List.take_succ_eq_append_getElem h, List.foldl_append]
  simp [List.getD_eq_getElem?_getD, List.getElem?_eq_getElem h]
theorem lc_pos (l : List Int) (hl : ∀ x ∈ l, 1 ≤ x) : ∀ i, i ≤ l.length → 1 ≤ lc l i
  | 0, _ => by rw [lc_zero]; omega
  | i + 1, h => by
    rw [lc_succ l i (by omega)]
    have h1 := lc_pos l hl i (by omega)
    have h2 : 1 ≤ l.getD i 0 := by
      rw [List.getD_eq_getElem?_getD, List.getElem?_eq_getElem (by omega)]; exact hl _ (List.getElem_mem _)
    exact Nat.lcm_pos (by omega) (by omega)
theorem lc_dvd (l : List Int) : ∀ i j, j < i → i ≤ l.length → (l.getD j 0).natAbs ∣ lc l i
  | 0, j, h, _ => by omega
  | i + 1, j, h, hi => by
    rw [lc_succ l i (by omega)]
    by_cases e : j = i
    · subst e; exact Nat.dvd_lcm_right _ _
    · exact Nat.dvd_trans (lc_dvd l i j (by omega) (by omega)) (Nat.dvd_lcm_left _ _)
theorem lc_least (l : List Int) (t : Nat) : ∀ i, i ≤ l.length → (∀ j, j < i → (l.getD j 0).natAbs ∣ t) → lc l i ∣ t
  | 0, _, _ => by rw [lc_zero]; exact Nat.one_dvd _
  | i + 1, hi, h => by
    rw [lc_succ l i (by omega)]
    exact Nat.lcm_dvd (lc_least l t i (by omega) fun j hj => h j (by omega)) (h i (by omega))
theorem lc_mono (l : List Int) (hl : ∀ x ∈ l, 1 ≤ x) (i : Nat) : ∀ d, i + d ≤ l.length → lc l i ≤ lc l (i + d)
  | 0, _ => Nat.le_refl _
  | d + 1, h => by
    have h1 := lc_mono l hl i d (by omega)
    have h2 := lc_pos l hl (i + (d + 1)) h
    rw [← Nat.add_assoc] at *
    rw [lc_succ l (i + d) (by omega)] at *
    exact Nat.le_trans h1 (Nat.le_of_dvd h2 (Nat.dvd_lcm_left _ _))

theorem rd_at (l : List Int) (i : Nat) : rd l (i : Int) = l.getD i 0 := by simp [rd]

theorem getD_fits (l : List Int) (hw : ∀ x ∈ l, (Lit.int .i64 x).wf = true) (i : Nat) : FitsM (l.getD i 0) := by
  rw [List.getD_eq_getElem?_getD]
  by_cases h : i < l.length
  · rw [List.getElem?_eq_getElem h]; exact i64_bd (hw _ (List.getElem_mem _))
  · rw [List.getElem?_eq_none (by omega)]; unfold FitsM; simp

theorem getD_one (l : List Int) (hl : ∀ x ∈ l, 1 ≤ x) (i : Nat) (h : i < l.length) : 1 ≤ l.getD i 0 := by
  rw [List.getD_eq_getElem?_getD, List.getElem?_eq_getElem h]; exact hl _ (List.getElem_mem _)

theorem test_iff (most M Y : Int) (hm : FitsM most) (hp : 1 ≤ M) (hy : 1 ≤ Y) : Y > wrap64 (Int.tdiv most M) ↔ ¬ M * Y ≤ most := by
  obtain ⟨m1, m2⟩ := hm
  have mp : 0 ≤ M * Y := Int.mul_nonneg (by omega) (by omega)
  by_cases nn : 0 ≤ most
  · have t : Int.tdiv most M = most / M := Int.tdiv_eq_ediv_of_nonneg nn
    have b0 : 0 ≤ most / M := Int.ediv_nonneg nn (by omega)
    have b1 : most / M ≤ most := Int.ediv_le_self _ nn
    have key := Int.le_ediv_iff_mul_le (a := Y) (b := most) (c := M) (by omega)
    rw [t, Int.mul_comm M]
    generalize most / M = q at *
    have w0 : wrap64 q = q := wrap_fits ⟨by omega, by omega⟩
    rw [w0]
    omega
  · have t : Int.tdiv most M ≤ 0 := by
      have h := Int.tdiv_nonneg (a := -most) (b := M) (by omega) (by omega)
      rw [Int.neg_tdiv] at h; omega
    have b2 : (Int.tdiv most M).natAbs ≤ most.natAbs := by rw [Int.natAbs_tdiv]; exact Nat.div_le_self _ _
    generalize Int.tdiv most M = q at *
    have w0 : wrap64 q = q := wrap_fits ⟨by omega, by omega⟩
    rw [w0]
    omega


/-- The second loop of Lcm. -/
theorem l2_eq {B : Nat} (hB : ∀ b : Int, FitsM b → b.natAbs ≤ B) (l : List Int) (most : Int) (hm : FitsM most) (hw : ∀ x ∈ l, (Lit.int .i64 x).wf = true) (hl : ∀ x ∈ l, 1 ≤ x) (hlen : l.length ≤ 140737488351232) :
    ∀ (d i k : Nat), i + d = l.length → (i = 0 ∨ (lc l i : Int) ≤ most) → (B + d + 1) < k →
      num_Lcm_int64.l2 k most (lc l i : Int) l (l.length : Int) (i : Int) = some (if (lc l l.length : Int) ≤ most then ((lc l l.length : Int), true) else (0, false)) := by
  intro d
  induction d with
  | zero =>
    intro i k hi h0 hk
    obtain ⟨k, rfl⟩ : ∃ m, k = m + 1 := ⟨k - 1, by omega⟩
    have : i = l.length := by omega
    subst this
    simp only [num_Lcm_int64.l2]
    rw [if_neg (by omega)]
    by_cases c : (lc l l.length : Int) ≤ most
    · rw [if_neg (by omega), if_pos c]
    · rw [if_pos (by omega), if_neg c]
  | succ d ih =>
    intro i k hi h0 hk
    obtain ⟨k, rfl⟩ : ∃ m, k = m + 1 := ⟨k - 1, by omega⟩
    simp only [num_Lcm_int64.l2]
    rw [if_pos (by omega), if_pos (by omega), if_pos (by omega), rd_at]
    have hx := getD_one l hl i (by omega)
    have fx := getD_fits l hw i
    have hp := lc_pos l hl i (by omega)
    have hle : lc l (i + 1) ≤ lc l l.length := by
      have := lc_mono l hl (i + 1) d (by omega)
      rwa [show i + 1 + d = l.length by omega] at this
    have e1 := lc_succ l i (by omega)
    generalize l.getD i 0 = x at *
    generalize hmm : lc l i = m at *
    have fm : FitsM (m : Int) := by
      rcases h0 with h0 | h0
      · subst h0; rw [lc_zero] at hmm; unfold FitsM; omega
      · unfold FitsM at *; omega
    have hg : num_Gcd_int64.f k m x = some (gcdI m x) := gcd_big hB k m x fm fx (by omega)
    obtain ⟨X, rfl⟩ : ∃ X : Nat, x = (X : Int) := ⟨x.toNat, by omega⟩
    simp only [Int.natAbs_natCast] at *
    have gp : 0 < Nat.gcd m X := Nat.gcd_pos_of_pos_left _ (by omega)
    have gX : Nat.gcd m X ∣ X := Nat.gcd_dvd_right _ _
    have gle : Nat.gcd m X ≤ X := Nat.le_of_dvd (by omega) gX
    have g1 : gcdI m X = (Nat.gcd m X : Int) := by unfold gcdI; simp only [Int.natAbs_natCast]; rw [if_pos (by unfold FitsM at fx; omega)]
    rw [hg, g1]
    simp only [Option.bind_some]
    rw [if_neg (by omega), if_neg (by omega)]
    have q1 : Int.tdiv (X : Int) (Nat.gcd m X : Int) = ((X / Nat.gcd m X : Nat) : Int) := by rw [Int.tdiv_eq_ediv_of_nonneg (by omega)]; rfl
    have qle : X / Nat.gcd m X ≤ X := Nat.div_le_self _ _
    have qp : 0 < X / Nat.gcd m X := Nat.div_pos gle gp
    have w1 : wrap64 ((X / Nat.gcd m X : Nat) : Int) = ((X / Nat.gcd m X : Nat) : Int) := wrap_fits (by unfold FitsM at *; omega)
    have lcm_eq : m * (X / Nat.gcd m X) = Nat.lcm m X := by
      rw [Nat.lcm, Nat.mul_div_assoc _ gX]
    rw [q1, w1]
    -- the test: y > most / m just if m * y > most
    have test : (((X / Nat.gcd m X : Nat) : Int) > wrap64 (Int.tdiv most (m : Int))) ↔ ¬ ((Nat.lcm m X : Nat) : Int) ≤ most := by
      rw [← lcm_eq, Int.natCast_mul]
      exact test_iff most m _ hm (Int.ofNat_le.2 hp) (Int.ofNat_le.2 qp)
    by_cases c : ((Nat.lcm m X : Nat) : Int) ≤ most
    · rw [if_neg (fun h => test.1 h c)]
      have w2 : wrap64 ((m : Int) * ((X / Nat.gcd m X : Nat) : Int)) = (lc l (i + 1) : Int) := by
        rw [← Int.natCast_mul, lcm_eq, e1]
        refine wrap_fits ?_
        unfold FitsM at *; omega
      have w3 : wrap64 ((i : Int) + 1) = ((i + 1 : Nat) : Int) := by unfold wrap64; omega
      rw [w2, w3]
      exact ih (i + 1) k (by omega) (.inr (by rw [e1]; exact c)) (by omega)
    · rw [if_pos (test.2 c), if_neg]
      intro h
      exact c (by rw [← e1]; omega)

/-- The first loop of Lcm: is each 1 or above? -/
theorem l1_eq (l : List Int) (most m : Int) (hlen : l.length ≤ 140737488351232) :
    ∀ (d i k : Nat), i + d = l.length → d < k →
      num_Lcm_int64.l1 k l most m l (l.length : Int) (i : Int) = if allB l i = true then num_Lcm_int64.l2 (k - d - 1) most m l (l.length : Int) 0 else some (0, false) := by
  intro d
  induction d with
  | zero =>
    intro i k hi hk
    obtain ⟨k, rfl⟩ : ∃ m, k = m + 1 := ⟨k - 1, by omega⟩
    obtain rfl : i = l.length := by omega
    simp only [num_Lcm_int64.l1]
    rw [if_neg (by omega), if_pos (allB_end l)]; rfl
  | succ d ih =>
    intro i k hi hk
    obtain ⟨k, rfl⟩ : ∃ m, k = m + 1 := ⟨k - 1, by omega⟩
    simp only [num_Lcm_int64.l1]
    rw [if_pos (by omega), if_pos (by omega), if_pos (by omega), rd_at]
    have w3 : wrap64 ((i : Int) + 1) = ((i + 1 : Nat) : Int) := by unfold wrap64; omega
    rw [allB_step l i (by omega)]
    by_cases c : l.getD i 0 < 1
    · rw [if_pos c, if_neg]
      rw [decide_eq_false (by omega)]; simp
    · rw [if_neg c, w3, ih (i + 1) k (by omega) (by omega), show k + 1 - (d + 1) - 1 = k - d - 1 by omega,
        decide_eq_true (show 1 ≤ l.getD i 0 by omega), Bool.true_and]

/-- What Lcm tells. -/
theorem lcm_eq {B : Nat} (hB : ∀ b : Int, FitsM b → b.natAbs ≤ B) (l : List Int) (most : Int) (hm : FitsM most) (hw : ∀ x ∈ l, (Lit.int .i64 x).wf = true) (hlen : l.length ≤ 140737488351232) (k : Nat) (hk : B + 2 * l.length + 10 < k) :
    num_Lcm_int64.f k l most = some (if allB l 0 = true then (if (lc l l.length : Int) ≤ most then ((lc l l.length : Int), true) else (0, false)) else (0, false)) := by
  obtain ⟨k, rfl⟩ : ∃ m, k = m + 1 := ⟨k - 1, by omega⟩
  unfold num_Lcm_int64.f
  simp only [num_Lcm_int64.l0]
  have h1 := l1_eq l most 1 hlen l.length 0 k (by omega) (by omega)
  rw [Int.natCast_zero] at h1
  rw [h1]
  by_cases c : allB l 0 = true
  · rw [if_pos c, if_pos c]
    have h2 := l2_eq hB l most hm hw ((allB_zero l).1 c) hlen l.length 0 (k - l.length - 1) (by omega) (.inl rfl) (by omega)
    rw [lc_zero] at h2
    exact h2
  · rw [if_neg c, if_neg c]

/-- The second loop of Lcm. -/
theorem l2_eqI {B : Nat} (hB : ∀ b : Int, FitsM b → b.natAbs ≤ B) (l : List Int) (most : Int) (hm : FitsM most) (hw : ∀ x ∈ l, (Lit.int .i64 x).wf = true) (hl : ∀ x ∈ l, 1 ≤ x) (hlen : l.length ≤ 140737488351232) :
    ∀ (d i k : Nat), i + d = l.length → (i = 0 ∨ (lc l i : Int) ≤ most) → (B + d + 1) < k →
      num_Lcm_int.l2 k most (lc l i : Int) l (l.length : Int) (i : Int) = some (if (lc l l.length : Int) ≤ most then ((lc l l.length : Int), true) else (0, false)) := by
  intro d
  induction d with
  | zero =>
    intro i k hi h0 hk
    obtain ⟨k, rfl⟩ : ∃ m, k = m + 1 := ⟨k - 1, by omega⟩
    have : i = l.length := by omega
    subst this
    simp only [num_Lcm_int.l2]
    rw [if_neg (by omega)]
    by_cases c : (lc l l.length : Int) ≤ most
    · rw [if_neg (by omega), if_pos c]
    · rw [if_pos (by omega), if_neg c]
  | succ d ih =>
    intro i k hi h0 hk
    obtain ⟨k, rfl⟩ : ∃ m, k = m + 1 := ⟨k - 1, by omega⟩
    simp only [num_Lcm_int.l2]
    rw [if_pos (by omega), if_pos (by omega), if_pos (by omega), rd_at]
    have hx := getD_one l hl i (by omega)
    have fx := getD_fits l hw i
    have hp := lc_pos l hl i (by omega)
    have hle : lc l (i + 1) ≤ lc l l.length := by
      have := lc_mono l hl (i + 1) d (by omega)
      rwa [show i + 1 + d = l.length by omega] at this
    have e1 := lc_succ l i (by omega)
    generalize l.getD i 0 = x at *
    generalize hmm : lc l i = m at *
    have fm : FitsM (m : Int) := by
      rcases h0 with h0 | h0
      · subst h0; rw [lc_zero] at hmm; unfold FitsM; omega
      · unfold FitsM at *; omega
    have hg : num_Gcd_int.f k m x = some (gcdI m x) := gcd_bigI hB k m x fm fx (by omega)
    obtain ⟨X, rfl⟩ : ∃ X : Nat, x = (X : Int) := ⟨x.toNat, by omega⟩
    simp only [Int.natAbs_natCast] at *
    have gp : 0 < Nat.gcd m X := Nat.gcd_pos_of_pos_left _ (by omega)
    have gX : Nat.gcd m X ∣ X := Nat.gcd_dvd_right _ _
    have gle : Nat.gcd m X ≤ X := Nat.le_of_dvd (by omega) gX
    have g1 : gcdI m X = (Nat.gcd m X : Int) := by unfold gcdI; simp only [Int.natAbs_natCast]; rw [if_pos (by unfold FitsM at fx; omega)]
    rw [hg, g1]
    simp only [Option.bind_some]
    rw [if_neg (by omega), if_neg (by omega)]
    have q1 : Int.tdiv (X : Int) (Nat.gcd m X : Int) = ((X / Nat.gcd m X : Nat) : Int) := by rw [Int.tdiv_eq_ediv_of_nonneg (by omega)]; rfl
    have qle : X / Nat.gcd m X ≤ X := Nat.div_le_self _ _
    have qp : 0 < X / Nat.gcd m X := Nat.div_pos gle gp
    have w1 : wrap64 ((X / Nat.gcd m X : Nat) : Int) = ((X / Nat.gcd m X : Nat) : Int) := wrap_fits (by unfold FitsM at *; omega)
    have lcm_eq : m * (X / Nat.gcd m X) = Nat.lcm m X := by
      rw [Nat.lcm, Nat.mul_div_assoc _ gX]
    rw [q1, w1]
    -- the test: y > most / m just if m * y > most
    have test : (((X / Nat.gcd m X : Nat) : Int) > wrap64 (Int.tdiv most (m : Int))) ↔ ¬ ((Nat.lcm m X : Nat) : Int) ≤ most := by
      rw [← lcm_eq, Int.natCast_mul]
      exact test_iff most m _ hm (Int.ofNat_le.2 hp) (Int.ofNat_le.2 qp)
    by_cases c : ((Nat.lcm m X : Nat) : Int) ≤ most
    · rw [if_neg (fun h => test.1 h c)]
      have w2 : wrap64 ((m : Int) * ((X / Nat.gcd m X : Nat) : Int)) = (lc l (i + 1) : Int) := by
        rw [← Int.natCast_mul, lcm_eq, e1]
        refine wrap_fits ?_
        unfold FitsM at *; omega
      have w3 : wrap64 ((i : Int) + 1) = ((i + 1 : Nat) : Int) := by unfold wrap64; omega
      rw [w2, w3]
      exact ih (i + 1) k (by omega) (.inr (by rw [e1]; exact c)) (by omega)
    · rw [if_pos (test.2 c), if_neg]
      intro h
      exact c (by rw [← e1]; omega)

/-- The first loop of Lcm: is each 1 or above? -/
theorem l1_eqI (l : List Int) (most m : Int) (hlen : l.length ≤ 140737488351232) :
    ∀ (d i k : Nat), i + d = l.length → d < k →
      num_Lcm_int.l1 k l most m l (l.length : Int) (i : Int) = if allB l i = true then num_Lcm_int.l2 (k - d - 1) most m l (l.length : Int) 0 else some (0, false) := by
  intro d
  induction d with
  | zero =>
    intro i k hi hk
    obtain ⟨k, rfl⟩ : ∃ m, k = m + 1 := ⟨k - 1, by omega⟩
    obtain rfl : i = l.length := by omega
    simp only [num_Lcm_int.l1]
    rw [if_neg (by omega), if_pos (allB_end l)]; rfl
  | succ d ih =>
    intro i k hi hk
    obtain ⟨k, rfl⟩ : ∃ m, k = m + 1 := ⟨k - 1, by omega⟩
    simp only [num_Lcm_int.l1]
    rw [if_pos (by omega), if_pos (by omega), if_pos (by omega), rd_at]
    have w3 : wrap64 ((i : Int) + 1) = ((i + 1 : Nat) : Int) := by unfold wrap64; omega
    rw [allB_step l i (by omega)]
    by_cases c : l.getD i 0 < 1
    · rw [if_pos c, if_neg]
      rw [decide_eq_false (by omega)]; simp
    · rw [if_neg c, w3, ih (i + 1) k (by omega) (by omega), show k + 1 - (d + 1) - 1 = k - d - 1 by omega,
        decide_eq_true (show 1 ≤ l.getD i 0 by omega), Bool.true_and]

/-- What Lcm tells. -/
theorem lcm_eqI {B : Nat} (hB : ∀ b : Int, FitsM b → b.natAbs ≤ B) (l : List Int) (most : Int) (hm : FitsM most) (hw : ∀ x ∈ l, (Lit.int .i64 x).wf = true) (hlen : l.length ≤ 140737488351232) (k : Nat) (hk : B + 2 * l.length + 10 < k) :
    num_Lcm_int.f k l most = some (if allB l 0 = true then (if (lc l l.length : Int) ≤ most then ((lc l l.length : Int), true) else (0, false)) else (0, false)) := by
  obtain ⟨k, rfl⟩ : ∃ m, k = m + 1 := ⟨k - 1, by omega⟩
  unfold num_Lcm_int.f
  simp only [num_Lcm_int.l0]
  have h1 := l1_eqI l most 1 hlen l.length 0 k (by omega) (by omega)
  rw [Int.natCast_zero] at h1
  rw [h1]
  by_cases c : allB l 0 = true
  · rw [if_pos c, if_pos c]
    have h2 := l2_eqI hB l most hm hw ((allB_zero l).1 c) hlen l.length 0 (k - l.length - 1) (by omega) (.inl rfl) (by omega)
    rw [lc_zero] at h2
    exact h2
  · rw [if_neg c, if_neg c]

/-- How many of o, o + p, o + 2 p, .. lie below x. -/
def nAhead (o p x : Int) : Int := if x ≤ o then 0 else (x - o - 1) / p + 1
/-- The least of them that is x or above. -/
def nx (o p x : Int) : Int := o + p * nAhead o p x

theorem nAhead_nonneg (o p x : Int) (hp : 1 ≤ p) : 0 ≤ nAhead o p x := by
  unfold nAhead
  split
  · omega
  · have := Int.ediv_nonneg (a := x - o - 1) (b := p) (by omega) (by omega); omega

theorem nx_ge (o p x : Int) (hp : 1 ≤ p) : x ≤ nx o p x ∧ o ≤ nx o p x := by
  have h0 := nAhead_nonneg o p x hp
  have h1 : 0 ≤ p * nAhead o p x := Int.mul_nonneg (by omega) h0
  refine ⟨?_, by unfold nx; omega⟩
  unfold nx nAhead at *
  split
  · omega
  · have e := Int.mul_ediv_add_emod (x - o - 1) p
    have := Int.emod_lt_of_pos (x - o - 1) (show 0 < p by omega)
    rw [Int.mul_add]; omega

theorem nx_lt (o p x : Int) (hp : 1 ≤ p) (h : o < x) : nx o p x < x + p := by
  unfold nx nAhead
  rw [if_neg (by omega)]
  have e := Int.mul_ediv_add_emod (x - o - 1) p
  have := Int.emod_nonneg (x - o - 1) (show p ≠ 0 by omega)
  rw [Int.mul_add]; omega

/-- The next multiple, by the rest. -/
theorem nx_rest (o p x : Int) (hp : 1 ≤ p) (h : o < x) :
    nx o p x = if (x - o) % p = 0 then x else x - (x - o) % p + p := by
  unfold nx nAhead
  rw [if_neg (by omega)]
  have e := Int.mul_ediv_add_emod (x - o - 1) p
  have l := Int.emod_lt_of_pos (x - o - 1) (show 0 < p by omega)
  have n := Int.emod_nonneg (x - o - 1) (show p ≠ 0 by omega)
  by_cases c : (x - o - 1) % p + 1 = p
  · have m : (x - o) % p = 0 := by
      have : x - o = p * ((x - o - 1) / p + 1) := by rw [Int.mul_add]; omega
      rw [this, Int.mul_emod_right]
    rw [if_pos m, Int.mul_add]; omega
  · have m : (x - o) % p = (x - o - 1) % p + 1 := by
      have : x - o = (x - o - 1) % p + 1 + p * ((x - o - 1) / p) := by omega
      rw [this, Int.add_mul_emod_self_left, Int.emod_eq_of_lt (by omega) (by omega)]
      rw [← this]
    rw [m, if_neg (by omega), Int.mul_add]; omega

theorem nx_self (o p x : Int) (hp : 1 ≤ p) : nx o p x = x ↔ (o ≤ x ∧ (x - o) % p = 0) := by
  by_cases h : o < x
  · rw [nx_rest o p x hp h]
    have := Int.emod_lt_of_pos (x - o) (show 0 < p by omega)
    split
    · constructor
      · intro; exact ⟨by omega, by assumption⟩
      · intro; rfl
    · constructor
      · intro; omega
      · rintro ⟨_, e⟩; exact absurd e (by assumption)
  · have : nx o p x = o := by unfold nx nAhead; rw [if_pos (by omega)]; omega
    rw [this]
    constructor
    · intro e; subst e; simp
    · intro; omega

/-- How many from one on and below another. -/
def cnt (o p fr be : Int) : Int := if be ≤ nx o p fr then 0 else (be - 1 - nx o p fr) / p + 1

theorem cnt_sub (o p fr be : Int) (hp : 1 ≤ p) (h : fr ≤ be) : cnt o p fr be = nAhead o p be - nAhead o p fr := by
  unfold cnt
  have g := nx_ge o p fr hp
  have n0 := nAhead_nonneg o p fr hp
  split
  · rename_i hb
    by_cases c : be ≤ o
    · unfold nAhead; rw [if_pos c, if_pos (by omega)]; omega
    · by_cases d : fr ≤ o
      · have : nx o p fr = o := by unfold nx nAhead; rw [if_pos d]; omega
        omega
      · have e1 := Int.mul_ediv_add_emod (be - o - 1) p
        have e2 := Int.mul_ediv_add_emod (fr - o - 1) p
        have l1 := Int.emod_nonneg (be - o - 1) (show p ≠ 0 by omega)
        have le : (fr - o - 1) / p ≤ (be - o - 1) / p := Int.ediv_le_ediv (by omega) (by omega)
        have hb' : be - o - 1 < p * ((fr - o - 1) / p + 1) := by
          unfold nx nAhead at hb; rw [if_neg (by omega)] at hb; omega
        have lt : (be - o - 1) / p < (fr - o - 1) / p + 1 := Int.ediv_lt_of_lt_mul (by omega) (by rw [Int.mul_comm]; exact hb')
        unfold nAhead; rw [if_neg (by omega), if_neg (by omega)]; omega
  · rename_i hb
    have e : be - 1 - nx o p fr = be - o - 1 + p * (-(nAhead o p fr)) := by unfold nx; rw [Int.mul_neg]; omega
    rw [e, Int.add_mul_ediv_left _ _ (by omega)]
    have : nAhead o p be = (be - o - 1) / p + 1 := by unfold nAhead; rw [if_neg (by omega)]
    omega

theorem cnt_zero (o p fr be : Int) (hp : 1 ≤ p) (h : be ≤ fr) : cnt o p fr be = 0 := by
  unfold cnt; have := nx_ge o p fr hp; rw [if_pos (by omega)]

theorem cnt_pos (o p fr be : Int) (hp : 1 ≤ p) (h : nx o p fr < be) : 1 ≤ cnt o p fr be := by
  unfold cnt; rw [if_neg (by omega)]
  have := Int.ediv_nonneg (a := be - 1 - nx o p fr) (b := p) (by omega) (by omega); omega

theorem cnt_le (o p fr be : Int) (hp : 1 ≤ p) (ho : 0 ≤ o) (h : be ≤ 9223372036854775807) : 0 ≤ cnt o p fr be ∧ cnt o p fr be ≤ 9223372036854775807 := by
  by_cases c : nx o p fr < be
  · have := cnt_pos o p fr be hp c
    refine ⟨by omega, ?_⟩
    unfold cnt; rw [if_neg (by omega)]
    have g := nx_ge o p fr hp
    have := Int.ediv_le_self (a := be - 1 - nx o p fr) p (by omega)
    omega
  · unfold cnt; rw [if_pos (by omega)]; omega

theorem next_eq (k : Nat) (o p fr : Int) (hp : 1 ≤ p) (ho : 0 ≤ o) (hp' : p ≤ 9223372036854775807) (ho' : o ≤ 9223372036854775807) (hf : fr ≤ 9223372036854775807) :
    num_NextAt.f (k + 1) o p fr = some (if nx o p fr ≤ 9223372036854775807 then (nx o p fr, true) else (0, false)) := by
  unfold num_NextAt.f
  rw [if_neg (by omega)]
  simp only [num_NextAt.j0]
  rw [if_neg (by simp; omega)]
  by_cases c : fr ≤ o
  · have e : nx o p fr = o := by unfold nx nAhead; rw [if_pos c]; omega
    rw [if_pos c, e, if_pos ho']
  · rw [if_neg c, if_neg (by omega)]
    have w : wrap64 (fr - o) = fr - o := by unfold wrap64; omega
    have t : Int.tmod (fr - o) p = (fr - o) % p := Int.tmod_eq_emod_of_nonneg (by omega)
    rw [w, t, nx_rest o p fr hp (by omega)]
    have l := Int.emod_lt_of_pos (fr - o) (show 0 < p by omega)
    have n := Int.emod_nonneg (fr - o) (show p ≠ 0 by omega)
    have sm : (fr - o) % p ≤ fr - o := by
      have e := Int.mul_ediv_add_emod (fr - o) p
      have q := Int.ediv_nonneg (a := fr - o) (b := p) (by omega) (by omega)
      have := Int.mul_nonneg (a := p) (by omega) q
      omega
    generalize (fr - o) % p = r at *
    by_cases z : r = 0
    · rw [if_pos z, if_pos z, if_pos hf]
    · rw [if_neg z, if_neg z]
      have e : wrap64 (fr - r) = fr - r := by unfold wrap64; omega
      rw [e]
      by_cases f : fr - r + p ≤ 9223372036854775807
      · have e2 : wrap64 (fr - r + p) = fr - r + p := by unfold wrap64; omega
        rw [e2, if_pos f]
        simp only [mx]
        congr 2
        · split <;> omega
        · simp; omega
      · have e2 : wrap64 (fr - r + p) = fr - r + p - 18446744073709551616 := by unfold wrap64; omega
        rw [e2, if_neg f]
        simp only [mx]
        congr 2
        · split <;> omega
        · simp; omega

theorem next_bad (k : Nat) (o p fr : Int) (h : p < 1 ∨ o < 0) : num_NextAt.f (k + 1) o p fr = some (0, false) := by
  unfold num_NextAt.f
  by_cases c : p < 1
  · rw [if_pos c]; simp only [num_NextAt.j0, if_true]
  · rw [if_neg c]; simp only [num_NextAt.j0]; rw [if_pos (by simp; omega)]

theorem count_bad (k : Nat) (o p fr be : Int) (h : p < 1 ∨ o < 0) : num_Count.f (k + 1) o p fr be = some (0, false) := by
  unfold num_Count.f
  by_cases c : p < 1
  · rw [if_pos c]; simp only [num_Count.j0, if_true]
  · rw [if_neg c]; simp only [num_Count.j0]; rw [if_pos (by simp; omega)]


theorem later_eq (t n : Int) (hn : -9223372036854775808 ≤ n ∧ n ≤ 9223372036854775807) :
    num_Later.f t n = some (if 0 ≤ t ∧ t < 1099511627776 ∧ 0 ≤ n ∧ n < 1099511627776 - t then t + n else -1) := by
  unfold num_Later.f wrap64
  repeat' split
  all_goals first | rfl | (exfalso; omega) | (congr 1; omega)

theorem count_eq (k : Nat) (o p fr be : Int) (hp : 1 ≤ p) (ho : 0 ≤ o) (hp' : p ≤ 9223372036854775807) (ho' : o ≤ 9223372036854775807) (hf : fr ≤ 9223372036854775807)
    (hb : -9223372036854775808 ≤ be ∧ be ≤ 9223372036854775807) :
    num_Count.f (k + 2) o p fr be = some (cnt o p fr be, true) := by
  unfold num_Count.f
  rw [if_neg (by omega)]
  simp only [num_Count.j0]
  rw [if_neg (by simp; omega), next_eq k o p fr hp ho hp' ho' hf]
  simp only [Option.bind_some]
  have g := nx_ge o p fr hp
  have bd := cnt_le o p fr be hp ho hb.2
  by_cases c : nx o p fr ≤ 9223372036854775807
  · rw [if_pos c]
    simp only [if_true]
    by_cases d : be ≤ nx o p fr
    · rw [if_pos d]; unfold cnt; rw [if_pos d]
    · rw [if_neg d, if_neg (by omega)]
      have e1 : wrap64 (be - 1) = be - 1 := by unfold wrap64; omega
      have e2 : wrap64 (be - 1 - nx o p fr) = be - 1 - nx o p fr := by unfold wrap64; omega
      have e3 : Int.tdiv (be - 1 - nx o p fr) p = (be - 1 - nx o p fr) / p := Int.tdiv_eq_ediv_of_nonneg (by omega)
      unfold cnt at bd ⊢
      rw [if_neg d] at bd ⊢
      rw [e1, e2, e3]
      have e4 : wrap64 ((be - 1 - nx o p fr) / p) = (be - 1 - nx o p fr) / p := by unfold wrap64; omega
      have e5 : wrap64 ((be - 1 - nx o p fr) / p + 1) = (be - 1 - nx o p fr) / p + 1 := by unfold wrap64; omega
      rw [e4, e5]
  · rw [if_neg c]
    have z : be ≤ nx o p fr := by omega
    unfold cnt; rw [if_pos z]
    simp

/-! ## The document's answers -/
theorem signed_all (s : Bool) (d : Int) (h : 0 ≤ d ∧ d ≤ 18446744073709551615) : bulkheadref01_signed.f s d = some (if s = true then (if d ≤ 9223372036854775808 then (-d, true) else (0, false)) else (if d ≤ 9223372036854775807 then (d, true) else (0, false))) := by
  by_cases c : d ≤ 9223372036854775808
  · rw [signed_eq s d ⟨h.1, c⟩, if_pos c]
  · unfold bulkheadref01_signed.f
    cases s with
    | true => simp only [if_true]; rw [if_pos (by omega), if_neg c]
    | false => simp only [Bool.false_eq_true, if_false]; rw [if_pos (by omega), if_neg (by omega)]
theorem sum_all (s : Bool) (x y : Int) (hx : 0 ≤ x ∧ x ≤ 9223372036854775808) (hy : 0 ≤ y ∧ y ≤ 9223372036854775808) : bulkheadref01_sum.f s x y = some (if s = true then (if x + y ≤ 9223372036854775808 then (-(x + y), true) else (0, false)) else (if x + y ≤ 9223372036854775807 then (x + y, true) else (0, false))) := by
  unfold bulkheadref01_sum.f
  by_cases c : x = 9223372036854775808 ∧ y = 9223372036854775808
  · obtain ⟨cx, cy⟩ := c
    rw [if_pos cx, if_pos cy]
    cases s with
    | true => simp only [if_true]; rw [if_neg (by omega)]
    | false => simp only [Bool.false_eq_true, if_false]; rw [if_neg (by omega)]
  · have e := signed_all s (x + y) (by omega)
    have w : IntKind.u64.wrap (x + y) = x + y := u64_wrap _ (by omega)
    rw [w, e]
    simp only [Option.bind_some]
    by_cases cx : x = 9223372036854775808
    · rw [if_pos cx, if_neg (by omega)]
    · rw [if_neg cx]
theorem refAdd_eq (a b : Int) (ha : FitsM a) (hb : FitsM b) : bulkheadref01_Add.f a b = some (if FitsM (a + b) then (a + b, true) else (0, false)) := by
  have HA := away_eq a ha
  have HB := away_eq b hb
  unfold bulkheadref01_Add.f
  unfold FitsM at ha hb
  by_cases c : (decide (a < 0) != decide (b < 0)) = true
  · have hf : FitsM (a + b) := by
      simp only [bne_iff_ne, ne_eq, decide_eq_decide] at c
      unfold FitsM; omega
    rw [if_pos c, wrap_fits hf, if_pos hf]
  · have c' : (a < 0 ↔ b < 0) := by simpa only [bne_iff_ne, ne_eq, decide_eq_decide, Decidable.not_not] using c
    rw [if_neg c, HA, HB]
    simp only [Option.bind_some]
    rw [sum_all _ _ _ (by omega) (by omega)]
    simp only [Option.bind_some]
    by_cases s : a < 0
    · rw [decide_eq_true s]
      simp only [if_true]
      by_cases f : FitsM (a + b)
      · rw [if_pos f, if_pos (by unfold FitsM at f; omega)]; congr 2; omega
      · rw [if_neg f, if_neg (by unfold FitsM at f; omega)]
    · rw [decide_eq_false s]
      simp only [Bool.false_eq_true, if_false]
      by_cases f : FitsM (a + b)
      · rw [if_pos f, if_pos (by unfold FitsM at f; omega)]; congr 2; omega
      · rw [if_neg f, if_neg (by unfold FitsM at f; omega)]
theorem refSub_eq (a b : Int) (ha : FitsM a) (hb : FitsM b) : bulkheadref01_Sub.f a b = some (if FitsM (a - b) then (a - b, true) else (0, false)) := by
  unfold bulkheadref01_Sub.f
  by_cases c : b = -9223372036854775808
  · rw [if_pos c]
    subst c
    unfold FitsM at ha
    by_cases d : a ≥ 0
    · rw [if_pos d, if_neg (by unfold FitsM; omega)]
    · have f : FitsM (a - -9223372036854775808) := by unfold FitsM; omega
      rw [if_neg d, if_pos f, wrap_fits f]
  · rw [if_neg c]
    have w : wrap64 (-b) = -b := wrap_fits (by unfold FitsM at *; omega)
    rw [w, refAdd_eq a (-b) ha (by unfold FitsM at *; omega)]
    rfl
theorem refMul_eq (a b : Int) (ha : FitsM a) (hb : FitsM b) : bulkheadref01_Mul.f a b = some (if FitsM (a * b) then (a * b, true) else (0, false)) := by
  unfold bulkheadref01_Mul.f; rw [if_pos ⟨ha, hb⟩]
theorem euclid {a b q r : Int} (b0 : b ≠ 0) (h : q * b + r = a) (h0 : 0 ≤ r) (h1 : r < b.natAbs) : q = a / b ∧ r = a % b := by
  have e : a % b = r := by
    rw [← h, Int.add_comm, Int.add_mul_emod_self_right]
    by_cases c : 0 < b
    · exact Int.emod_eq_of_lt h0 (by omega)
    · rw [← Int.emod_neg]; exact Int.emod_eq_of_lt h0 (by omega)
  have k := Int.mul_ediv_add_emod a b
  rw [e] at k
  refine ⟨?_, e.symm⟩
  have : b * q = b * (a / b) := by rw [Int.mul_comm b q]; omega
  exact Int.eq_of_mul_eq_mul_left b0 this
theorem div_full (k : Nat) (a b : Int) (ha : FitsM a) (hb : FitsM b) (b0 : b ≠ 0) (hm : ¬ (a = -9223372036854775808 ∧ b = -1)) : num_Div.f (k + 1) a b = some (a / b, a % b, true) := by
  obtain ⟨q, r, h, h1, h2, h3, _⟩ := div_eq k a b ha hb b0 hm
  obtain ⟨e1, e2⟩ := euclid b0 h1 h2 h3
  rw [h, e1, e2]
set_option maxRecDepth 100000 in
theorem refDiv_full (k : Nat) (a b : Int) (ha : FitsM a) (hb : FitsM b) (b0 : b ≠ 0) (hm : ¬ (a = -9223372036854775808 ∧ b = -1)) : bulkheadref01_Div.f (k + 1) a b = some (a / b, a % b, true) := by
  have HA := away_eq a ha
  have HB := away_eq b hb
  unfold bulkheadref01_Div.f
  rw [if_neg b0, HA, HB]
  simp only [Option.bind_some]
  rw [if_neg (by omega)]
  unfold FitsM at ha hb
  have k1 := Int.mul_tdiv_add_tmod (a.natAbs : Int) (b.natAbs : Int)
  have k2 : Int.tmod (a.natAbs : Int) (b.natAbs : Int) < (b.natAbs : Int) := Int.tmod_lt_of_pos _ (by omega)
  have k3 : 0 ≤ Int.tmod (a.natAbs : Int) (b.natAbs : Int) := Int.tmod_nonneg _ (by omega)
  have k4 : 0 ≤ Int.tdiv (a.natAbs : Int) (b.natAbs : Int) := Int.tdiv_nonneg (by omega) (by omega)
  have k5 := tdiv_bd (a.natAbs : Int) (b.natAbs : Int)
  have kb : b.natAbs = 1 ∨ 2 ≤ b.natAbs := by omega
  have k6 : 2 ≤ b.natAbs → 2 * Int.tdiv (a.natAbs : Int) (b.natAbs : Int) ≤ (a.natAbs : Int) := fun h => by
    have : 2 * Int.tdiv (a.natAbs : Int) (b.natAbs : Int) ≤ (b.natAbs : Int) * Int.tdiv (a.natAbs : Int) (b.natAbs : Int) := Int.mul_le_mul_of_nonneg_right (by omega) k4
    omega
  have k7 : b.natAbs = 1 → Int.tdiv (a.natAbs : Int) (b.natAbs : Int) = (a.natAbs : Int) ∧ Int.tmod (a.natAbs : Int) (b.natAbs : Int) = 0 := fun h => by
    rw [h]; exact ⟨Int.tdiv_one _, Int.tmod_one _⟩
  generalize hQ : Int.tdiv (a.natAbs : Int) (b.natAbs : Int) = Q at *
  generalize hR : Int.tmod (a.natAbs : Int) (b.natAbs : Int) = R at *
  clear hQ hR HA HB
  have fin : ∀ q r : Int, q * b + r = a → 0 ≤ r → r < b.natAbs → (some (q, r, true) : Option (Int × Int × Bool)) = some (a / b, a % b, true) := fun q r h1 h2 h3 => by
    obtain ⟨e1, e2⟩ := euclid b0 h1 h2 h3
    rw [e1, e2]
  have wQ : IntKind.u64.wrap Q = Q := u64_wrap _ (by omega)
  have wQ1 : IntKind.u64.wrap (Q + 1) = Q + 1 := u64_wrap _ (by omega)
  have wR : wrap64 R = R := wrap_fits (by unfold FitsM; omega)
  have wY : IntKind.u64.wrap ((b.natAbs : Int) - R) = (b.natAbs : Int) - R := u64_wrap _ (by omega)
  have P1 : Q * b = (if b < 0 then -((b.natAbs : Int) * Q) else (b.natAbs : Int) * Q) := by
    by_cases c : b < 0
    · rw [if_pos c, show (b.natAbs : Int) = -b by omega, Int.neg_mul, Int.neg_neg, Int.mul_comm]
    · rw [if_neg c, show (b.natAbs : Int) = b by omega, Int.mul_comm]
  have P2 : (-Q) * b = -(Q * b) := Int.neg_mul _ _
  have P3 : (Q + 1) * b = Q * b + b := by rw [Int.add_mul, Int.one_mul]
  have P4 : (-(Q + 1)) * b = -(Q * b + b) := by rw [Int.neg_mul, P3]
  generalize hW : (b.natAbs : Int) * Q = W at *
  rw [wQ]
  by_cases ca : a < 0
  · rw [if_pos ca]
    by_cases cR : R > 0
    · have h2 : 2 ≤ b.natAbs := by rcases kb with h | h; · have := (k7 h).2; omega
                                   · exact h
      have h6 := k6 h2
      rw [decide_eq_true cR]
      simp only [bulkheadref01_Div.j0]
      rw [if_pos trivial, wQ1, signed_all _ _ (by omega), wY]
      have wY1 : wrap64 ((b.natAbs : Int) - R) = (b.natAbs : Int) - R := wrap_fits (by unfold FitsM; omega)
      rw [wY1]
      by_cases cb : b < 0
      · as_aux_lemma =>
        rw [decide_eq_true ca, decide_eq_true cb]
        simp only [bne_self_eq_false, Bool.false_eq_true, if_false, Option.bind_some]
        rw [if_pos (show Q + 1 ≤ 9223372036854775807 by omega)]
        simp only [if_true]
        rw [if_pos cb] at P1
        exact fin _ _ (by omega) (by omega) (by omega)
      · as_aux_lemma =>
        rw [decide_eq_true ca, decide_eq_false cb]
        simp only [show (true != false) = true from rfl, if_true, Option.bind_some]
        rw [if_pos (show Q + 1 ≤ 9223372036854775808 by omega)]
        simp only [if_true]
        rw [if_neg cb] at P1
        exact fin _ _ (by omega) (by omega) (by omega)
    · rw [decide_eq_false cR]
      simp only [bulkheadref01_Div.j0]
      rw [if_neg (by simp), signed_all _ _ (by omega), wR]
      by_cases cb : b < 0
      · as_aux_lemma =>
        rw [decide_eq_true ca, decide_eq_true cb]
        simp only [bne_self_eq_false, Bool.false_eq_true, if_false, Option.bind_some]
        rw [if_pos (show Q ≤ 9223372036854775807 by rcases kb with h | h; · have := (k7 h).1; omega
                                                    · have := k6 h; omega)]
        simp only [if_true]
        rw [if_pos cb] at P1
        exact fin _ _ (by omega) (by omega) (by omega)
      · as_aux_lemma =>
        rw [decide_eq_true ca, decide_eq_false cb]
        simp only [show (true != false) = true from rfl, if_true, Option.bind_some]
        rw [if_pos (show Q ≤ 9223372036854775808 by omega)]
        simp only [if_true]
        rw [if_neg cb] at P1
        exact fin _ _ (by omega) (by omega) (by omega)
  · rw [if_neg ca]
    simp only [bulkheadref01_Div.j0]
    rw [if_neg (by simp), signed_all _ _ (by omega), wR]
    by_cases cb : b < 0
    · as_aux_lemma =>
      rw [decide_eq_false ca, decide_eq_true cb]
      simp only [show (false != true) = true from rfl, if_true, Option.bind_some]
      rw [if_pos (show Q ≤ 9223372036854775808 by omega)]
      simp only [if_true]
      rw [if_pos cb] at P1
      exact fin _ _ (by omega) (by omega) (by omega)
    · as_aux_lemma =>
      rw [decide_eq_false ca, decide_eq_false cb]
      simp only [bne_self_eq_false, Bool.false_eq_true, if_false, Option.bind_some]
      rw [if_pos (show Q ≤ 9223372036854775807 by omega)]
      simp only [if_true]
      rw [if_neg cb] at P1
      exact fin _ _ (by omega) (by omega) (by omega)
theorem refDiv_bad (k : Nat) (a b : Int) (h : b = 0 ∨ (a = -9223372036854775808 ∧ b = -1)) : bulkheadref01_Div.f (k + 1) a b = some (0, 0, false) := by
  by_cases c : b = 0
  · unfold bulkheadref01_Div.f; rw [if_pos c]
  · obtain ⟨rfl, rfl⟩ := h.resolve_left c
    have HA := away_eq (-9223372036854775808) (by unfold FitsM; omega)
    have HB := away_eq (-1) (by unfold FitsM; omega)
    unfold bulkheadref01_Div.f
    rw [if_neg (by omega), HA, HB]
    simp only [Option.bind_some]
    have e1 : (((-9223372036854775808 : Int).natAbs : Nat) : Int) = 9223372036854775808 := rfl
    have e2 : (((-1 : Int).natAbs : Nat) : Int) = 1 := rfl
    rw [e1, e2, Int.tdiv_one, Int.tmod_one, u64_wrap _ (by omega), if_neg (by omega), if_pos (by omega)]
    simp only [bulkheadref01_Div.j0]
    rw [if_neg (by simp), signed_all _ _ (by omega)]
    rfl
theorem refGcd_l0 : ∀ (n k : Nat) (X Y : Nat), (X : Int) ≤ 9223372036854775808 → Y ≤ n → (Y : Int) ≤ 9223372036854775808 → n < k → bulkheadref01_Gcd.l0 k (X : Int) (Y : Int) = some (if Nat.gcd X Y < 9223372036854775808 then (Nat.gcd X Y : Int) else 0) := by
  intro n
  induction n with
  | zero =>
    intro k X Y hX hY hY2 hk
    obtain ⟨k, rfl⟩ : ∃ m, k = m + 1 := ⟨k - 1, by omega⟩
    obtain rfl : Y = 0 := by omega
    simp only [bulkheadref01_Gcd.l0]
    rw [if_pos (by omega), signed_all _ _ (by omega)]
    simp only [Bool.false_eq_true, if_false, Option.bind_some, Nat.gcd_zero_right]
    by_cases c : X < 9223372036854775808
    · rw [if_pos c, if_pos (by omega)]
    · rw [if_neg c, if_neg (by omega)]
  | succ n ih =>
    intro k X Y hX hY hY2 hk
    obtain ⟨k, rfl⟩ : ∃ m, k = m + 1 := ⟨k - 1, by omega⟩
    by_cases z : Y = 0
    · subst z; exact ih (k + 1) X 0 hX (by omega) (by omega) (by omega)
    · simp only [bulkheadref01_Gcd.l0]
      have lt := Nat.mod_lt X (show 0 < Y by omega)
      rw [if_neg (by omega), ← Int.ofNat_tmod, ih k Y (X % Y) hY2 (by omega) (by omega) (by omega)]
      have e : Nat.gcd Y (X % Y) = Nat.gcd X Y := by rw [Nat.gcd_comm Y (X % Y), ← Nat.gcd_rec, Nat.gcd_comm]
      rw [e]
theorem refGcd_eq {B : Nat} (hB : ∀ b : Int, FitsM b → b.natAbs ≤ B) (k : Nat) (a b : Int) (ha : FitsM a) (hb : FitsM b) (hk : B < k) : bulkheadref01_Gcd.f k a b = some (gcdI a b) := by
  have HA := away_eq a ha
  have HB := away_eq b hb
  unfold bulkheadref01_Gcd.f
  rw [HA, HB]
  simp only [Option.bind_some]
  rw [refGcd_l0 B k a.natAbs b.natAbs (by unfold FitsM at ha; omega) (hB b hb) (by unfold FitsM at hb; omega) hk]
  rfl
theorem fits_of_le {n m : Nat} (h : n ≤ m) (f : FitsM (m : Int)) : FitsM (n : Int) := by unfold FitsM at *; omega
theorem fits_le {n : Nat} {x : Int} (h : (n : Int) ≤ x) (f : FitsM x) : FitsM (n : Int) := by unfold FitsM at *; omega
theorem refL1_eq {B : Nat} (hB : ∀ b : Int, FitsM b → b.natAbs ≤ B) (l : List Int) (most : Int) (hm : FitsM most) (hw : ∀ x ∈ l, (Lit.int .i64 x).wf = true) (hl : ∀ x ∈ l, 1 ≤ x) (hlen : l.length ≤ 140737488351232) :
    ∀ (d i k : Nat), i + d = l.length → (i = 0 ∨ (lc l i : Int) ≤ most) → (B + d + 1) < k →
      bulkheadref01_Lcm.l1 k l most (lc l i : Int) (i : Int) = some (if (lc l l.length : Int) ≤ most then ((lc l l.length : Int), true) else (0, false)) := by
  intro d
  induction d with
  | zero =>
    intro i k hi h0 hk
    obtain ⟨k, rfl⟩ : ∃ m, k = m + 1 := ⟨k - 1, by omega⟩
    have : i = l.length := by omega
    subst this
    simp only [bulkheadref01_Lcm.l1]
    rw [if_neg (by omega)]
    by_cases c : (lc l l.length : Int) ≤ most
    · rw [if_neg (by omega), if_pos c]
    · rw [if_pos (by omega), if_neg c]
  | succ d ih =>
    intro i k hi h0 hk
    obtain ⟨k, rfl⟩ : ∃ m, k = m + 1 := ⟨k - 1, by omega⟩
    simp only [bulkheadref01_Lcm.l1]
    rw [if_pos (by omega), if_pos (by omega), rd_at]
    have hx := getD_one l hl i (by omega)
    have fx := getD_fits l hw i
    have hp := lc_pos l hl i (by omega)
    have hle : lc l (i + 1) ≤ lc l l.length := by
      have := lc_mono l hl (i + 1) d (by omega)
      rwa [show i + 1 + d = l.length by omega] at this
    have e1 := lc_succ l i (by omega)
    generalize l.getD i 0 = x at *
    generalize hmm : lc l i = m at *
    have fm : FitsM (m : Int) := by
      rcases h0 with h0 | h0
      · subst h0; rw [lc_zero] at hmm; unfold FitsM; omega
      · unfold FitsM at *; omega
    have hg : bulkheadref01_Gcd.f k m x = some (gcdI m x) := refGcd_eq hB k m x fm fx (by omega)
    obtain ⟨X, rfl⟩ : ∃ X : Nat, x = (X : Int) := ⟨x.toNat, by omega⟩
    simp only [Int.natAbs_natCast] at *
    have gp : 0 < Nat.gcd m X := Nat.gcd_pos_of_pos_left _ (by omega)
    have gX : Nat.gcd m X ∣ X := Nat.gcd_dvd_right _ _
    have gle : Nat.gcd m X ≤ X := Nat.le_of_dvd (by omega) gX
    have g1 : gcdI m X = (Nat.gcd m X : Int) := by unfold gcdI; simp only [Int.natAbs_natCast]; rw [if_pos (by unfold FitsM at fx; omega)]
    rw [hg, g1]
    simp only [Option.bind_some]
    rw [if_neg (by omega)]
    have q1 : Int.tdiv (X : Int) (Nat.gcd m X : Int) = ((X / Nat.gcd m X : Nat) : Int) := by rw [Int.tdiv_eq_ediv_of_nonneg (by omega)]; rfl
    have qle : X / Nat.gcd m X ≤ X := Nat.div_le_self _ _
    have qp : 0 < X / Nat.gcd m X := Nat.div_pos gle gp
    have fq : FitsM ((X / Nat.gcd m X : Nat) : Int) := fits_of_le qle fx
    have w1 : wrap64 ((X / Nat.gcd m X : Nat) : Int) = ((X / Nat.gcd m X : Nat) : Int) := wrap_fits fq
    have lcm_eq : m * (X / Nat.gcd m X) = Nat.lcm m X := by
      rw [Nat.lcm, Nat.mul_div_assoc _ gX]
    rw [q1, w1, refMul_eq _ _ fm fq, ← Int.natCast_mul, lcm_eq]
    simp only [Option.bind_some]
    have w3 : wrap64 ((i : Int) + 1) = ((i + 1 : Nat) : Int) := by unfold wrap64; omega
    by_cases c : ((Nat.lcm m X : Nat) : Int) ≤ most
    · rw [if_pos (fits_le c hm)]
      simp only [if_true]
      rw [if_neg (by omega), w3, ← e1]
      exact ih (i + 1) k (by omega) (.inr (by rw [e1]; exact c)) (by omega)
    · have no : ¬ (lc l l.length : Int) ≤ most := fun h => c (by rw [← e1]; omega)
      rw [if_neg no]
      by_cases f : FitsM ((Nat.lcm m X : Nat) : Int)
      · rw [if_pos f]
        simp only [if_true]
        rw [if_pos (by omega)]
      · rw [if_neg f]
        simp
theorem refL0_eq (l : List Int) (most m : Int) (hlen : l.length ≤ 140737488351232) :
    ∀ (d i k : Nat), i + d = l.length → d < k →
      bulkheadref01_Lcm.l0 k l most m (i : Int) = if allB l i = true then bulkheadref01_Lcm.l1 (k - d - 1) l most m 0 else some (0, false) := by
  intro d
  induction d with
  | zero =>
    intro i k hi hk
    obtain ⟨k, rfl⟩ : ∃ m, k = m + 1 := ⟨k - 1, by omega⟩
    obtain rfl : i = l.length := by omega
    simp only [bulkheadref01_Lcm.l0]
    rw [if_neg (by omega), if_pos (allB_end l)]; rfl
  | succ d ih =>
    intro i k hi hk
    obtain ⟨k, rfl⟩ : ∃ m, k = m + 1 := ⟨k - 1, by omega⟩
    simp only [bulkheadref01_Lcm.l0]
    rw [if_pos (by omega), if_pos (by omega), rd_at]
    have w3 : wrap64 ((i : Int) + 1) = ((i + 1 : Nat) : Int) := by unfold wrap64; omega
    rw [allB_step l i (by omega)]
    by_cases c : l.getD i 0 < 1
    · rw [if_pos c, if_neg]
      rw [decide_eq_false (by omega)]; simp
    · rw [if_neg c, w3, ih (i + 1) k (by omega) (by omega), show k + 1 - (d + 1) - 1 = k - d - 1 by omega,
        decide_eq_true (show 1 ≤ l.getD i 0 by omega), Bool.true_and]
/-- What the least common multiple is, or that there is none. -/
def lcmV (l : List Int) (most : Int) : Int × Bool := if allB l 0 = true then (if (lc l l.length : Int) ≤ most then ((lc l l.length : Int), true) else (0, false)) else (0, false)
theorem refLcm_eq {B : Nat} (hB : ∀ b : Int, FitsM b → b.natAbs ≤ B) (l : List Int) (most : Int) (hm : FitsM most) (hw : ∀ x ∈ l, (Lit.int .i64 x).wf = true) (hlen : l.length ≤ 140737488351232) (k : Nat) (hk : B + 2 * l.length + 10 < k) :
    bulkheadref01_Lcm.f k l most = some (lcmV l most) := by
  unfold bulkheadref01_Lcm.f lcmV
  have h1 := refL0_eq l most 1 hlen l.length 0 k (by omega) (by omega)
  rw [Int.natCast_zero] at h1
  rw [h1]
  by_cases c : allB l 0 = true
  · rw [if_pos c, if_pos c]
    have h2 := refL1_eq hB l most hm hw ((allB_zero l).1 c) hlen l.length 0 (k - l.length - 1) (by omega) (.inl rfl) (by omega)
    rw [lc_zero] at h2
    exact h2
  · rw [if_neg c, if_neg c]
theorem refNext_eq (k : Nat) (o p fr : Int) (hp : 1 ≤ p) (ho : 0 ≤ o) (hp' : p ≤ 9223372036854775807) (ho' : o ≤ 9223372036854775807) (hf : fr ≤ 9223372036854775807) :
    bulkheadref01_NextAt.f (k + 1) o p fr = some (if nx o p fr ≤ 9223372036854775807 then (nx o p fr, true) else (0, false)) := by
  unfold bulkheadref01_NextAt.f
  rw [if_neg (by omega)]
  simp only [bulkheadref01_NextAt.j0]
  rw [if_neg (by simp; omega)]
  by_cases c : fr ≤ o
  · have e : nx o p fr = o := by unfold nx nAhead; rw [if_pos c]; omega
    rw [if_pos c, e, if_pos ho']
  · rw [if_neg c, if_neg (by omega)]
    have w : wrap64 (fr - o) = fr - o := by unfold wrap64; omega
    have t : Int.tmod (fr - o) p = (fr - o) % p := Int.tmod_eq_emod_of_nonneg (by omega)
    rw [w, t, nx_rest o p fr hp (by omega)]
    have l := Int.emod_lt_of_pos (fr - o) (show 0 < p by omega)
    have n := Int.emod_nonneg (fr - o) (show p ≠ 0 by omega)
    generalize (fr - o) % p = r at *
    by_cases z : r = 0
    · rw [if_pos z, if_pos z, if_pos hf]
    · rw [if_neg z, if_neg z]
      have e : wrap64 (p - r) = p - r := by unfold wrap64; omega
      have e1 : wrap64 (9223372036854775807 - (p - r)) = 9223372036854775807 - (p - r) := by unfold wrap64; omega
      rw [e, e1]
      by_cases f : fr - r + p ≤ 9223372036854775807
      · have e2 : wrap64 (fr + (p - r)) = fr - r + p := by unfold wrap64; omega
        rw [e2, if_pos f, if_neg (by omega)]
      · rw [if_neg f, if_pos (by omega)]
theorem refNext_bad (k : Nat) (o p fr : Int) (h : p < 1 ∨ o < 0) : bulkheadref01_NextAt.f (k + 1) o p fr = some (0, false) := by
  unfold bulkheadref01_NextAt.f
  by_cases c : p < 1
  · rw [if_pos c]; simp only [bulkheadref01_NextAt.j0, if_true]
  · rw [if_neg c]; simp only [bulkheadref01_NextAt.j0]; rw [if_pos (by simp; omega)]
theorem ahead_eq (o p x : Int) (hp : 1 ≤ p) (ho : 0 ≤ o) (hx : x ≤ 9223372036854775807) : bulkheadref01_ahead.f o p x = some (nAhead o p x) := by
  unfold bulkheadref01_ahead.f nAhead
  by_cases c : x ≤ o
  · rw [if_pos c, if_pos c]
  · rw [if_neg c, if_neg (by omega), if_neg c]
    have e1 : wrap64 (x - o) = x - o := by unfold wrap64; omega
    have e2 : wrap64 (x - o - 1) = x - o - 1 := by unfold wrap64; omega
    have e3 : Int.tdiv (x - o - 1) p = (x - o - 1) / p := Int.tdiv_eq_ediv_of_nonneg (by omega)
    have b0 : 0 ≤ (x - o - 1) / p := Int.ediv_nonneg (by omega) (by omega)
    have b1 : (x - o - 1) / p ≤ x - o - 1 := Int.ediv_le_self _ (by omega)
    rw [e1, e2, e3]
    have e4 : wrap64 ((x - o - 1) / p) = (x - o - 1) / p := by unfold wrap64; omega
    have e5 : wrap64 ((x - o - 1) / p + 1) = (x - o - 1) / p + 1 := by unfold wrap64; omega
    rw [e4, e5]
theorem refCount_eq (k : Nat) (o p fr be : Int) (hp : 1 ≤ p) (ho : 0 ≤ o) (hf : fr ≤ 9223372036854775807) (hb : be ≤ 9223372036854775807) : bulkheadref01_Count.f (k + 1) o p fr be = some (cnt o p fr be, true) := by
  unfold bulkheadref01_Count.f
  rw [if_neg (by omega)]
  simp only [bulkheadref01_Count.j0]
  rw [if_neg (by simp; omega)]
  by_cases c : be ≤ fr
  · rw [if_pos c, cnt_zero o p fr be hp c]
  · rw [if_neg c, ahead_eq o p be hp ho hb, ahead_eq o p fr hp ho hf]
    simp only [Option.bind_some]
    have bd := cnt_le o p fr be hp ho hb
    rw [cnt_sub o p fr be hp (by omega)] at bd ⊢
    rw [wrap_fits (by unfold FitsM; omega)]
theorem refCount_bad (k : Nat) (o p fr be : Int) (h : p < 1 ∨ o < 0) : bulkheadref01_Count.f (k + 1) o p fr be = some (0, false) := by
  unfold bulkheadref01_Count.f
  by_cases c : p < 1
  · rw [if_pos c]; simp only [bulkheadref01_Count.j0, if_true]
  · rw [if_neg c]; simp only [bulkheadref01_Count.j0]; rw [if_pos (by simp; omega)]
theorem refLater_eq (t n : Int) (hn : -9223372036854775808 ≤ n ∧ n ≤ 9223372036854775807) :
    bulkheadref01_Later.f t n = some (if 0 ≤ t ∧ t < 1099511627776 ∧ 0 ≤ n ∧ n < 1099511627776 - t then t + n else -1) := by
  unfold bulkheadref01_Later.f wrap64
  repeat' split
  all_goals first | rfl | (exfalso; omega) | (congr 1; omega)

/-! ## The law's parts -/
theorem pairs_holds {B : Nat} (hB : ∀ b : Int, FitsM b → b.natAbs ≤ B) (k : Nat) (a b x2 x3 x4 x6 : Int) (l : List Int) (ha : FitsM a) (hb : FitsM b) (hk : B + 10 < k) : bulkheadlaw01_pairs.f k a b x2 x3 x4 l x6 = some true := by
  obtain ⟨k, rfl⟩ : ∃ m, k = m + 1 + 1 + 1 + 1 + 2 := ⟨k - 6, by omega⟩
  have d : num_Div.f (k + 1 + 2) a b = bulkheadref01_Div.f (k + 1 + 2) a b := by
    by_cases c : b = 0 ∨ (a = -9223372036854775808 ∧ b = -1)
    · rw [div_bad (k + 2) a b c, refDiv_bad (k + 2) a b c]
    · rw [div_full (k + 2) a b ha hb (fun h => c (.inl h)) (fun h => c (.inr h)), refDiv_full (k + 2) a b ha hb (fun h => c (.inl h)) (fun h => c (.inr h))]
  obtain ⟨⟨q, r, ok⟩, hd⟩ : ∃ x, num_Div.f (k + 1 + 2) a b = some x := by
    by_cases c : b = 0 ∨ (a = -9223372036854775808 ∧ b = -1)
    · exact ⟨_, div_bad (k + 2) a b c⟩
    · exact ⟨_, div_full (k + 2) a b ha hb (fun h => c (.inl h)) (fun h => c (.inr h))⟩
  unfold bulkheadlaw01_pairs.f
  rw [add_eq a b ha hb, refAdd_eq a b ha hb]
  simp only [Option.bind_some, if_true, bne_self_eq_false]
  simp only [bulkheadlaw01_pairs.j0]
  rw [if_neg (by simp), sub_eq a b ha hb, refSub_eq a b ha hb]
  simp only [Option.bind_some, if_true, bne_self_eq_false]
  simp only [bulkheadlaw01_pairs.j1]
  rw [if_neg (by simp), mul_eq (k + 1 + 1) a b ha hb, refMul_eq a b ha hb]
  simp only [Option.bind_some, if_true, bne_self_eq_false]
  simp only [bulkheadlaw01_pairs.j2]
  rw [if_neg (by simp), ← d, hd]
  simp only [Option.bind_some, if_true, bne_self_eq_false]
  rw [if_neg (by simp), gcd_big hB _ a b ha hb (by omega), refGcd_eq hB _ a b ha hb (by omega)]
  simp only [Option.bind_some, bne_self_eq_false]
  simp only [bulkheadlaw01_pairs.j3]
  rw [if_neg (by simp), gcd_bigI hB _ a b ha hb (by omega), refGcd_eq hB _ a b ha hb (by omega)]
  simp only [Option.bind_some, beq_self_eq_true]

theorem ticks_holds (k : Nat) (a b p fr be x6 : Int) (l : List Int) (ha : FitsM a) (hb : FitsM b) (hp : FitsM p) (hf : FitsM fr) (hbe : FitsM be) (hk : 10 < k) : bulkheadlaw01_ticks.f k a b p fr be l x6 = some true := by
  obtain ⟨k, rfl⟩ : ∃ m, k = m + 2 + 1 := ⟨k - 3, by omega⟩
  unfold bulkheadlaw01_ticks.f
  unfold FitsM at *
  rw [later_eq a b hb, refLater_eq a b hb]
  simp only [Option.bind_some, if_true]
  by_cases c : p < 1 ∨ a < 0
  · rw [next_bad (k + 2) a p fr c, refNext_bad (k + 2) a p fr c]
    simp only [Option.bind_some, if_true, bne_self_eq_false]
    simp only [bulkheadlaw01_ticks.j0]
    rw [if_neg (by simp), count_bad (k + 1) a p fr be c, refCount_bad (k + 1) a p fr be c]
    simp
  · rw [next_eq (k + 2) a p fr (by omega) (by omega) (by omega) (by omega) (by omega), refNext_eq (k + 2) a p fr (by omega) (by omega) (by omega) (by omega) (by omega)]
    simp only [Option.bind_some, if_true, bne_self_eq_false]
    simp only [bulkheadlaw01_ticks.j0]
    rw [if_neg (by simp), count_eq k a p fr be (by omega) (by omega) (by omega) (by omega) (by omega) (by omega), refCount_eq (k + 1) a p fr be (by omega) (by omega) (by omega) (by omega)]
    simp

/-- The other numbers that turned writes. -/
def halves (l : List Int) : List Int := l.map fun x => Int.tdiv x 2 + 1
theorem half_fits (x : Int) (h : FitsM x) : FitsM (Int.tdiv x 2 + 1) ∧ wrap64 (wrap64 (Int.tdiv x 2) + 1) = Int.tdiv x 2 + 1 := by
  unfold FitsM at h
  have b : -4611686018427387904 ≤ Int.tdiv x 2 ∧ Int.tdiv x 2 ≤ 4611686018427387904 := by
    have h1 := tdiv_bd x 2
    have h2 := Int.mul_tdiv_add_tmod x 2
    have h3 := tmod_bd x 2 (by omega)
    omega
  have f : FitsM (Int.tdiv x 2 + 1) := by unfold FitsM; omega
  have e : wrap64 (Int.tdiv x 2) = Int.tdiv x 2 := wrap_fits (by unfold FitsM; omega)
  exact ⟨f, by rw [e, wrap_fits f]⟩
theorem halves_wf (l : List Int) (hw : ∀ x ∈ l, (Lit.int .i64 x).wf = true) : ∀ x ∈ halves l, (Lit.int .i64 x).wf = true := by
  intro y hy
  obtain ⟨x, hx, rfl⟩ := List.mem_map.1 hy
  have := (half_fits x (i64_bd (hw x hx))).1
  unfold FitsM at this
  simp [Lit.wf, IntKind.min, IntKind.max, IntKind.signed, IntKind.bits]
  omega
theorem halves_length (l : List Int) : (halves l).length = l.length := by simp [halves]
theorem take_snoc (l : List Int) (i : Nat) (h : i < l.length) : l.take (i + 1) = l.take i ++ [l.getD i 0] := by
  rw [List.take_succ_eq_append_getElem h, List.getD_eq_getElem?_getD, List.getElem?_eq_getElem h]; rfl
theorem halves_at (l : List Int) (i : Nat) (h : i < l.length) : (halves l).getD i 0 = Int.tdiv (l.getD i 0) 2 + 1 := by
  simp [halves, List.getD_eq_getElem?_getD, h]
theorem mix_set (t l : List Int) (i : Nat) (h : i < l.length) (ht : t.length = l.length) : (t.take i ++ l.drop i).set i (t.getD i 0) = t.take (i + 1) ++ l.drop (i + 1) := by
  have hti : (t.take i).length = i := by rw [List.length_take]; omega
  rw [List.set_append_right _ _ (by omega), hti, Nat.sub_self, List.drop_eq_getElem_cons h, List.set_cons_zero, take_snoc t i (by omega), List.append_assoc]; rfl
theorem turned_l1 {B : Nat} (hB : ∀ b : Int, FitsM b → b.natAbs ≤ B) (l : List Int) (most : Int) (hm : FitsM most) (hw : ∀ x ∈ l, (Lit.int .i64 x).wf = true) (hlen : l.length ≤ 1000) :
    ∀ (d i k : Nat), i + d = l.length → B + d + 2 * l.length + 20 < k →
      bulkheadlaw01_turned.l1 k ((halves l).take i ++ l.drop i) ((halves l).take i ++ l.drop i) most (halves l) (i : Int) = some (true, halves l, halves l) := by
  have hln := halves_length l
  intro d
  induction d with
  | zero =>
    intro i k hi hk
    obtain ⟨k, rfl⟩ : ∃ m, k = m + 1 := ⟨k - 1, by omega⟩
    obtain rfl : i = l.length := by omega
    have e : (halves l).take l.length ++ l.drop l.length = halves l := by rw [List.take_of_length_le (by omega), List.drop_length, List.append_nil]
    rw [e]
    simp only [bulkheadlaw01_turned.l1]
    have hh := halves_wf l hw
    rw [if_neg (by omega), lcm_eq hB (halves l) most hm hh (by omega) k (by omega), lcm_eqI hB (halves l) most hm hh (by omega) k (by omega), refLcm_eq hB (halves l) most hm hh (by omega) k (by omega)]
    unfold lcmV
    simp only [Option.bind_some, if_true, beq_self_eq_true]
  | succ d ih =>
    intro i k hi hk
    obtain ⟨k, rfl⟩ : ∃ m, k = m + 1 := ⟨k - 1, by omega⟩
    have hl : ((halves l).take i ++ l.drop i).length = l.length := by rw [List.length_append, List.length_take, List.length_drop]; omega
    simp only [bulkheadlaw01_turned.l1]
    have w3 : wrap64 ((i : Int) + 1) = ((i + 1 : Nat) : Int) := by unfold wrap64; omega
    rw [if_pos (by omega), if_pos (by omega), if_pos (by omega), if_pos (by omega), rd_at, Int.toNat_natCast, w3, mix_set _ _ _ (by omega) hln]
    exact ih (i + 1) k (by omega) (by omega)
theorem turned_holds {B : Nat} (hB : ∀ b : Int, FitsM b → b.natAbs ≤ B) (l : List Int) (most : Int) (hm : FitsM most) (hw : ∀ x ∈ l, (Lit.int .i64 x).wf = true) (hlen : l.length ≤ 1000) (k : Nat) (hk : B + 4 * l.length + 30 < k) :
    turnedB.f k l l most = some true := by
  have hln := halves_length l
  have key : ∀ (d i k : Nat), i + d = l.length → B + d + 3 * l.length + 25 < k → bulkheadlaw01_turned.l0 k l l most ((halves l).take i) (i : Int) = some (true, halves l, halves l) := by
    intro d
    induction d with
    | zero =>
      intro i k hi hk
      obtain ⟨k, rfl⟩ : ∃ m, k = m + 1 := ⟨k - 1, by omega⟩
      obtain rfl : i = l.length := by omega
      simp only [bulkheadlaw01_turned.l0]
      rw [if_neg (by omega), List.take_of_length_le (by omega)]
      have := turned_l1 hB l most hm hw hlen l.length 0 k (by omega) (by omega)
      simpa using this
    | succ d ih =>
      intro i k hi hk
      obtain ⟨k, rfl⟩ : ∃ m, k = m + 1 := ⟨k - 1, by omega⟩
      have hlt : ((halves l).take i).length = i := by rw [List.length_take]; omega
      simp only [bulkheadlaw01_turned.l0]
      have w3 : wrap64 ((i : Int) + 1) = ((i + 1 : Nat) : Int) := by unfold wrap64; omega
      rw [if_pos (by omega), if_pos (by omega), if_pos (by omega), rd_at, (half_fits _ (getD_fits l hw i)).2, w3, ← halves_at l i (by omega), ← take_snoc (halves l) i (by omega)]
      exact ih (i + 1) k (by omega) (by omega)
  have h0 := key l.length 0 k (by omega) (by omega)
  unfold turnedB.f bulkheadlaw01_turned.f
  rw [List.take_zero, Int.natCast_zero] at h0
  rw [h0]; rfl
theorem rd_front (l : List Int) (x : Int) (i : Nat) (h : i < l.length) : rd (l ++ [x]) (i : Int) = l.getD i 0 := by
  rw [rd_at, List.getD_eq_getElem?_getD, List.getElem?_append_left h, List.getD_eq_getElem?_getD]
theorem rd_back (l : List Int) (x : Int) : rd (l ++ [x]) (l.length : Int) = x := by
  rw [rd_at, List.getD_eq_getElem?_getD, List.getElem?_append_right (Nat.le_refl _), Nat.sub_self]; rfl
theorem lists_l1 {B : Nat} (hB : ∀ b : Int, FitsM b → b.natAbs ≤ B) (l : List Int) (most x0 x1 x2 x3 x4 : Int) (hm : FitsM most) (hw : ∀ x ∈ l, (Lit.int .i64 x).wf = true) (hlen : l.length ≤ 1000) :
    ∀ (d i k : Nat), i + d = l.length → B + d + 4 * l.length + 40 < k →
      bulkheadlaw01_lists.l1 k (l ++ [-7]) (l ++ [-7]) (l.length : Int) (i : Int) x0 x1 x2 x3 x4 l most = some true := by
  have hl7 : (l ++ [-7]).length = l.length + 1 := by simp
  intro d
  induction d with
  | zero =>
    intro i k hi hk
    obtain ⟨k, rfl⟩ : ∃ m, k = m + 1 := ⟨k - 1, by omega⟩
    obtain rfl : i = l.length := by omega
    simp only [bulkheadlaw01_lists.l1]
    rw [if_neg (by omega), if_pos (by omega), if_pos (by omega), if_pos (by omega), Int.toNat_natCast, List.take_left', turned_holds hB l most hm hw hlen k (by omega)]
    · rfl
    · rfl
  | succ d ih =>
    intro i k hi hk
    obtain ⟨k, rfl⟩ : ∃ m, k = m + 1 := ⟨k - 1, by omega⟩
    simp only [bulkheadlaw01_lists.l1]
    have w3 : wrap64 ((i : Int) + 1) = ((i + 1 : Nat) : Int) := by unfold wrap64; omega
    rw [if_pos (by omega), if_pos (by omega), if_pos (by omega), if_pos (by omega), rd_front l _ i (by omega), rd_at, if_pos rfl, if_pos (by omega), if_pos rfl, w3]
    exact ih (i + 1) k (by omega) (by omega)
theorem lists_holds {B : Nat} (hB : ∀ b : Int, FitsM b → b.natAbs ≤ B) (l : List Int) (most x0 x1 x2 x3 x4 : Int) (hm : FitsM most) (hw : ∀ x ∈ l, (Lit.int .i64 x).wf = true) (hlen : l.length ≤ 1000) (k : Nat) (hk : B + 6 * l.length + 60 < k) :
    bulkheadlaw01_lists.f k x0 x1 x2 x3 x4 l most = some true := by
  have hl7 : (l ++ [-7]).length = l.length + 1 := by simp
  have key : ∀ (d i k : Nat), i + d = l.length → B + d + 5 * l.length + 50 < k → bulkheadlaw01_lists.l0 k l (l.take i) (i : Int) x0 x1 x2 x3 x4 l most = some true := by
    intro d
    induction d with
    | zero =>
      intro i k hi hk
      obtain ⟨k, rfl⟩ : ∃ m, k = m + 1 + 1 := ⟨k - 2, by omega⟩
      obtain rfl : i = l.length := by omega
      simp only [bulkheadlaw01_lists.l0]
      rw [if_neg (by omega), List.take_of_length_le (Nat.le_refl _), if_pos (by omega)]
      simp only [Option.bind_some]
      rw [if_pos (by omega), if_pos (by omega), if_pos (by omega), Int.toNat_natCast, List.take_left' rfl,
        lcm_eq hB l most hm hw (by omega) _ (by omega), lcm_eqI hB l most hm hw (by omega) _ (by omega), refLcm_eq hB l most hm hw (by omega) _ (by omega)]
      unfold lcmV
      simp only [Option.bind_some, if_true, bne_self_eq_false, Bool.false_eq_true, if_false]
      rw [if_pos (by omega), rd_back, if_pos rfl, if_pos (by omega)]
      simp only [bne_self_eq_false]
      rw [if_pos (by omega)]
      simp only [bulkheadlaw01_lists.j1]
      rw [if_neg (by simp)]
      exact lists_l1 hB l most x0 x1 x2 x3 x4 hm hw hlen l.length 0 k (by omega) (by omega)
    | succ d ih =>
      intro i k hi hk
      obtain ⟨k, rfl⟩ : ∃ m, k = m + 1 := ⟨k - 1, by omega⟩
      have hlt : (l.take i).length = i := by rw [List.length_take]; omega
      simp only [bulkheadlaw01_lists.l0]
      have w3 : wrap64 ((i : Int) + 1) = ((i + 1 : Nat) : Int) := by unfold wrap64; omega
      rw [if_pos (by omega), if_pos (by omega), if_pos (by omega), rd_at, w3, ← take_snoc l i (by omega)]
      exact ih (i + 1) k (by omega) (by omega)
  have h0 := key l.length 0 k (by omega) (by omega)
  unfold bulkheadlaw01_lists.f
  rw [List.take_zero, Int.natCast_zero] at h0
  rw [if_pos (by simp; omega), List.nil_append]
  exact h0

theorem NumExact (a0 a1 a2 a3 a4 : Int) (l : List Int) (a6 : Int) (h0 : (Lit.int .i64 a0).wf = true) (h1 : (Lit.int .i64 a1).wf = true) (h2 : (Lit.int .i64 a2).wf = true) (h3 : (Lit.int .i64 a3).wf = true) (h4 : (Lit.int .i64 a4).wf = true) (hw : ∀ x ∈ l, (Lit.int .i64 x).wf = true) (h6 : (Lit.int .i64 a6).wf = true) : ∃ k, bulkheadlaw01_NumExact.f k a0 a1 a2 a3 a4 l a6 = some true := by
  obtain ⟨B, hB⟩ : ∃ B, ∀ b : Int, FitsM b → b.natAbs ≤ B := ⟨9223372036854775808, fun b h => by unfold FitsM at h; omega⟩
  refine ⟨B + 6 * l.length + 100 + 1, ?_⟩
  unfold bulkheadlaw01_NumExact.f
  have e : num_Add.f 1 1 = some (2, true) := by rw [add_eq 1 1 (by unfold FitsM; omega) (by unfold FitsM; omega)]; rfl
  rw [e]
  simp only [Option.bind_some, if_true]
  simp only [bulkheadlaw01_NumExact.j0]
  by_cases c : (l.length : Int) > 1000
  · rw [if_pos (by simpa using c)]; simp
  · rw [if_neg (by simpa using c), pairs_holds hB _ a0 a1 a2 a3 a4 a6 l (i64_bd h0) (i64_bd h1) (by omega)]
    simp only [Option.bind_some, if_true]
    rw [lists_holds hB l a6 a0 a1 a2 a3 a4 (i64_bd h6) hw (by omega) _ (by omega)]
    simp only [Option.bind_some, if_true]
    rw [ticks_holds _ a0 a1 a2 a3 a4 a6 l (i64_bd h0) (i64_bd h1) (i64_bd h2) (i64_bd h3) (i64_bd h4) (by omega)]
    rfl

end Go.Proofs.Ytceeoifbimlkdaa.Pure
