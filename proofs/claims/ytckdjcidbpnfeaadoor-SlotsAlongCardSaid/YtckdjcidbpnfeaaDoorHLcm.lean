/- Proved: what num.Lcm of ints answers: the least common multiple, where it is at most the bound. No conditions. -/
import Derived.Test.YtckdjcidbpnfeaaDoorBx1
namespace Go.Proofs.YtckdjcidbpnfeaaDoor.B
open Go.RowKit Go.Proofs.YtckdjcidbpnfeaaDoorW.PrintWords Go.Proofs.YtckdjcidbpnfeaaDoorW.PrintLast Go.Proofs.YtckdjcidbpnfeaaDoorW.PrintMore

theorem i64_bdL {n : Int} (h : (Lit.int .i64 n).wf = true) : -9223372036854775808 ≤ n ∧ n ≤ 9223372036854775807 := by
  simp [Lit.wf, IntKind.min, IntKind.max, IntKind.signed, IntKind.bits] at h
  omega

def FitsL (n : Int) : Prop := -9223372036854775808 ≤ n ∧ n ≤ 9223372036854775807
theorem wrap_fitsL {n : Int} (h : FitsL n) : wrap64 n = n := by unfold FitsL at h; unfold wrap64; omega

/-- The greatest common divisor, where it is an int64; else 0. -/
def gcdI (a b : Int) : Int := if Nat.gcd a.natAbs b.natAbs < 9223372036854775808 then (Nat.gcd a.natAbs b.natAbs : Int) else 0

theorem gcd_eq : ∀ (n : Nat) (k : Nat) (a b : Int), FitsL a → FitsL b → b.natAbs ≤ n → n < k → num_Gcd_int.l0 k a b = some (gcdI a b) := by
  intro n
  induction n with
  | zero =>
    intro k a b ha hb hn hk
    obtain ⟨k, rfl⟩ : ∃ m, k = m + 1 := ⟨k - 1, by omega⟩
    have : b = 0 := by omega
    subst this
    simp only [num_Gcd_int.l0, if_true, gcdI, Int.natAbs_zero, Nat.gcd_zero_right, mx]
    unfold FitsL at ha
    have e : wrap64 (-a) = -a ∨ (a = -9223372036854775808 ∧ wrap64 (-a) = -9223372036854775808) := by unfold wrap64; omega
    by_cases c : a < 0
    · rw [if_pos c]
      rcases e with e | ⟨e1, e2⟩
      · rw [e, if_neg (show ¬ -a < 0 by omega)]
        by_cases q : a.natAbs < 9223372036854775808
        · rw [if_pos q]; congr 1; omega
        · exfalso; have : wrap64 (-a) ≤ 9223372036854775807 := by unfold wrap64; omega
          omega
      · rw [e2, if_pos (by decide), if_neg (by omega)]
    · rw [if_neg c, if_neg c, if_pos (by omega)]; congr 1; omega
  | succ n ih =>
    intro k a b ha hb hn hk
    obtain ⟨k, rfl⟩ : ∃ m, k = m + 1 := ⟨k - 1, by omega⟩
    by_cases z : b = 0
    · subst z
      have := ih (k + 1) a 0 ha hb (by omega) (by omega)
      exact this
    · simp only [num_Gcd_int.l0]
      rw [if_neg z]
      by_cases o : b = -1
      · subst o; rw [if_pos rfl]; simp [gcdI]
      · rw [if_neg o]
        have lt : (Int.tmod a b).natAbs < b.natAbs := by rw [Int.natAbs_tmod]; exact Nat.mod_lt _ (by omega)
        have fm : FitsL (Int.tmod a b) := by unfold FitsL at *; omega
        rw [ih k b (Int.tmod a b) hb fm (by omega) (by omega)]
        unfold gcdI
        rw [Int.natAbs_tmod, Nat.gcd_comm b.natAbs, ← Nat.gcd_rec b.natAbs a.natAbs, Nat.gcd_comm b.natAbs]

theorem gcd_big {B : Nat} (hB : ∀ b : Int, FitsL b → b.natAbs ≤ B) (k : Nat) (a b : Int) (ha : FitsL a) (hb : FitsL b) (hk : B < k) : num_Gcd_int.f k a b = some (gcdI a b) :=
  gcd_eq B k a b ha hb (hB b hb) hk

/-- Are all from place i on 1 or above? -/
def allB (l : List Int) (i : Nat) : Bool := (l.drop i).all fun x => decide (1 ≤ x)
theorem allB_end (l : List Int) : allB l l.length = true := by simp [allB]
theorem allB_step (l : List Int) (i : Nat) (h : i < l.length) : allB l i = (decide (1 ≤ l.getD i 0) && allB l (i + 1)) := by
  unfold allB
  rw [List.drop_eq_getElem_cons h, List.all_cons, List.getD_eq_getElem?_getD, List.getElem?_eq_getElem h]; rfl
theorem allB_zero (l : List Int) : allB l 0 = true ↔ ∀ x ∈ l, 1 ≤ x := by simp [allB]

/-- The least common multiple of the first i numbers of a list. -/
def lc (l : List Int) (i : Nat) : Nat := (l.take i).foldl (fun m x => Nat.lcm m x.natAbs) 1
theorem lc_zero (l : List Int) : lc l 0 = 1 := by simp [lc]
theorem lc_succ (l : List Int) (i : Nat) (h : i < l.length) : lc l (i + 1) = Nat.lcm (lc l i) (l.getD i 0).natAbs := by
  unfold lc
  rw [List.take_succ_eq_append_getElem h, List.foldl_append]
  simp [List.getD_eq_getElem?_getD, List.getElem?_eq_getElem h]
theorem lc_pos (l : List Int) (hl : ∀ x ∈ l, 1 ≤ x) : ∀ i, i ≤ l.length → 1 ≤ lc l i
  | 0, _ => by rw [lc_zero]; omega
  | i + 1, h => by
    rw [lc_succ l i (by omega)]
    have h1 := lc_pos l hl i (by omega)
    have h2 : 1 ≤ l.getD i 0 := by
      rw [List.getD_eq_getElem?_getD, List.getElem?_eq_getElem (by omega)]; exact hl _ (List.getElem_mem _)
    exact Nat.lcm_pos (by omega) (by omega)
theorem lc_dvd (l : List Int) : ∀ i j, j < i → i ≤ l.length → (l.getD j 0).natAbs ∣ lc l i
  | 0, j, h, _ => by omega
  | i + 1, j, h, hi => by
    rw [lc_succ l i (by omega)]
    by_cases e : j = i
    · subst e; exact Nat.dvd_lcm_right _ _
    · exact Nat.dvd_trans (lc_dvd l i j (by omega) (by omega)) (Nat.dvd_lcm_left _ _)
theorem lc_least (l : List Int) (t : Nat) : ∀ i, i ≤ l.length → (∀ j, j < i → (l.getD j 0).natAbs ∣ t) → lc l i ∣ t
  | 0, _, _ => by rw [lc_zero]; exact Nat.one_dvd _
  | i + 1, hi, h => by
    rw [lc_succ l i (by omega)]
    exact Nat.lcm_dvd (lc_least l t i (by omega) fun j hj => h j (by omega)) (h i (by omega))
theorem lc_mono (l : List Int) (hl : ∀ x ∈ l, 1 ≤ x) (i : Nat) : ∀ d, i + d ≤ l.length → lc l i ≤ lc l (i + d)
  | 0, _ => Nat.le_refl _
  | d + 1, h => by
    have h1 := lc_mono l hl i d (by omega)
    have h2 := lc_pos l hl (i + (d + 1)) h
    rw [← Nat.add_assoc] at *
    rw [lc_succ l (i + d) (by omega)] at *
    exact Nat.le_trans h1 (Nat.le_of_dvd h2 (Nat.dvd_lcm_left _ _))

theorem rd_at (l : List Int) (i : Nat) : rd l (i : Int) = l.getD i 0 := by simp [rd]

theorem getD_fits (l : List Int) (hw : ∀ x ∈ l, (Lit.int .i64 x).wf = true) (i : Nat) : FitsL (l.getD i 0) := by
  rw [List.getD_eq_getElem?_getD]
  by_cases h : i < l.length
  · rw [List.getElem?_eq_getElem h]; exact i64_bdL (hw _ (List.getElem_mem _))
  · rw [List.getElem?_eq_none (by omega)]; unfold FitsL; simp

theorem getD_one (l : List Int) (hl : ∀ x ∈ l, 1 ≤ x) (i : Nat) (h : i < l.length) : 1 ≤ l.getD i 0 := by
  rw [List.getD_eq_getElem?_getD, List.getElem?_eq_getElem h]; exact hl _ (List.getElem_mem _)

theorem test_iff (most M Y : Int) (hm : FitsL most) (hp : 1 ≤ M) (hy : 1 ≤ Y) : Y > wrap64 (Int.tdiv most M) ↔ ¬ M * Y ≤ most := by
  obtain ⟨m1, m2⟩ := hm
  have mp : 0 ≤ M * Y := Int.mul_nonneg (by omega) (by omega)
  by_cases nn : 0 ≤ most
  · have t : Int.tdiv most M = most / M := Int.tdiv_eq_ediv_of_nonneg nn
    have b0 : 0 ≤ most / M := Int.ediv_nonneg nn (by omega)
    have b1 : most / M ≤ most := Int.ediv_le_self _ nn
    have key := Int.le_ediv_iff_mul_le (a := Y) (b := most) (c := M) (by omega)
    rw [t, Int.mul_comm M]
    generalize most / M = q at *
    have w0 : wrap64 q = q := wrap_fitsL ⟨by omega, by omega⟩
    rw [w0]
    omega
  · have t : Int.tdiv most M ≤ 0 := by
      have h := Int.tdiv_nonneg (a := -most) (b := M) (by omega) (by omega)
      rw [Int.neg_tdiv] at h; omega
    have b2 : (Int.tdiv most M).natAbs ≤ most.natAbs := by rw [Int.natAbs_tdiv]; exact Nat.div_le_self _ _
    generalize Int.tdiv most M = q at *
    have w0 : wrap64 q = q := wrap_fitsL ⟨by omega, by omega⟩
    rw [w0]
    omega

/-- The second loop of Lcm. -/
theorem l2_eq {B : Nat} (hB : ∀ b : Int, FitsL b → b.natAbs ≤ B) (l : List Int) (most : Int) (hm : FitsL most) (hw : ∀ x ∈ l, (Lit.int .i64 x).wf = true) (hl : ∀ x ∈ l, 1 ≤ x) (hlen : l.length ≤ 140737488351232) :
    ∀ (d i k : Nat), i + d = l.length → (i = 0 ∨ (lc l i : Int) ≤ most) → (B + d + 1) < k →
      num_Lcm_int.l2 k most (lc l i : Int) l (l.length : Int) (i : Int) = some (if (lc l l.length : Int) ≤ most then ((lc l l.length : Int), true) else (0, false)) := by
  intro d
  induction d with
  | zero =>
    intro i k hi h0 hk
    obtain ⟨k, rfl⟩ : ∃ m, k = m + 1 := ⟨k - 1, by omega⟩
    have : i = l.length := by omega
    subst this
    simp only [num_Lcm_int.l2]
    rw [if_neg (by omega)]
    by_cases c : (lc l l.length : Int) ≤ most
    · rw [if_neg (by omega), if_pos c]
    · rw [if_pos (by omega), if_neg c]
  | succ d ih =>
    intro i k hi h0 hk
    obtain ⟨k, rfl⟩ : ∃ m, k = m + 1 := ⟨k - 1, by omega⟩
    simp only [num_Lcm_int.l2]
    rw [if_pos (by omega), if_pos (by omega), if_pos (by omega), rd_at]
    have hx := getD_one l hl i (by omega)
    have fx := getD_fits l hw i
    have hp := lc_pos l hl i (by omega)
    have hle : lc l (i + 1) ≤ lc l l.length := by
      have := lc_mono l hl (i + 1) d (by omega)
      rwa [show i + 1 + d = l.length by omega] at this
    have e1 := lc_succ l i (by omega)
    generalize l.getD i 0 = x at *
    generalize hmm : lc l i = m at *
    have fm : FitsL (m : Int) := by
      rcases h0 with h0 | h0
      · subst h0; rw [lc_zero] at hmm; unfold FitsL; omega
      · unfold FitsL at *; omega
    have hg : num_Gcd_int.f k m x = some (gcdI m x) := gcd_big hB k m x fm fx (by omega)
    obtain ⟨X, rfl⟩ : ∃ X : Nat, x = (X : Int) := ⟨x.toNat, by omega⟩
    simp only [Int.natAbs_natCast] at *
    have gp : 0 < Nat.gcd m X := Nat.gcd_pos_of_pos_left _ (by omega)
    have gX : Nat.gcd m X ∣ X := Nat.gcd_dvd_right _ _
    have gle : Nat.gcd m X ≤ X := Nat.le_of_dvd (by omega) gX
    have g1 : gcdI m X = (Nat.gcd m X : Int) := by unfold gcdI; simp only [Int.natAbs_natCast]; rw [if_pos (by unfold FitsL at fx; omega)]
    rw [hg, g1]
    simp only [Option.bind_some]
    rw [if_neg (by omega), if_neg (by omega)]
    have q1 : Int.tdiv (X : Int) (Nat.gcd m X : Int) = ((X / Nat.gcd m X : Nat) : Int) := by rw [Int.tdiv_eq_ediv_of_nonneg (by omega)]; rfl
    have qle : X / Nat.gcd m X ≤ X := Nat.div_le_self _ _
    have qp : 0 < X / Nat.gcd m X := Nat.div_pos gle gp
    have w1 : wrap64 ((X / Nat.gcd m X : Nat) : Int) = ((X / Nat.gcd m X : Nat) : Int) := wrap_fitsL (by unfold FitsL at *; omega)
    have lcm_eq : m * (X / Nat.gcd m X) = Nat.lcm m X := by
      rw [Nat.lcm, Nat.mul_div_assoc _ gX]
    rw [q1, w1]
    -- the test: y > most / m just if m * y > most
    have test : (((X / Nat.gcd m X : Nat) : Int) > wrap64 (Int.tdiv most (m : Int))) ↔ ¬ ((Nat.lcm m X : Nat) : Int) ≤ most := by
      rw [← lcm_eq, Int.natCast_mul]
      exact test_iff most m _ hm (Int.ofNat_le.2 hp) (Int.ofNat_le.2 qp)
    by_cases c : ((Nat.lcm m X : Nat) : Int) ≤ most
    · rw [if_neg (fun h => test.1 h c)]
      have w2 : wrap64 ((m : Int) * ((X / Nat.gcd m X : Nat) : Int)) = (lc l (i + 1) : Int) := by
        rw [← Int.natCast_mul, lcm_eq, e1]
        refine wrap_fitsL ?_
        unfold FitsL at *; omega
      have w3 : wrap64 ((i : Int) + 1) = ((i + 1 : Nat) : Int) := by unfold wrap64; omega
      rw [w2, w3]
      exact ih (i + 1) k (by omega) (.inr (by rw [e1]; exact c)) (by omega)
    · rw [if_pos (test.2 c), if_neg]
      intro h
      exact c (by rw [← e1]; omega)

/-- The first loop of Lcm: is each 1 or above? -/
theorem l1_eq (l : List Int) (most m : Int) (hlen : l.length ≤ 140737488351232) :
    ∀ (d i k : Nat), i + d = l.length → d < k →
      num_Lcm_int.l1 k l most m l (l.length : Int) (i : Int) = if allB l i = true then num_Lcm_int.l2 (k - d - 1) most m l (l.length : Int) 0 else some (0, false) := by
  intro d
  induction d with
  | zero =>
    intro i k hi hk
    obtain ⟨k, rfl⟩ : ∃ m, k = m + 1 := ⟨k - 1, by omega⟩
    obtain rfl : i = l.length := by omega
    simp only [num_Lcm_int.l1]
    rw [if_neg (by omega), if_pos (allB_end l)]; rfl
  | succ d ih =>
    intro i k hi hk
    obtain ⟨k, rfl⟩ : ∃ m, k = m + 1 := ⟨k - 1, by omega⟩
    simp only [num_Lcm_int.l1]
    rw [if_pos (by omega), if_pos (by omega), if_pos (by omega), rd_at]
    have w3 : wrap64 ((i : Int) + 1) = ((i + 1 : Nat) : Int) := by unfold wrap64; omega
    rw [allB_step l i (by omega)]
    by_cases c : l.getD i 0 < 1
    · rw [if_pos c, if_neg]
      rw [decide_eq_false (by omega)]; simp
    · rw [if_neg c, w3, ih (i + 1) k (by omega) (by omega), show k + 1 - (d + 1) - 1 = k - d - 1 by omega,
        decide_eq_true (show 1 ≤ l.getD i 0 by omega), Bool.true_and]

/-- What Lcm tells. -/
theorem lcm_eq {B : Nat} (hB : ∀ b : Int, FitsL b → b.natAbs ≤ B) (l : List Int) (most : Int) (hm : FitsL most) (hw : ∀ x ∈ l, (Lit.int .i64 x).wf = true) (hlen : l.length ≤ 140737488351232) (k : Nat) (hk : B + 2 * l.length + 10 < k) :
    num_Lcm_int.f k l most = some (if allB l 0 = true then (if (lc l l.length : Int) ≤ most then ((lc l l.length : Int), true) else (0, false)) else (0, false)) := by
  obtain ⟨k, rfl⟩ : ∃ m, k = m + 1 := ⟨k - 1, by omega⟩
  unfold num_Lcm_int.f
  simp only [num_Lcm_int.l0]
  have h1 := l1_eq l most 1 hlen l.length 0 k (by omega) (by omega)
  rw [Int.natCast_zero] at h1
  rw [h1]
  by_cases c : allB l 0 = true
  · rw [if_pos c, if_pos c]
    have h2 := l2_eq hB l most hm hw ((allB_zero l).1 c) hlen l.length 0 (k - l.length - 1) (by omega) (.inl rfl) (by omega)
    rw [lc_zero] at h2
    exact h2
  · rw [if_neg c, if_neg c]

/-- What Lcm of these numbers tells with the bound 2^20. -/
def lcmF (xs : List Int) : Int × Bool := if allB xs 0 = true then (if (lc xs xs.length : Int) ≤ 1048576 then ((lc xs xs.length : Int), true) else (0, false)) else (0, false)

theorem lcmF_is : ∃ K : Nat, ∀ xs : List Int, xs.length ≤ 32 → (∀ x ∈ xs, 1 ≤ x ∧ x ≤ 1048576) →
    num_Lcm_int.f K xs 1048576 = some (lcmF xs) ∧ ((lcmF xs).2 = true → 1 ≤ (lcmF xs).1 ∧ (lcmF xs).1 ≤ 1048576) := by
  obtain ⟨B, hB⟩ : ∃ B : Nat, ∀ b : Int, FitsL b → b.natAbs ≤ B := ⟨9223372036854775808, fun b h => by unfold FitsL at h; omega⟩
  refine ⟨B + 100, fun xs h32 hx => ⟨?_, ?_⟩⟩
  · have hw : ∀ x ∈ xs, (Lit.int .i64 x).wf = true := by
      intro x hxx
      have := hx x hxx
      simp [Lit.wf, IntKind.min, IntKind.max, IntKind.signed, IntKind.bits]; omega
    exact lcm_eq hB xs 1048576 (by unfold FitsL; omega) hw (by omega) (B + 100) (by omega)
  · unfold lcmF
    by_cases c : allB xs 0 = true
    · rw [if_pos c]
      by_cases d : (lc xs xs.length : Int) ≤ 1048576
      · rw [if_pos d]
        intro _
        have := lc_pos xs ((allB_zero xs).1 c) xs.length (Nat.le_refl _)
        exact ⟨by show (1 : Int) ≤ (lc xs xs.length : Int); omega, d⟩
      · rw [if_neg d]; intro h; cases h
    · rw [if_neg c]; intro h; cases h

end Go.Proofs.YtckdjcidbpnfeaaDoor.B
