/- Proved: the document's Servers and Hyper (bulkheadref10) answer what check's do, of any servers. No conditions. -/
import Derived.Test.YtepidpcdbdbemaaDoorHCheck2
import Derived.Test.YtepidpcdbdbemaaDoorHMul
import Derived.Test.YtepidpcdbdbemaaDoorBx2
namespace Go.Proofs.YtepidpcdbdbemaaDoor.B
open Go.RowKit Go.Proofs.YtepidpcdbdbemaaDoorW.PrintWords Go.Proofs.YtepidpcdbdbemaaDoorW.PrintLast Go.Proofs.YtepidpcdbdbemaaDoorW.PrintMore


theorem within_eq (x lo hi : Int) : bulkheadref10_within.f x lo hi = some (decide (lo ≤ x) && decide (x ≤ hi)) := by
  unfold bulkheadref10_within.f
  by_cases c : x ≥ lo
  · rw [if_pos c, decide_eq_true (show lo ≤ x from c)]; rfl
  · rw [if_neg c, decide_eq_false (show ¬ lo ≤ x from c)]; rfl

theorem rd_sv (l : List S25) (i : Nat) : rd_T25 l (i : Int) = l.getD i z25 := by simp [rd_T25]

/-- Has one of d servers from place j on this priority? -/
def seenR (l : List S25) (R : Int) : Nat → Nat → Bool
  | _, 0 => false
  | j, d + 1 => ((l.getD j z25).f3 == R) || seenR l R (j + 1) d
theorem seenR_snoc (l : List S25) (R : Int) : ∀ d j, seenR l R j (d + 1) = (seenR l R j d || ((l.getD (j + d) z25).f3 == R))
  | 0, j => by simp [seenR]
  | d + 1, j => by
    have := seenR_snoc l R d (j + 1)
    show ((l.getD j z25).f3 == R || seenR l R (j + 1) (d + 1)) = _
    rw [this, show j + 1 + d = j + (d + 1) by omega, ← Bool.or_assoc]; rfl
theorem seenB_R (l : List S25) (R : Int) : ∀ i, i ≤ l.length → seenB l i R = seenR l R 0 i
  | 0, _ => by simp [seenB, seenR]
  | i + 1, h => by rw [seen_succ l i (by omega), seenB_R l R i (by omega), seenR_snoc, Nat.zero_add]

theorem wrap_i (i : Nat) (h : i ≤ 70000) : wrap64 ((i : Int) + 1) = ((i + 1 : Nat) : Int) := by unfold wrap64; omega

theorem sv_loop (l : List S25) (i : Nat) (hi : i < l.length) (hl : l.length ≤ 70000) (P B O R : Int) : ∀ d j k, j + d = i → d < k →
    bulkheadref10_server.l0 k l (i : Int) (j : Int) P B O R = some (!seenR l R j d && validS ⟨P, B, O, R⟩) := by
  intro d
  induction d with
  | zero =>
    intro j k hj hk
    obtain ⟨k, rfl⟩ : ∃ m, k = m + 1 := ⟨k - 1, by omega⟩
    simp only [bulkheadref10_server.l0]
    rw [if_neg (by omega), within_eq, within_eq, within_eq]
    simp only [Option.bind_some, seenR, Bool.not_false, Bool.true_and, validS]
    by_cases c : (decide (1 ≤ P) && decide (P ≤ 1048576)) = true
    · simp only [Bool.and_eq_true, decide_eq_true_eq] at c
      have e : wrap64 (P - 1) = P - 1 := by unfold wrap64; omega
      rw [e, decide_eq_true c.1, decide_eq_true c.2, within_eq]
      simp only [Bool.true_and, if_true]
      cases (decide (1 ≤ B) && decide (B ≤ P)) <;> cases (decide (0 ≤ O)) <;> cases (decide (O ≤ P - 1)) <;> simp
    · have c' : (decide (1 ≤ P) && decide (P ≤ 1048576)) = false := by simpa using c
      rw [c']; simp
  | succ d ih =>
    intro j k hj hk
    obtain ⟨k, rfl⟩ : ∃ m, k = m + 1 := ⟨k - 1, by omega⟩
    simp only [bulkheadref10_server.l0]
    rw [if_pos (by omega), if_pos (by omega), if_pos (by omega), rd_sv, wrap_i j (by omega), ih (j + 1) k (by omega) (by omega)]
    show _ = some (!((l.getD j z25).f3 == R || seenR l R (j + 1) d) && validS ⟨P, B, O, R⟩)
    by_cases c : (l.getD j z25).f3 = R
    · rw [if_pos c, show ((l.getD j z25).f3 == R) = true by simpa using c]; simp
    · rw [if_neg c, show ((l.getD j z25).f3 == R) = false by simpa using c]; simp

theorem server_eq (l : List S25) (i k : Nat) (hi : i < l.length) (hl : l.length ≤ 70000) (hk : i < k) : bulkheadref10_server.f k l (i : Int) = some (okAt l i) := by
  unfold bulkheadref10_server.f
  rw [if_pos (by omega), if_pos (by omega), rd_sv]
  have h := sv_loop l i hi hl (l.getD i z25).f0 (l.getD i z25).f1 (l.getD i z25).f2 (l.getD i z25).f3 i 0 k (by omega) hk
  rw [Int.natCast_zero] at h
  rw [h]
  unfold okAt
  rw [seenB_R l _ i (by omega), Bool.and_comm]

theorem badFrom_zero (l : List S25) (i : Nat) : badFrom l i 0 = i := rfl
theorem badFrom_succ (l : List S25) (i d : Nat) : badFrom l i (d + 1) = if okAt l i then badFrom l (i + 1) d else i := rfl

theorem servers_loop (l : List S25) (hl : l.length ≤ 32) : ∀ (d i k b : Nat), badFrom l i d = b → i + d = l.length → d + l.length < k →
    bulkheadref10_Servers.l0 k l (i : Int) = some (if b < l.length then (101, (b : Int) + 1) else (0, 0)) := by
  intro d
  induction d with
  | zero =>
    intro i k b hb hi hk
    obtain ⟨k, rfl⟩ : ∃ m, k = m + 1 := ⟨k - 1, by omega⟩
    rw [badFrom_zero] at hb; subst hb
    simp only [bulkheadref10_Servers.l0]
    rw [if_neg (by omega), if_neg (show ¬ i < l.length by omega)]
  | succ d ih =>
    intro i k b hb hi hk
    obtain ⟨k, rfl⟩ : ∃ m, k = m + 1 := ⟨k - 1, by omega⟩
    rw [badFrom_succ] at hb
    simp only [bulkheadref10_Servers.l0]
    rw [if_pos (by omega), server_eq l i k (by omega) (by omega) (by omega)]
    simp only [Option.bind_some]
    by_cases c : okAt l i = true
    · rw [if_pos c] at hb
      rw [if_pos c, wrap_i i (by omega)]; exact ih (i + 1) k b hb (by omega) (by omega)
    · rw [if_neg c] at hb; subst hb
      rw [if_neg c, if_pos (show i < l.length by omega), wrap_i i (by omega)]; rfl

theorem Servers_eq (l : List S25) (k : Nat) (hk : 2 * 32 < k) : bulkheadref10_Servers.f k l = some (servS l) := by
  unfold bulkheadref10_Servers.f servS
  by_cases c : (l.length : Int) > 32
  · rw [if_pos c, if_pos (by omega)]
  · rw [if_neg c, if_neg (by omega)]
    exact servers_loop l (by omega) l.length 0 k _ rfl (by omega) (by omega)

/-- The document's Gcd, of what is no greater than 2^20. -/
theorem rgcd_loop : ∀ (n k : Nat) (x y : Nat), y ≤ n → x ≤ 1048576 → y ≤ 1048576 → n < k → bulkheadref01_Gcd.l0 k (x : Int) (y : Int) = some ((Nat.gcd x y : Nat) : Int) := by
  intro n
  induction n with
  | zero =>
    intro k x y hy hx _ hk
    obtain ⟨k, rfl⟩ : ∃ m, k = m + 1 := ⟨k - 1, by omega⟩
    obtain rfl : y = 0 := by omega
    simp only [bulkheadref01_Gcd.l0]
    rw [if_pos (by rfl), signed_eq _ _ (by omega)]
    simp only [Bool.false_eq_true, if_false, Option.bind_some]
    rw [if_pos (by omega), Nat.gcd_zero_right]
  | succ n ih =>
    intro k x y hy hx hy2 hk
    obtain ⟨k, rfl⟩ : ∃ m, k = m + 1 := ⟨k - 1, by omega⟩
    by_cases z : y = 0
    · subst z; exact ih (k + 1) x 0 (by omega) hx (by omega) (by omega)
    · simp only [bulkheadref01_Gcd.l0]
      rw [if_neg (by omega), show Int.tmod (x : Int) (y : Int) = ((x % y : Nat) : Int) by rw [Int.tmod_eq_emod_of_nonneg (by omega)]; rfl]
      have lt := Nat.mod_lt x (show y > 0 by omega)
      rw [ih k y (x % y) (by omega) hy2 (by omega) (by omega), Nat.gcd_comm y, ← Nat.gcd_rec y x, Nat.gcd_comm]

theorem rgcd (k : Nat) (x y : Nat) (hx : x ≤ 1048576) (hy : y ≤ 1048576) (hk : y < k) : bulkheadref01_Gcd.f k (x : Int) (y : Int) = some ((Nat.gcd x y : Nat) : Int) := by
  unfold bulkheadref01_Gcd.f
  rw [away_eq _ (by unfold FitsM; omega), away_eq _ (by unfold FitsM; omega)]
  simp only [Option.bind_some, Int.natAbs_natCast]
  exact rgcd_loop y k x y (Nat.le_refl _) hx hy hk

theorem wrap_nat (q : Nat) (h : q ≤ 1048576) : wrap64 (q : Int) = (q : Int) := by unfold wrap64; omega
theorem small_fits {q : Nat} (h : q ≤ 1048576) : FitsM (q : Int) := by unfold FitsM; omega
theorem mul_fits {m q : Nat} (h0 : m ≤ 1048576) (hq : q ≤ 1048576) : FitsM ((m * q : Nat) : Int) := by
  have h : m * q ≤ 1099511627776 := Nat.le_trans (Nat.mul_le_mul h0 hq) (by decide)
  generalize m * q = z at h
  unfold FitsM; omega

theorem rl1 (l : List Int) (h32 : l.length ≤ 32) (hl : ∀ x ∈ l, 1 ≤ x) (hb : ∀ x ∈ l, x ≤ 1048576) {C : Nat} (hC : ∀ y : Nat, y ≤ 1048576 → y < C) :
    ∀ (d i k : Nat), i + d = l.length → lc l i ≤ 1048576 → C + d < k →
      bulkheadref01_Lcm.l1 k l 1048576 (lc l i : Int) (i : Int) = some (if (lc l l.length : Int) ≤ 1048576 then ((lc l l.length : Int), true) else (0, false)) := by
  intro d
  induction d with
  | zero =>
    intro i k hi h0 hk
    obtain ⟨k, rfl⟩ : ∃ m, k = m + 1 := ⟨k - 1, by omega⟩
    obtain rfl : i = l.length := by omega
    simp only [bulkheadref01_Lcm.l1]
    rw [if_neg (by omega), if_neg (by omega), if_pos (by omega)]
  | succ d ih =>
    intro i k hi h0 hk
    obtain ⟨k, rfl⟩ : ∃ m, k = m + 1 := ⟨k - 1, by omega⟩
    simp only [bulkheadref01_Lcm.l1]
    rw [if_pos (by omega), if_pos (by omega), rd_at]
    have hx := getD_one l hl i (by omega)
    have hx2 : l.getD i 0 ≤ 1048576 := by
      rw [List.getD_eq_getElem?_getD, List.getElem?_eq_getElem (by omega)]; exact hb _ (List.getElem_mem _)
    have hp := lc_pos l hl i (by omega)
    have hle : lc l (i + 1) ≤ lc l l.length := by
      have := lc_mono l hl (i + 1) d (by omega)
      rwa [show i + 1 + d = l.length by omega] at this
    have e1 := lc_succ l i (by omega)
    generalize l.getD i 0 = x at *
    generalize hmm : lc l i = m at *
    obtain ⟨X, rfl⟩ : ∃ X : Nat, x = (X : Int) := ⟨x.toNat, by omega⟩
    simp only [Int.natAbs_natCast] at e1
    have gp : 0 < Nat.gcd m X := Nat.gcd_pos_of_pos_left _ (by omega)
    have gX : Nat.gcd m X ∣ X := Nat.gcd_dvd_right _ _
    have lcm_eq' : m * (X / Nat.gcd m X) = Nat.lcm m X := by rw [Nat.lcm, Nat.mul_div_assoc _ gX]
    have qle : X / Nat.gcd m X ≤ X := Nat.div_le_self _ _
    rw [rgcd k m X h0 (by omega) (by have := hC X (by omega); omega)]
    simp only [Option.bind_some]
    have q1 : Int.tdiv (X : Int) (Nat.gcd m X : Int) = ((X / Nat.gcd m X : Nat) : Int) := by rw [Int.tdiv_eq_ediv_of_nonneg (by omega)]; rfl
    have xle : X ≤ 1048576 := by omega
    have qb : X / Nat.gcd m X ≤ 1048576 := Nat.le_trans qle xle
    rw [if_neg (by omega), q1, wrap_nat _ qb]
    have f3 := mul_fits h0 qb
    rw [lcm_eq', ← e1] at f3
    have mf : bulkheadref01_Mul.f (m : Int) ((X / Nat.gcd m X : Nat) : Int) = some ((lc l (i + 1) : Int), true) := by
      unfold bulkheadref01_Mul.f
      rw [if_pos ⟨small_fits h0, small_fits qb⟩, ← Int.natCast_mul, lcm_eq', ← e1, if_pos f3]
    rw [mf]
    simp only [Option.bind_some, if_true]
    by_cases c : lc l (i + 1) ≤ 1048576
    · rw [if_neg (by omega), wrap_i i (by omega)]
      exact ih (i + 1) k (by omega) c (by omega)
    · rw [if_pos (by omega), if_neg (by omega)]

theorem rl0 (l : List Int) (h32 : l.length ≤ 32) (hl : ∀ x ∈ l, 1 ≤ x) : ∀ (d i k : Nat), i + d = l.length → d < k →
    bulkheadref01_Lcm.l0 k l 1048576 1 (i : Int) = bulkheadref01_Lcm.l1 (k - d - 1) l 1048576 1 0 := by
  intro d
  induction d with
  | zero =>
    intro i k hi hk
    obtain ⟨k, rfl⟩ : ∃ m, k = m + 1 := ⟨k - 1, by omega⟩
    simp only [bulkheadref01_Lcm.l0]
    rw [if_neg (by omega)]; rfl
  | succ d ih =>
    intro i k hi hk
    obtain ⟨k, rfl⟩ : ∃ m, k = m + 1 := ⟨k - 1, by omega⟩
    simp only [bulkheadref01_Lcm.l0]
    have hx := getD_one l hl i (by omega)
    rw [if_pos (by omega), if_pos (by omega), rd_at, if_neg (by omega), wrap_i i (by omega), ih (i + 1) k (by omega) (by omega), show k + 1 - (d + 1) - 1 = k - d - 1 by omega]

theorem rlcm {C : Nat} (hC : ∀ y : Nat, y ≤ 1048576 → y < C) (l : List Int) (h32 : l.length ≤ 32) (hx : ∀ x ∈ l, 1 ≤ x ∧ x ≤ 1048576) (k : Nat) (hk : C + 100 < k) : bulkheadref01_Lcm.f k l 1048576 = some (lcmF l) := by
  unfold bulkheadref01_Lcm.f lcmF
  have h1 : ∀ x ∈ l, 1 ≤ x := fun x h => (hx x h).1
  have h0 := rl0 l h32 h1 l.length 0 k (by omega) (by omega)
  rw [Int.natCast_zero] at h0
  rw [h0, if_pos ((allB_zero l).2 h1)]
  have h2 := rl1 l h32 h1 (fun x h => (hx x h).2) hC l.length 0 (k - l.length - 1) (by omega) (by rw [lc_zero]; omega) (by omega)
  rw [lc_zero] at h2
  exact h2

theorem rhyper_loop {C : Nat} (hC : ∀ y : Nat, y ≤ 1048576 → y < C) (l : List S25) (h32 : l.length ≤ 32) (hok : ∀ i, i < l.length → okAt l i = true) : ∀ (d i k : Nat), i + d = l.length → C + 200 + d < k →
    bulkheadref10_hyper.l0 k l (pers l i) (i : Int) = some (lcmF (pers l l.length)) := by
  intro d
  induction d with
  | zero =>
    intro i k hi hk
    obtain ⟨k, rfl⟩ : ∃ m, k = m + 1 := ⟨k - 1, by omega⟩
    obtain rfl : i = l.length := by omega
    simp only [bulkheadref10_hyper.l0]
    rw [if_neg (by omega), rlcm hC (pers l l.length) (by simp [pers]; omega) (pers_in l hok) k (by omega)]; rfl
  | succ d ih =>
    intro i k hi hk
    obtain ⟨k, rfl⟩ : ∃ m, k = m + 1 := ⟨k - 1, by omega⟩
    simp only [bulkheadref10_hyper.l0]
    have hlen : (pers l i).length ≤ 32 := by simp only [pers, List.length_map, List.length_take]; omega
    rw [if_pos (by omega), if_pos (by omega), if_pos (by omega), rd_sv, ← pers_succ l i (by omega), wrap_i i (by omega)]
    exact ih (i + 1) k (by omega) (by omega)

theorem rsum_loop (l : List S25) (h32 : l.length ≤ 32) (hok : ∀ i, i < l.length → okAt l i = true) (h : Int) (hh : 1 ≤ h ∧ h ≤ 1048576) : ∀ (d i k : Nat), i + d = l.length → d < k →
    bulkheadref10_Hyper.l0 k l h (relsum l h i) (i : Int) = some (if 65536 < relsum l h l.length then (0, 103) else (h, 0)) := by
  intro d
  induction d with
  | zero =>
    intro i k hi hk
    obtain ⟨k, rfl⟩ : ∃ m, k = m + 1 := ⟨k - 1, by omega⟩
    obtain rfl : i = l.length := by omega
    simp only [bulkheadref10_Hyper.l0]
    rw [if_neg (by omega)]
    by_cases c : 65536 < relsum l h l.length
    · rw [if_pos (show relsum l h l.length > 65536 from c), if_pos c]
    · rw [if_neg (show ¬ relsum l h l.length > 65536 from c), if_neg c]
  | succ d ih =>
    intro i k hi hk
    obtain ⟨k, rfl⟩ : ∃ m, k = m + 1 := ⟨k - 1, by omega⟩
    simp only [bulkheadref10_Hyper.l0]
    have hp := pers_bd l hok i (by omega)
    rw [pers_at l i (by omega)] at hp
    have hb := relsum_bd l h hok hh i (by omega)
    have hs := relsum_succ l h i (by omega)
    have h1 : 0 ≤ 2 * h / (l.getD i z25).f0 := Int.ediv_nonneg (by omega) (by omega)
    have h2 : 2 * h / (l.getD i z25).f0 ≤ 2 * h := Int.ediv_le_self _ (by omega)
    have w1 : wrap64 (2 * h) = 2 * h := by unfold wrap64; omega
    rw [if_pos (by omega), if_pos (by omega), rd_sv, w1, Int.tdiv_eq_ediv_of_nonneg (by omega), if_neg (by omega), wrap_i i (by omega)]
    have h3 : (relsum l h i + 2 * h / (l.getD i z25).f0) = relsum l h (i + 1) := hs.symm
    generalize 2 * h / (l.getD i z25).f0 = q at *
    have w2 : wrap64 q = q := by unfold wrap64; omega
    rw [w2, h3]
    have w3 : wrap64 (relsum l h (i + 1)) = relsum l h (i + 1) := by unfold wrap64; omega
    rw [w3]
    exact ih (i + 1) k (by omega) (by omega)

theorem bad_iff (l : List S25) : badFrom l 0 l.length < l.length ↔ ¬ ∀ i, i < l.length → okAt l i = true := by
  constructor
  · intro h hok
    rw [badFrom_none l l.length 0 (fun j _ hj => hok j (by omega))] at h; omega
  · intro h
    apply Classical.byContradiction
    intro c
    apply h
    -- no bad place: all are well
    have all : ∀ d i, i + d = l.length → ¬ badFrom l i d < l.length → ∀ j, i ≤ j → j < l.length → okAt l j = true := by
      intro d
      induction d with
      | zero => intro i hi _ j h1 h2; omega
      | succ d ih =>
        intro i hi hb j h1 h2
        unfold badFrom at hb
        by_cases o : okAt l i = true
        · rw [if_pos o] at hb
          by_cases e : j = i
          · subst e; exact o
          · exact ih (i + 1) (by omega) hb j (by omega) h2
        · rw [if_neg o] at hb; omega
    exact fun i hi => all l.length 0 (by omega) c i (by omega) hi

theorem Hyper_eq : ∃ C : Nat, ∀ (l : List S25) (k : Nat), C < k → bulkheadref10_Hyper.f k l = some (hypS lcmF l) := by
  obtain ⟨C, hC⟩ : ∃ C : Nat, ∀ y : Nat, y ≤ 1048576 → y < C := ⟨1048577, fun y h => by omega⟩
  refine ⟨C + 400, fun l k hk => ?_⟩
  unfold bulkheadref10_Hyper.f
  rw [Servers_eq l k (by omega)]
  simp only [Option.bind_some]
  unfold servS hypS
  by_cases c : 32 < l.length
  · rw [if_pos c, if_pos c]; rfl
  · rw [if_neg c, if_neg c]
    by_cases o : badFrom l 0 l.length < l.length
    · have e : (List.range l.length).all (okAt l) = false := by
        cases e : (List.range l.length).all (okAt l) with
        | false => rfl
        | true => exact absurd ((all_ok l).1 e) ((bad_iff l).1 o)
      rw [if_pos o, if_neg (by simp), if_pos e]
    · have hok : ∀ i, i < l.length → okAt l i = true := Classical.byContradiction fun h => o ((bad_iff l).2 h)
      have e0 : ¬ (List.range l.length).all (okAt l) = false := by rw [(all_ok l).2 hok]; simp
      rw [if_neg o, if_pos rfl, if_neg e0]
      have hh : bulkheadref10_hyper.f k l = some (lcmF (pers l l.length)) := by
        unfold bulkheadref10_hyper.f
        exact rhyper_loop hC l (by omega) hok l.length 0 k (by omega) (by omega)
      rw [hh]
      simp only [Option.bind_some]
      obtain ⟨K, hK⟩ := lcmF_is
      have hb := (hK (pers l l.length) (by simp [pers]; omega) (pers_in l hok)).2
      cases e : (lcmF (pers l l.length)).2 with
      | false => simp
      | true =>
        simp only [if_true]
        rw [if_neg (by simp)]
        have := rsum_loop l (by omega) hok (lcmF (pers l l.length)).1 (hb e) l.length 0 k (by omega) (by omega)
        rw [show relsum l (lcmF (pers l l.length)).1 0 = 0 from rfl, Int.natCast_zero] at this
        exact this
end Go.Proofs.YtepidpcdbdbemaaDoor.B
