/- Proved, plainly: a table of run lengths has no more slots than releases allow. No program's step in it. -/
import Derived.Test.YtckdjcidbpnfeaaDoorHRleP
import Derived.Test.YtckdjcidbpnfeaaDoorHOcc
namespace Go.Proofs.YtckdjcidbpnfeaaDoor.B
open Go.RowKit OccMath Go.Proofs.YtckdjcidbpnfeaaDoorW.PrintWords Go.Proofs.YtckdjcidbpnfeaaDoorW.PrintLast Go.Proofs.YtckdjcidbpnfeaaDoorW.PrintMore

def sumN (f : Nat → Nat) : Nat → Nat
  | 0 => 0
  | n + 1 => sumN f n + f n
theorem sumN_le (f g : Nat → Nat) : ∀ n, (∀ i, i < n → f i ≤ g i) → sumN f n ≤ sumN g n
  | 0, _ => Nat.le_refl _
  | n + 1, h => Nat.add_le_add (sumN_le f g n fun i hi => h i (by omega)) (h n (by omega))
theorem sumN_eq (f g : Nat → Nat) : ∀ n, (∀ i, i < n → f i = g i) → sumN f n = sumN g n
  | 0, _ => rfl
  | n + 1, h => by show sumN f n + f n = sumN g n + g n; rw [sumN_eq f g n fun i hi => h i (by omega), h n (by omega)]
theorem sumN_add (f g : Nat → Nat) : ∀ n, sumN (fun i => f i + g i) n = sumN f n + sumN g n
  | 0 => rfl
  | n + 1 => by show sumN (fun i => f i + g i) n + (f n + g n) = sumN f n + f n + (sumN g n + g n); rw [sumN_add f g n]; omega
theorem sumN_zero : ∀ n, sumN (fun _ => 0) n = 0
  | 0 => rfl
  | n + 1 => by show sumN _ n + 0 = 0; rw [sumN_zero n]
theorem sumN_swap (f : Nat → Nat → Nat) (m : Nat) : ∀ n, sumN (fun t => sumN (fun i => f t i) m) n = sumN (fun i => sumN (fun t => f t i) n) m
  | 0 => (sumN_zero m).symm
  | n + 1 => by
    show sumN _ n + sumN (fun i => f n i) m = _
    rw [sumN_swap f m n, ← sumN_add]; rfl
theorem sumN_shift (f : Nat → Nat) (a : Nat) : ∀ d, sumN f (a + d) = sumN f a + sumN (fun t => f (a + t)) d
  | 0 => rfl
  | d + 1 => by show sumN f (a + d) + f (a + d) = sumN f a + (sumN (fun t => f (a + t)) d + f (a + d)); rw [sumN_shift f a d]; omega
theorem sumN_one (f g : Nat → Nat) (i : Nat) : ∀ n, i < n → (∀ j, j < n → j ≠ i → f j = g j) → f i + 1 = g i → sumN f n + 1 = sumN g n
  | 0, h, _, _ => absurd h (Nat.not_lt_zero _)
  | n + 1, h, h1, h2 => by
    show sumN f n + f n + 1 = sumN g n + g n
    by_cases c : i = n
    · subst c
      rw [sumN_eq f g i fun j hj => h1 j (by omega) (by omega)]; omega
    · have := sumN_one f g i n (by omega) (fun j hj => h1 j (by omega)) h2
      rw [h1 n (by omega) (by omega)]; omega

/-- How many are released at a tick; how many have a rest. -/
def relN (S : Sv) (t : Nat) : Nat := sumN (fun i => if S.rel i t then 1 else 0) S.n
def potN (S : Sv) (t : Nat) : Nat := sumN (fun i => if 0 < S.R t i then 1 else 0) S.n

theorem pot_step (S : Sv) (t : Nat) : potN S (t + 1) ≤ potN S t + relN S (t + 1) := by
  unfold potN relN
  rw [← sumN_add]
  refine sumN_le _ _ _ fun i _ => ?_
  have e : S.R (t + 1) i = if S.rel i (t + 1) then S.b i else S.R t i - (if chosen S.pr (S.R t) S.n = i + 1 then 1 else 0) := rfl
  by_cases c : S.rel i (t + 1)
  · rw [if_pos c]; split <;> split <;> omega
  · rw [e, if_neg c, if_neg c]
    by_cases h : 0 < S.R t i
    · rw [if_pos h]
      generalize S.R t i - (if chosen S.pr (S.R t) S.n = i + 1 then 1 else 0) = x
      split <;> omega
    · rw [if_neg h, if_neg (by omega)]; omega

theorem relN_zero (S : Sv) (t : Nat) (h : relN S t = 0) : ∀ i, i < S.n → ¬ S.rel i t := by
  unfold relN at h
  have aux : ∀ n, sumN (fun i => if S.rel i t then 1 else 0) n = 0 → ∀ i, i < n → ¬ S.rel i t := by
    intro n
    induction n with
    | zero => intro _ i hi; omega
    | succ n ih =>
      intro h i hi
      have e : sumN (fun i => if S.rel i t then 1 else 0) n + (if S.rel n t then 1 else 0) = 0 := h
      by_cases c : i = n
      · subst c; intro hr; rw [if_pos hr] at e; omega
      · exact ih (by omega) i (by omega)
  exact aux _ h

/-- A change of the occupant is paid by a release or by a budget's end. -/
theorem change_step (S : Sv) (t : Nat) : (if S.occ (t + 1) = S.occ t then 0 else 1) + potN S (t + 1) ≤ potN S t + 2 * relN S (t + 1) := by
  have h0 := pot_step S t
  by_cases c : 1 ≤ relN S (t + 1)
  · split <;> omega
  · have hz := relN_zero S (t + 1) (by omega)
    have e : ∀ i, i < S.n → S.R (t + 1) i = S.R t i - (if S.occ t = i + 1 then 1 else 0) := fun i hi => by
      show (if S.rel i (t + 1) then S.b i else S.R t i - (if chosen S.pr (S.R t) S.n = i + 1 then 1 else 0)) = _
      rw [if_neg (hz i hi)]; rfl
    by_cases same : ∀ j, j < S.n → (0 < S.R (t + 1) j ↔ 0 < S.R t j)
    · have ho : S.occ (t + 1) = S.occ t := chosen_congr S.pr _ _ S.n same
      rw [if_pos ho]; omega
    · -- the occupant's budget ends
      have hpos : 0 < S.occ t := by
        rcases Nat.eq_zero_or_pos (S.occ t) with z | z
        · exact absurd (fun j hj => by rw [e j hj, z, if_neg (by omega), Nat.sub_zero]) same
        · exact z
      have hle : S.occ t ≤ S.n := chosen_le _ _ _
      have hr : 0 < S.R t (S.occ t - 1) := chosen_pos S.pr (S.R t) S.n hpos
      have one : S.R t (S.occ t - 1) = 1 := by
        rcases Nat.lt_or_ge 1 (S.R t (S.occ t - 1)) with h | h
        · refine absurd (fun j hj => ?_) same
          rw [e j hj]
          by_cases q : S.occ t = j + 1
          · rw [if_pos q]
            rw [q, Nat.add_sub_cancel] at h
            omega
          · rw [if_neg q, Nat.sub_zero]
        · omega
      have hp : potN S (t + 1) + 1 = potN S t := by
        unfold potN
        refine sumN_one _ _ (S.occ t - 1) S.n (by omega) (fun j hj hne => ?_) ?_
        · rw [e j hj, if_neg (show ¬ S.occ t = j + 1 by omega), Nat.sub_zero]
        · rw [e _ (by omega), if_pos (show S.occ t = S.occ t - 1 + 1 by omega), one, if_neg (by omega), if_pos (by omega)]
      split <;> omega

/-- The slots of some ticks are paid by the releases among them. -/
theorem rle_paid (S : Sv) (a : Nat) : ∀ d, (rle S.occ a (d + 1)).length + potN S (a + d) ≤ 1 + potN S a + 2 * sumN (fun t => relN S (a + 1 + t)) d
  | 0 => by
    show (addL [] 1 (S.occ (a + 0))).length + potN S (a + 0) ≤ 1 + potN S a + 2 * 0
    rw [addL_nil, Nat.add_zero]; simp
  | d + 1 => by
    have ih := rle_paid S a d
    have st := change_step S (a + d)
    have e : (rle S.occ a (d + 2)).length ≤ (rle S.occ a (d + 1)).length + (if S.occ (a + d + 1) = S.occ (a + d) then 0 else 1) := by
      show (addL (rle S.occ a (d + 1)) 1 (S.occ (a + (d + 1)))).length ≤ _
      by_cases c : S.occ (a + d + 1) = S.occ (a + d)
      · rw [if_pos c, ← Nat.add_assoc, c]
        show (addL (addL (rle S.occ a d) 1 (S.occ (a + d))) 1 (S.occ (a + d))).length ≤ (addL (rle S.occ a d) 1 (S.occ (a + d))).length + 0
        rw [addL_two]
        generalize rle S.occ a d = l
        rcases List.eq_nil_or_concat l with e | ⟨l, ⟨n, q⟩, e⟩
        · subst e; rw [addL_nil, addL_nil]; simp
        · subst e
          rw [List.concat_eq_append, addL_snoc, addL_snoc]
          split <;> simp
      · rw [if_neg c]; exact (addL_length _ _ _).2
    show (rle S.occ a (d + 2)).length + potN S (a + d + 1) ≤ 1 + potN S a + 2 * (sumN (fun t => relN S (a + 1 + t)) d + relN S (a + 1 + d))
    rw [show a + 1 + d = a + d + 1 by omega]
    omega

theorem pot_zero (S : Sv) : potN S 0 ≤ relN S 0 := by
  unfold potN relN
  refine sumN_le _ _ _ fun i _ => ?_
  have e : S.R 0 i = if S.rel i 0 then S.b i else 0 := rfl
  rw [e]
  by_cases c : S.rel i 0
  · rw [if_pos c, if_pos c]; split <;> omega
  · rw [if_neg c, if_neg c]; simp

theorem two_parts (S : Sv) (H : Nat) (hH : 1 ≤ H) : (rle S.occ 0 H).length + (rle S.occ H H).length ≤ 2 + 2 * sumN (relN S) (2 * H) := by
  obtain ⟨h, rfl⟩ : ∃ h, H = h + 1 := ⟨H - 1, by omega⟩
  have a := rle_paid S 0 h
  have b := rle_paid S (h + 1) h
  have p0 := pot_zero S
  have ps := pot_step S h
  have s1 := sumN_shift (relN S) 1 h
  have s2 := sumN_shift (relN S) (h + 1 + 1) h
  have e1 : sumN (relN S) 1 = relN S 0 := by show 0 + relN S 0 = _; rw [Nat.zero_add]
  have e2 : sumN (relN S) (h + 1 + 1) = sumN (relN S) (h + 1) + relN S (h + 1) := rfl
  rw [show 1 + h = h + 1 by omega] at s1
  rw [show 2 * (h + 1) = h + 1 + 1 + h by omega, s2, e2, s1, e1]
  rw [Nat.zero_add] at a
  simp only [Nat.zero_add] at a
  omega

/-- A server's releases: one a period. -/
theorem rel_window (S : Sv) (i a : Nat) (hp : 1 ≤ S.p i) : ∀ d, d ≤ S.p i → sumN (fun t => if S.rel i (a + t) then 1 else 0) d ≤ 1
  | 0, _ => Nat.zero_le _
  | d + 1, hd => by
    have ih := rel_window S i a hp d (by omega)
    show sumN _ d + (if S.rel i (a + d) then 1 else 0) ≤ 1
    by_cases c : S.rel i (a + d)
    · rw [if_pos c]
      have : sumN (fun t => if S.rel i (a + t) then 1 else 0) d = 0 := by
        rw [sumN_eq _ (fun _ => 0) d fun t ht => if_neg fun hr => ?_, sumN_zero]
        have := S.rel_apart i (a + t) (a + d) hr c (by omega)
        omega
      omega
    · rw [if_neg c]; omega
theorem rel_many (S : Sv) (i : Nat) (hp : 1 ≤ S.p i) : ∀ m, sumN (fun t => if S.rel i t then 1 else 0) (m * S.p i) ≤ m
  | 0 => by rw [Nat.zero_mul]; exact Nat.zero_le _
  | m + 1 => by
    rw [Nat.succ_mul, sumN_shift]
    have h1 := rel_many S i hp m
    have h2 := rel_window S i (m * S.p i) hp (S.p i) (Nat.le_refl _)
    omega
theorem rel_all (S : Sv) (H : Nat) (hO : S.Ok H) : sumN (relN S) (2 * H) ≤ sumN (fun i => 2 * H / S.p i) S.n := by
  show sumN (fun t => sumN (fun i => if S.rel i t then 1 else 0) S.n) (2 * H) ≤ _
  rw [sumN_swap (fun t i => if S.rel i t then 1 else 0)]
  refine sumN_le _ _ _ fun i hi => ?_
  obtain ⟨m, hm⟩ := hO.dvd i hi
  have hp := hO.p1 i hi
  have e : 2 * H = 2 * m * S.p i := by rw [hm, Nat.mul_assoc, Nat.mul_comm m]
  rw [e, Nat.mul_div_cancel _ hp]
  exact rel_many S i hp (2 * m)

theorem relsum_nat (l : List S24) (H : Nat) (hok : ∀ i, i < l.length → okAt l i = true) : ∀ k, k ≤ l.length → relsum l (H : Int) k = ((sumN (fun i => 2 * H / (sv l).p i) k : Nat) : Int)
  | 0, _ => by simp [relsum, sumN]
  | k + 1, hk => by
    obtain ⟨s0, _⟩ := srv_at hok k (by omega)
    rw [relsum_succ l H k (by omega), relsum_nat l H hok k (by omega), s0]
    show _ = ((sumN (fun i => 2 * H / (sv l).p i) k + 2 * H / (sv l).p k : Nat) : Int)
    rw [Int.natCast_add, Int.natCast_ediv]; rfl

/-- The two parts of a table have no more slots than releases allow. -/
theorem slots_few (l : List S24) (he : (hypS lcmF l).2 = 0) : (rle (sv l).occ 0 (hyp l)).length + (rle (sv l).occ (hyp l) (hyp l)).length ≤ 131074 := by
  obtain ⟨hbd, hok, hH1, hH2, hHe, hO⟩ := ok_of_hyp l he
  obtain ⟨h32, _, hl2, hl1⟩ := hyp_cases l he
  have hs : relsum l (hyp l : Nat) l.length ≤ 65536 := by
    rw [← hHe, hl1]
    by_cases c : 65536 < relsum l (lcmF (pers l l.length)).1 l.length
    · unfold hypS at he
      rw [if_neg (by omega), if_neg (by rw [(all_ok l).2 hok]; simp), if_neg (by rw [hl2]; simp), if_pos c] at he
      simp at he
    · omega
  rw [relsum_nat l (hyp l) hok l.length (Nat.le_refl _)] at hs
  have h1 := two_parts (sv l) (hyp l) hH1
  have h2 := rel_all (sv l) (hyp l) hO
  have h3 : (sv l).n = l.length := rfl
  rw [h3] at h2
  omega
end Go.Proofs.YtckdjcidbpnfeaaDoor.B
