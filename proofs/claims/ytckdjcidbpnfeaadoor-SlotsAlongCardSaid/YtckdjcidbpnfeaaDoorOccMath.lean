/- Plain laws of a set of servers with budgets, tick by tick: who has the tick (the greatest priority among the rests above 0), and that from a common multiple H of the periods on the occupants come again with H. -/
namespace OccMath

/-- Of the first n rests above 0 the one of the greatest priority, by its place from 1 on; 0: none. -/
def chosen (pr : Nat → Nat) (r : Nat → Nat) : Nat → Nat
  | 0 => 0
  | n + 1 => if 0 < r n ∧ (chosen pr r n = 0 ∨ pr (chosen pr r n - 1) < pr n) then n + 1 else chosen pr r n

theorem chosen_le (pr r : Nat → Nat) : ∀ n, chosen pr r n ≤ n
  | 0 => Nat.le_refl _
  | n + 1 => by
    have := chosen_le pr r n
    unfold chosen; split <;> omega

theorem chosen_pos (pr r : Nat → Nat) : ∀ n, 0 < chosen pr r n → 0 < r (chosen pr r n - 1)
  | 0 => fun h => by simp [chosen] at h
  | n + 1 => fun h => by
    unfold chosen at h ⊢
    split
    · rename_i c; simpa using c.1
    · rename_i c; rw [if_neg c] at h; exact chosen_pos pr r n h

theorem chosen_max (pr r : Nat → Nat) : ∀ n i, i < n → 0 < r i → 0 < chosen pr r n ∧ pr i ≤ pr (chosen pr r n - 1)
  | 0, i, h, _ => by omega
  | n + 1, i, h, hr => by
    unfold chosen
    by_cases e : i = n
    · subst e
      split
      · simp
      · rename_i c
        have : ¬ (chosen pr r i = 0 ∨ pr (chosen pr r i - 1) < pr i) := fun k => c ⟨hr, k⟩
        omega
    · have := chosen_max pr r n i (by omega) hr
      split
      · rename_i c
        refine ⟨by omega, ?_⟩
        simp only [Nat.add_sub_cancel]
        omega
      · exact this

/-- The one of the greatest priority is told by just that. -/
theorem chosen_iff (pr r : Nat → Nat) (n i : Nat) (hi : i < n) (inj : ∀ a b, a < n → b < n → pr a = pr b → a = b) :
    chosen pr r n = i + 1 ↔ 0 < r i ∧ ∀ j, j < n → 0 < r j → pr j ≤ pr i := by
  constructor
  · intro h
    have h1 := chosen_pos pr r n (by omega)
    rw [h] at h1
    refine ⟨by simpa using h1, fun j hj hr => ?_⟩
    have := (chosen_max pr r n j hj hr).2
    rw [h] at this; simpa using this
  · rintro ⟨hr, hm⟩
    have h1 := chosen_max pr r n i hi hr
    have h2 := chosen_pos pr r n h1.1
    have h3 := chosen_le pr r n
    have h4 := hm _ (by omega) h2
    have := inj i (chosen pr r n - 1) hi (by omega) (by omega)
    omega

theorem chosen_zero (pr r : Nat → Nat) (n : Nat) : chosen pr r n = 0 ↔ ∀ j, j < n → r j = 0 := by
  constructor
  · intro h j hj
    by_cases c : r j = 0
    · exact c
    · have := (chosen_max pr r n j hj (by omega)).1; omega
  · intro h
    have h3 := chosen_le pr r n
    by_cases c : chosen pr r n = 0
    · exact c
    · have := chosen_pos pr r n (by omega)
      rw [h _ (by omega)] at this; omega

/-- Servers: how many, their periods, budgets, offsets, priorities. -/
structure Sv where
  n : Nat
  p : Nat → Nat
  b : Nat → Nat
  o : Nat → Nat
  pr : Nat → Nat

/-- Is server i released at tick t? -/
def Sv.rel (S : Sv) (i t : Nat) : Prop := S.o i ≤ t ∧ (t - S.o i) % S.p i = 0
instance (S : Sv) (i t : Nat) : Decidable (S.rel i t) := inferInstanceAs (Decidable (_ ∧ _))

/-- The rests at a tick, behind its releases. -/
def Sv.R (S : Sv) : Nat → Nat → Nat
  | 0 => fun i => if S.rel i 0 then S.b i else 0
  | t + 1 => fun i => if S.rel i (t + 1) then S.b i else S.R t i - (if chosen S.pr (S.R t) S.n = i + 1 then 1 else 0)

/-- The occupant of a tick: a place from 1 on; 0: nobody. -/
def Sv.occ (S : Sv) (t : Nat) : Nat := chosen S.pr (S.R t) S.n

/-- Servers that may be, H being a common multiple of their periods. -/
structure Sv.Ok (S : Sv) (H : Nat) : Prop where
  p1 : ∀ i, i < S.n → 1 ≤ S.p i
  b1 : ∀ i, i < S.n → 1 ≤ S.b i ∧ S.b i ≤ S.p i
  o1 : ∀ i, i < S.n → S.o i < S.p i
  inj : ∀ a b, a < S.n → b < S.n → S.pr a = S.pr b → a = b
  top : ∀ i, i < S.n → S.pr i < 256
  H1 : 1 ≤ H
  dvd : ∀ i, i < S.n → S.p i ∣ H

variable {S : Sv} {H : Nat}

theorem Sv.rel_add (ok : S.Ok H) {i : Nat} (hi : i < S.n) (t : Nat) : S.rel i t → S.rel i (t + H) := by
  rintro ⟨h, h'⟩
  obtain ⟨k, hk⟩ := ok.dvd i hi
  refine ⟨by omega, ?_⟩
  rw [show t + H - S.o i = t - S.o i + S.p i * k by omega, Nat.add_mul_mod_self_left]; exact h'

theorem Sv.rel_sub (ok : S.Ok H) {i : Nat} (hi : i < S.n) (t : Nat) : S.rel i (t + H) → S.rel i t := by
  rintro ⟨h, h'⟩
  obtain ⟨k, hk⟩ := ok.dvd i hi
  have ho := ok.o1 i hi
  by_cases c : S.o i ≤ t
  · refine ⟨c, ?_⟩
    rw [show t + H - S.o i = t - S.o i + S.p i * k by omega, Nat.add_mul_mod_self_left] at h'; exact h'
  · exfalso
    -- t < o: then o - t is a multiple of the period, between 1 and it
    obtain ⟨m, hm⟩ := Nat.dvd_of_mod_eq_zero h'
    have e : S.p i * k = S.p i * m + (S.o i - t) := by omega
    have d : S.p i ∣ S.o i - t := (Nat.dvd_add_right (Nat.dvd_mul_right _ m)).1 (e ▸ Nat.dvd_mul_right _ k)
    have := Nat.le_of_dvd (by omega) d
    omega

/-- How many ticks of [r, t) are none of A's. -/
def free (A : Nat → Bool) (r : Nat) : Nat → Nat
  | 0 => 0
  | k + 1 => free A r k + (if A (r + k) then 0 else 1)

theorem free_succ (A : Nat → Bool) (r k : Nat) : free A r (k + 1) = free A r k + (if A (r + k) then 0 else 1) := rfl

theorem free_le_of (A B : Nat → Bool) (r s : Nat) : ∀ k, (∀ j, j < k → A (r + j) = true → B (s + j) = true) → free B s k ≤ free A r k
  | 0, _ => Nat.le_refl _
  | k + 1, h => by
    have ih := free_le_of A B r s k fun j hj => h j (by omega)
    have := h k (by omega)
    rw [free_succ, free_succ]
    by_cases c : A (r + k) = true
    · rw [if_pos c, if_pos (this c)]; omega
    · rw [if_neg c]; split <;> omega

/-- Where fewer are free, one is. -/
theorem free_lt_some (A B : Nat → Bool) (r s : Nat) (k : Nat) (h : free B s k < free A r k) : ∃ j, j < k ∧ A (r + j) = false ∧ B (s + j) = true := by
  apply Classical.byContradiction
  intro c
  have : free A r k ≤ free B s k := free_le_of B A s r k fun j hj hb => by
    cases ha : A (r + j) with
    | true => rfl
    | false => exact absurd ⟨j, hj, ha, hb⟩ c
  omega

/-- The last release: a rest is the budget less the ticks that were free for the server since then. -/
theorem Sv.rest (ok : S.Ok H) {i : Nat} (hi : i < S.n) (A : Nat → Bool)
    (hA : ∀ t, S.occ t = i + 1 ↔ A t = false ∧ 0 < S.R t i) :
    ∀ t, (S.R t i = 0 ∧ t < S.o i) ∨ ∃ r k, t = r + k ∧ k < S.p i ∧ S.rel i r ∧ (∀ j, 1 ≤ j → j < S.p i → ¬ S.rel i (r + j)) ∧ S.R t i = S.b i - free A r k := by
  have p1 := ok.p1 i hi
  have quiet : ∀ r, S.rel i r → ∀ j, 1 ≤ j → j < S.p i → ¬ S.rel i (r + j) := by
    rintro r ⟨h, h'⟩ j hj hj' ⟨_, h2⟩
    rw [show r + j - S.o i = r - S.o i + j by omega] at h2
    obtain ⟨m, hm⟩ := Nat.dvd_of_mod_eq_zero h'
    rw [hm, Nat.mul_add_mod_self_left, Nat.mod_eq_of_lt hj'] at h2
    omega
  intro t
  induction t with
  | zero =>
    by_cases c : S.rel i 0
    · exact .inr ⟨0, 0, rfl, by omega, c, quiet 0 c, by simp [Sv.R, c, free]⟩
    · refine .inl ⟨by simp [Sv.R, c], ?_⟩
      apply Classical.byContradiction
      intro h
      exact c ⟨by omega, by rw [Nat.zero_sub]; exact Nat.zero_mod _⟩
  | succ t ih =>
    by_cases c : S.rel i (t + 1)
    · exact .inr ⟨t + 1, 0, rfl, by omega, c, quiet _ c, by simp [Sv.R, c, free]⟩
    · have e : S.R (t + 1) i = S.R t i - (if S.occ t = i + 1 then 1 else 0) := by
        show (if S.rel i (t + 1) then S.b i else S.R t i - (if chosen S.pr (S.R t) S.n = i + 1 then 1 else 0)) = _
        rw [if_neg c]; rfl
      rcases ih with ⟨h0, h1⟩ | ⟨r, k, rfl, hk, hr, hq, hR⟩
      · left
        refine ⟨by rw [e, h0]; omega, ?_⟩
        apply Classical.byContradiction
        intro h
        refine c ⟨by omega, ?_⟩
        rw [show t + 1 - S.o i = 0 by omega]; exact Nat.zero_mod _
      · right
        have hk' : k + 1 < S.p i := by
          apply Classical.byContradiction
          intro h
          have hp : k + 1 = S.p i := by omega
          refine c ⟨by have := hr.1; omega, ?_⟩
          rw [show r + k + 1 - S.o i = r - S.o i + S.p i by have := hr.1; omega, Nat.add_mod_right]; exact hr.2
        refine ⟨r, k + 1, rfl, hk', hr, hq, ?_⟩
        rw [e, hR, free_succ]
        by_cases a : A (r + k) = true
        · rw [if_pos a, if_neg]
          · omega
          · intro o; rw [((hA _).1 o).1] at a; cases a
        · have a' : A (r + k) = false := by simpa using a
          rw [if_neg a]
          by_cases z : 0 < S.R (r + k) i
          · rw [if_pos ((hA _).2 ⟨a', z⟩)]; omega
          · rw [if_neg (fun o => z ((hA _).1 o).2)]; omega

/-- Is the tick one of those of a priority not below q? -/
def Sv.busy (S : Sv) (q t : Nat) : Bool := decide (∃ j, j < S.n ∧ q ≤ S.pr j ∧ 0 < S.R t j)

theorem Sv.busy_iff (q t : Nat) : S.busy q t = true ↔ ∃ j, j < S.n ∧ q ≤ S.pr j ∧ 0 < S.R t j := by unfold Sv.busy; simp

theorem Sv.occ_iff (ok : S.Ok H) {i : Nat} (hi : i < S.n) (t : Nat) : S.occ t = i + 1 ↔ S.busy (S.pr i + 1) t = false ∧ 0 < S.R t i := by
  unfold Sv.occ
  rw [chosen_iff S.pr (S.R t) S.n i hi ok.inj]
  constructor
  · rintro ⟨h, hm⟩
    refine ⟨?_, h⟩
    cases c : S.busy (S.pr i + 1) t with
    | false => rfl
    | true =>
      obtain ⟨j, hj, hq, hr⟩ := (Sv.busy_iff _ _).1 c
      have := hm j hj hr
      omega
  · rintro ⟨c, h⟩
    refine ⟨h, fun j hj hr => ?_⟩
    apply Classical.byContradiction
    intro k
    have : S.busy (S.pr i + 1) t = true := (Sv.busy_iff _ _).2 ⟨j, hj, by omega, hr⟩
    rw [c] at this; cases this

/-- What holds of all the servers of a priority not below q together. -/
structure Sv.Again (S : Sv) (H q : Nat) : Prop where
  up : ∀ t, S.busy q t = true → S.busy q (t + H) = true
  down : ∀ t, H ≤ t → S.busy q (t + H) = true → S.busy q t = true
  gap : ∀ u, u < H → S.busy q (u + H) = true → S.busy q u = false → ∀ v, H ≤ v → v ≤ u + H → S.busy q v = true

theorem Sv.again (ok : S.Ok H) : ∀ m q, q + m = 256 → S.Again H q
  | 0, q, h => by
    have no : ∀ t, S.busy q t = true → False := by
      intro t ht
      obtain ⟨j, hj, hq, _⟩ := (Sv.busy_iff _ _).1 ht
      have := ok.top j hj
      omega
    exact ⟨fun t h => (no _ h).elim, fun t _ h => (no _ h).elim, fun u _ h => (no _ h).elim⟩
  | m + 1, q, h => by
    have ih := Sv.again ok m (q + 1) (by omega)
    by_cases ex : ∃ i, i < S.n ∧ S.pr i = q
    case neg =>
      have e : ∀ t, S.busy q t = S.busy (q + 1) t := by
        intro t
        rw [Bool.eq_iff_iff, Sv.busy_iff, Sv.busy_iff]
        constructor
        · rintro ⟨j, hj, hq, hr⟩
          refine ⟨j, hj, ?_, hr⟩
          have : S.pr j ≠ q := fun k => ex ⟨j, hj, k⟩
          omega
        · rintro ⟨j, hj, hq, hr⟩; exact ⟨j, hj, by omega, hr⟩
      exact ⟨fun t => by rw [e, e]; exact ih.up t, fun t => by rw [e, e]; exact ih.down t, fun u hu => by
        rw [e, e]; intro h1 h2 v; rw [e]; exact ih.gap u hu h1 h2 v⟩
    case pos =>
    obtain ⟨i, hi, rfl⟩ := ex
    have hp1 := ok.p1 i hi
    have hpH : S.p i ≤ H := Nat.le_of_dvd ok.H1 (ok.dvd i hi)
    -- busy: by those above, or by this one's rest
    have B : ∀ t, S.busy (S.pr i) t = true ↔ S.busy (S.pr i + 1) t = true ∨ 0 < S.R t i := by
      intro t
      rw [Sv.busy_iff, Sv.busy_iff]
      constructor
      · rintro ⟨j, hj, hq, hr⟩
        by_cases c : S.pr j = S.pr i
        · exact .inr (ok.inj j i hj hi c ▸ hr)
        · exact .inl ⟨j, hj, by omega, hr⟩
      · rintro (⟨j, hj, hq, hr⟩ | hr)
        · exact ⟨j, hj, by omega, hr⟩
        · exact ⟨i, hi, Nat.le_refl _, hr⟩
    have rest := Sv.rest ok hi (S.busy (S.pr i + 1)) (Sv.occ_iff ok hi)
    -- the rest at a tick whose last release is known
    have at_ : ∀ r k, S.rel i r → k < S.p i → S.R (r + k) i = S.b i - free (S.busy (S.pr i + 1)) r k := by
      intro r k hr hk
      rcases rest (r + k) with ⟨_, h1⟩ | ⟨r', k', e, hk', hr', hq', hR⟩
      · have := hr.1; omega
      · have : r = r' := by
          rcases Nat.lt_trichotomy r r' with c | c | c
          · -- r' lies behind r, within the period
            have ho := hr.1
            have ho' := hr'.1
            have hm := hr.2
            have hm' := hr'.2
            obtain ⟨x, hx⟩ := Nat.dvd_of_mod_eq_zero hm
            obtain ⟨y, hy⟩ := Nat.dvd_of_mod_eq_zero hm'
            have d : S.p i ∣ r' - r := by
              have : S.p i * y = S.p i * x + (r' - r) := by omega
              exact (Nat.dvd_add_right (Nat.dvd_mul_right _ x)).1 (this ▸ Nat.dvd_mul_right _ y)
            have := Nat.le_of_dvd (by omega) d
            omega
          · exact c
          · exact absurd (show S.rel i (r' + (r - r')) by rw [show r' + (r - r') = r by omega]; exact hr) (hq' (r - r') (by omega) (by omega))
        subst this
        have : k = k' := by omega
        subst this
        exact hR
    have has : ∀ t, 0 < S.R t i → ∃ r k, t = r + k ∧ k < S.p i ∧ S.rel i r ∧ free (S.busy (S.pr i + 1)) r k < S.b i := by
      intro t ht
      rcases rest t with ⟨h0, _⟩ | ⟨r, k, e, hk, hr, _, hR⟩
      · omega
      · exact ⟨r, k, e, hk, hr, by omega⟩
    refine ⟨?_, ?_, ?_⟩
    · intro t ht
      rw [B] at ht ⊢
      rcases ht with ht | ht
      · exact .inl (ih.up t ht)
      · right
        obtain ⟨r, k, rfl, hk, hr, hf⟩ := has t ht
        have hr' := Sv.rel_add ok hi r hr
        have e := at_ (r + H) k hr' hk
        have : free (S.busy (S.pr i + 1)) (r + H) k ≤ free (S.busy (S.pr i + 1)) r k :=
          free_le_of _ _ _ _ k fun j _ hj => by rw [show r + H + j = r + j + H by omega]; exact ih.up _ hj
        rw [show r + k + H = r + H + k by omega, e]; omega
    · intro t htH ht
      rw [B] at ht ⊢
      rcases ht with ht | ht
      · exact .inl (ih.down t htH ht)
      · obtain ⟨r', k, e, hk, hr', hf⟩ := has (t + H) ht
        obtain ⟨r, rfl⟩ : ∃ r, r' = r + H := ⟨r' - H, by omega⟩
        have hr := Sv.rel_sub ok hi r hr'
        obtain rfl : t = r + k := by omega
        by_cases c : free (S.busy (S.pr i + 1)) r k < S.b i
        · right; rw [at_ r k hr hk]; omega
        · left
          obtain ⟨j, hj, h1, h2⟩ := free_lt_some (S.busy (S.pr i + 1)) (S.busy (S.pr i + 1)) r (r + H) k (by omega)
          rw [show r + H + j = r + j + H by omega] at h2
          by_cases d : H ≤ r + j
          · rw [ih.down _ d h2] at h1; cases h1
          · exact ih.gap (r + j) (by omega) h2 h1 (r + k) htH (by omega)
    · intro u hu h1 h2 v hv hv'
      have h2' : S.busy (S.pr i + 1) u = false ∧ S.R u i = 0 := by
        constructor
        · cases c : S.busy (S.pr i + 1) u with
          | false => rfl
          | true => rw [(B u).2 (.inl c)] at h2; cases h2
        · by_cases c : 0 < S.R u i
          · rw [(B u).2 (.inr c)] at h2; cases h2
          · omega
      rw [B] at h1 ⊢
      rcases h1 with h1 | h1
      · exact .inl (ih.gap u hu h1 h2'.1 v hv hv')
      · obtain ⟨r, k, e, hk, hr, hf⟩ := has (u + H) h1
        by_cases c : r ≤ v
        · -- from the release on there is a rest
          right
          have : free (S.busy (S.pr i + 1)) r (v - r) ≤ free (S.busy (S.pr i + 1)) r k := by
            have mono : ∀ a d, free (S.busy (S.pr i + 1)) r a ≤ free (S.busy (S.pr i + 1)) r (a + d) := by
              intro a d
              induction d with
              | zero => exact Nat.le_refl _
              | succ d ihd => rw [← Nat.add_assoc, free_succ]; omega
            have := mono (v - r) (k - (v - r))
            rw [show v - r + (k - (v - r)) = k by omega] at this
            exact this
          have e2 := at_ r (v - r) hr (by omega)
          rw [show r + (v - r) = v by omega] at e2
          rw [e2]; omega
        · left
          obtain ⟨r0, rfl⟩ : ∃ r0, r = r0 + H := ⟨r - H, by omega⟩
          have hr0 := Sv.rel_sub ok hi r0 hr
          obtain rfl : u = r0 + k := by omega
          have e2 := at_ r0 k hr0 hk
          have : S.b i ≤ free (S.busy (S.pr i + 1)) r0 k := by omega
          obtain ⟨j, hj, k1, k2⟩ := free_lt_some (S.busy (S.pr i + 1)) (S.busy (S.pr i + 1)) r0 (r0 + H) k (by omega)
          rw [show r0 + H + j = r0 + j + H by omega] at k2
          exact ih.gap (r0 + j) (by omega) k2 k1 v hv (by omega)

/-- FROM H ON THE OCCUPANTS COME AGAIN WITH H. -/
theorem Sv.periodic (ok : S.Ok H) (t : Nat) (ht : H ≤ t) : S.occ (t + H) = S.occ t := by
  have key : ∀ q, q ≤ 256 → S.busy q (t + H) = S.busy q t := by
    intro q hq
    have a := Sv.again ok (256 - q) q (by omega)
    rw [Bool.eq_iff_iff]
    exact ⟨a.down t ht, a.up t⟩
  -- an occupant of the one is that of the other
  have one : ∀ t' i, i < S.n → (S.occ t' = i + 1 ↔ S.busy (S.pr i + 1) t' = false ∧ S.busy (S.pr i) t' = true) := by
    intro t' i hi
    rw [Sv.occ_iff ok hi]
    constructor
    · rintro ⟨h, hr⟩; exact ⟨h, (Sv.busy_iff _ _).2 ⟨i, hi, Nat.le_refl _, hr⟩⟩
    · rintro ⟨h, hb⟩
      refine ⟨h, ?_⟩
      obtain ⟨j, hj, hq, hr⟩ := (Sv.busy_iff _ _).1 hb
      by_cases c : S.pr j = S.pr i
      · exact ok.inj j i hj hi c ▸ hr
      · rw [(Sv.busy_iff _ _).2 ⟨j, hj, by omega, hr⟩] at h; cases h
  by_cases z : S.occ t = 0
  · by_cases z' : S.occ (t + H) = 0
    · omega
    · have le : S.occ (t + H) ≤ S.n := chosen_le _ _ _
      obtain ⟨i, hi⟩ : ∃ i, S.occ (t + H) = i + 1 := ⟨S.occ (t + H) - 1, by omega⟩
      have hin : i < S.n := by omega
      have := (one (t + H) i hin).1 hi
      have tp := ok.top i hin
      rw [key _ (by omega), key _ (by omega)] at this
      have := (one t i hin).2 this
      omega
  · have le : S.occ t ≤ S.n := chosen_le _ _ _
    obtain ⟨i, hi⟩ : ∃ i, S.occ t = i + 1 := ⟨S.occ t - 1, by omega⟩
    have hin : i < S.n := by omega
    have := (one t i hin).1 hi
    have tp := ok.top i hin
    rw [← key _ (by omega), ← key _ (by omega)] at this
    rw [hi]
    exact (one (t + H) i hin).2 this

/-! ### The way of a schedule that goes from event to event -/
theorem chosen_congr (pr r r' : Nat → Nat) : ∀ n, (∀ j, j < n → (0 < r j ↔ 0 < r' j)) → chosen pr r n = chosen pr r' n
  | 0, _ => rfl
  | n + 1, h => by
    have ih := chosen_congr pr r r' n fun j hj => h j (by omega)
    have hn := h n (by omega)
    unfold chosen
    rw [ih]
    by_cases c : 0 < r n
    · simp [c, hn.1 c]
    · simp [c, show ¬ 0 < r' n from fun k => c (hn.2 k)]

/-- Between two releases the same one has every tick, as long as it has something left. -/
theorem Sv.stay (S : Sv) (now d : Nat) (norel : ∀ i, i < S.n → ∀ t, now < t → t < now + d → ¬ S.rel i t)
    (left : 0 < S.occ now → d ≤ S.R now (S.occ now - 1)) : ∀ e, e < d →
      (∀ i, i < S.n → S.R (now + e) i = S.R now i - (if S.occ now = i + 1 then e else 0)) ∧ S.occ (now + e) = S.occ now
  | 0, _ => ⟨fun i _ => by simp, rfl⟩
  | e + 1, h => by
    obtain ⟨ih1, ih2⟩ := Sv.stay S now d norel left e (by omega)
    have h1 : ∀ i, i < S.n → S.R (now + (e + 1)) i = S.R now i - (if S.occ now = i + 1 then e + 1 else 0) := by
      intro i hi
      have nr := norel i hi (now + (e + 1)) (by omega) (by omega)
      show (if S.rel i (now + e + 1) then S.b i else S.R (now + e) i - (if S.occ (now + e) = i + 1 then 1 else 0)) = _
      rw [if_neg (show ¬ S.rel i (now + e + 1) from nr), ih1 i hi, ih2]
      by_cases c : S.occ now = i + 1
      · simp only [if_pos c]; omega
      · simp only [if_neg c]; omega
    refine ⟨h1, ?_⟩
    refine chosen_congr S.pr _ _ S.n fun j hj => ?_
    rw [h1 j hj]
    by_cases c : S.occ now = j + 1
    · have := left (by omega)
      rw [c, Nat.add_sub_cancel] at this
      rw [if_pos c]; omega
    · rw [if_neg c, Nat.sub_zero]

/-- What stands behind a segment, but for the releases of its end. -/
theorem Sv.stay_end (S : Sv) (now d : Nat) (hd : 1 ≤ d) (norel : ∀ i, i < S.n → ∀ t, now < t → t < now + d → ¬ S.rel i t)
    (left : 0 < S.occ now → d ≤ S.R now (S.occ now - 1)) (i : Nat) (hi : i < S.n) :
      S.R (now + d) i = if S.rel i (now + d) then S.b i else S.R now i - (if S.occ now = i + 1 then d else 0) := by
  obtain ⟨e, rfl⟩ : ∃ e, d = e + 1 := ⟨d - 1, by omega⟩
  obtain ⟨h1, h2⟩ := Sv.stay S now (e + 1) norel left e (by omega)
  show (if S.rel i (now + e + 1) then S.b i else S.R (now + e) i - (if S.occ (now + e) = i + 1 then 1 else 0)) = _
  rw [h1 i hi, h2, Nat.add_assoc]
  by_cases r : S.rel i (now + (e + 1))
  · rw [if_pos r, if_pos r]
  · rw [if_neg r, if_neg r]
    by_cases c : S.occ now = i + 1
    · simp only [if_pos c]; omega
    · simp only [if_neg c]; omega

/-- The least release from a tick on. -/
def nx (o p now : Nat) : Nat := if now ≤ o then o else o + ((now - o + p - 1) / p) * p

theorem up_mul (x p : Nat) (hp : 1 ≤ p) : x ≤ ((x + p - 1) / p) * p ∧ ((x + p - 1) / p) * p < x + p := by
  have h := Nat.div_add_mod (x + p - 1) p
  have hm := Nat.mod_lt (x + p - 1) (show p > 0 by omega)
  rw [Nat.mul_comm] at h
  generalize (x + p - 1) / p * p = q at *
  generalize (x + p - 1) % p = m at *
  omega

theorem Sv.nx_ge (S : Sv) (i now : Nat) (hp : 1 ≤ S.p i) : now ≤ nx (S.o i) (S.p i) now := by
  unfold nx
  split
  · assumption
  · have := (up_mul (now - S.o i) (S.p i) hp).1; omega

theorem Sv.nx_rel (S : Sv) (i now : Nat) : S.rel i (nx (S.o i) (S.p i) now) := by
  unfold Sv.rel nx
  split
  · exact ⟨Nat.le_refl _, by rw [Nat.sub_self, Nat.zero_mod]⟩
  · exact ⟨Nat.le_add_right _ _, by rw [Nat.add_sub_cancel_left, Nat.mul_mod_left]⟩

/-- Two releases of one server lie a period apart. -/
theorem Sv.rel_apart (S : Sv) (i a b : Nat) (ha : S.rel i a) (hb : S.rel i b) (h : a < b) : a + S.p i ≤ b := by
  obtain ⟨a1, a2⟩ := ha; obtain ⟨b1, b2⟩ := hb
  have d : S.p i ∣ (b - S.o i) - (a - S.o i) := Nat.dvd_sub (Nat.dvd_of_mod_eq_zero b2) (Nat.dvd_of_mod_eq_zero a2)
  have := Nat.le_of_dvd (by omega) d
  omega

theorem Sv.nx_lt (S : Sv) (i now t : Nat) (hp : 1 ≤ S.p i) (h1 : now ≤ t) (h2 : t < nx (S.o i) (S.p i) now) : ¬ S.rel i t := by
  intro hr
  have hn := S.nx_rel i now
  have ap := S.rel_apart i t _ hr hn h2
  revert ap h2
  unfold nx
  split
  · intro h2 _; exact absurd hr.1 (by omega)
  · intro h2 ap
    have := (up_mul (now - S.o i) (S.p i) hp).2
    omega

theorem Sv.nx_eq (S : Sv) (i now : Nat) (hp : 1 ≤ S.p i) : nx (S.o i) (S.p i) now = now ↔ S.rel i now := by
  constructor
  · intro h; have := S.nx_rel i now; rwa [h] at this
  · intro h
    have ge := S.nx_ge i now hp
    by_cases c : now < nx (S.o i) (S.p i) now
    · exact absurd h (S.nx_lt i now now hp (Nat.le_refl _) c)
    · omega

/-- The least release behind a tick. -/
def Sv.after (S : Sv) (i now : Nat) : Nat := if nx (S.o i) (S.p i) now = now then now + S.p i else nx (S.o i) (S.p i) now

theorem Sv.after_gt (S : Sv) (i now : Nat) (hp : 1 ≤ S.p i) : now < S.after i now := by
  have := S.nx_ge i now hp
  unfold Sv.after; split <;> omega

theorem Sv.after_none (S : Sv) (i now t : Nat) (hp : 1 ≤ S.p i) (h1 : now < t) (h2 : t < S.after i now) : ¬ S.rel i t := by
  unfold Sv.after at h2
  by_cases c : nx (S.o i) (S.p i) now = now
  · rw [if_pos c] at h2
    intro hr
    have := S.rel_apart i now t ((S.nx_eq i now hp).1 c) hr h1
    omega
  · rw [if_neg c] at h2
    exact S.nx_lt i now t hp (by omega) h2

/-- The least of a bound and of the releases behind a tick, over the first servers. -/
def Sv.until (S : Sv) (now lim : Nat) : Nat → Nat
  | 0 => lim
  | i + 1 => min (S.until now lim i) (S.after i now)

theorem Sv.until_le (S : Sv) (now lim : Nat) : ∀ m, S.until now lim m ≤ lim
  | 0 => Nat.le_refl _
  | m + 1 => Nat.le_trans (Nat.min_le_left _ _) (S.until_le now lim m)

theorem Sv.until_after (S : Sv) (now lim : Nat) : ∀ m i, i < m → S.until now lim m ≤ S.after i now
  | 0, _, h => by omega
  | m + 1, i, h => by
    by_cases e : i = m
    · subst e; exact Nat.min_le_right _ _
    · exact Nat.le_trans (Nat.min_le_left _ _) (S.until_after now lim m i (by omega))

theorem Sv.until_gt (S : Sv) (now lim : Nat) (hl : now < lim) : ∀ m, (∀ i, i < m → 1 ≤ S.p i) → now < S.until now lim m
  | 0, _ => hl
  | m + 1, h => by
    have h1 := S.until_gt now lim hl m fun i hi => h i (by omega)
    have h2 := S.after_gt m now (h m (by omega))
    show now < min _ _
    omega

/-- The rests behind a tick's releases. -/
def Sv.fill (S : Sv) (r : Nat → Nat) (now : Nat) : Nat → Nat := fun i => if S.rel i now then S.b i else r i

/-- Where a segment ends. -/
def Sv.stop (S : Sv) (r1 : Nat → Nat) (now lim : Nat) : Nat :=
  if 0 < chosen S.pr r1 S.n then min (S.until now lim S.n) (now + r1 (chosen S.pr r1 S.n - 1)) else S.until now lim S.n

/-- The segments from a tick on and below another: where, how long, who. -/
def Sv.play (S : Sv) (lim : Nat) : Nat → (Nat → Nat) → Nat → List (Nat × Nat × Nat)
  | 0, _, _ => []
  | k + 1, r, now =>
    if now < lim then
      (now, S.stop (S.fill r now) now lim - now, chosen S.pr (S.fill r now) S.n) ::
        S.play lim k (fun i => S.fill r now i - (if chosen S.pr (S.fill r now) S.n = i + 1 then S.stop (S.fill r now) now lim - now else 0)) (S.stop (S.fill r now) now lim)
    else []

/-- Segments that lie end to end from a tick up to another, each with one occupant. -/
def Sv.Cover (S : Sv) (lim : Nat) : Nat → List (Nat × Nat × Nat) → Prop
  | now, [] => lim ≤ now
  | now, s :: l => s.1 = now ∧ 1 ≤ s.2.1 ∧ now + s.2.1 ≤ lim ∧ (∀ t, now ≤ t → t < now + s.2.1 → S.occ t = s.2.2) ∧ S.Cover lim (now + s.2.1) l

theorem Sv.play_cover (S : Sv) (hp : ∀ i, i < S.n → 1 ≤ S.p i) (lim : Nat) : ∀ (k now : Nat) (r : Nat → Nat), lim ≤ now + k →
    (∀ i, i < S.n → S.fill r now i = S.R now i) → S.Cover lim now (S.play lim k r now)
  | 0, now, r, h, _ => h
  | k + 1, now, r, h, inv => by
    unfold Sv.play
    by_cases c : now < lim
    · rw [if_pos c]
      have who : chosen S.pr (S.fill r now) S.n = S.occ now := chosen_congr S.pr _ _ S.n fun j hj => by rw [inv j hj]
      have hle := S.until_le now lim S.n
      have hgt := S.until_gt now lim c S.n hp
      have bound : ∃ d, S.stop (S.fill r now) now lim = now + d ∧ 1 ≤ d ∧ now + d ≤ S.until now lim S.n ∧ (0 < S.occ now → d ≤ S.R now (S.occ now - 1)) := by
        unfold Sv.stop
        rw [who]
        by_cases z : 0 < S.occ now
        · have l1 : S.occ now ≤ S.n := chosen_le _ _ _
          have l2 : 0 < S.R now (S.occ now - 1) := chosen_pos S.pr (S.R now) S.n z
          rw [if_pos z, inv _ (by omega)]
          exact ⟨min (S.until now lim S.n) (now + S.R now (S.occ now - 1)) - now, by omega, by omega, by omega, fun _ => by omega⟩
        · rw [if_neg z]
          exact ⟨S.until now lim S.n - now, by omega, by omega, by omega, fun h => absurd h z⟩
      obtain ⟨d, hs, hd, hu, hl⟩ := bound
      rw [hs, who, Nat.add_sub_cancel_left]
      have norel : ∀ i, i < S.n → ∀ t, now < t → t < now + d → ¬ S.rel i t := by
        intro i hi t h1 h2
        have := S.until_after now lim S.n i hi
        exact S.after_none i now t (hp i hi) h1 (by omega)
      refine ⟨rfl, hd, by dsimp only; omega, ?_, ?_⟩
      · intro t h1 h2
        dsimp only at h2
        have := (S.stay now d norel hl (t - now) (by omega)).2
        rwa [show now + (t - now) = t by omega] at this
      · dsimp only
        refine S.play_cover hp lim k (now + d) _ (by omega) ?_
        intro i hi
        rw [S.stay_end now d hd norel hl i hi]
        unfold Sv.fill
        by_cases q : S.rel i (now + d)
        · rw [if_pos q, if_pos q]
        · rw [if_neg q, if_neg q, ← inv i hi]; rfl
    · rw [if_neg c]; show lim ≤ now; omega

/-- The last segment's occupant is the last tick's. -/
theorem Sv.cover_last (S : Sv) (lim : Nat) : ∀ (l : List (Nat × Nat × Nat)) (now w : Nat), S.Cover lim now l → now < lim →
    l.foldl (fun _ s => s.2.2) w = S.occ (lim - 1)
  | [], now, _, h, hn => absurd h (show ¬ lim ≤ now by omega)
  | s :: l, now, w, ⟨_, h2, h3, h4, h5⟩, hn => by
    by_cases c : now + s.2.1 < lim
    · exact S.cover_last lim l (now + s.2.1) s.2.2 h5 c
    · have hl : l = [] := by
        cases l with
        | nil => rfl
        | cons b l => obtain ⟨_, b2, b3, _⟩ := h5; omega
      subst hl
      exact (h4 (lim - 1) (by omega) (by omega)).symm

/-- How many of d ticks from one on are one's. -/
def Sv.count (S : Sv) (q a : Nat) : Nat → Nat
  | 0 => 0
  | d + 1 => S.count q a d + (if S.occ (a + d) = q then 1 else 0)

theorem Sv.count_add (S : Sv) (q a d : Nat) : ∀ e, S.count q a (d + e) = S.count q a d + S.count q (a + d) e
  | 0 => rfl
  | e + 1 => by
    show S.count q a (d + e) + (if S.occ (a + (d + e)) = q then 1 else 0) = S.count q a d + (S.count q (a + d) e + (if S.occ (a + d + e) = q then 1 else 0))
    rw [S.count_add q a d e, ← Nat.add_assoc a d e]; omega

theorem Sv.count_same (S : Sv) (q a w : Nat) : ∀ d, (∀ t, a ≤ t → t < a + d → S.occ t = w) → S.count q a d = if w = q then d else 0
  | 0, _ => by simp [Sv.count]
  | d + 1, h => by
    show S.count q a d + (if S.occ (a + d) = q then 1 else 0) = _
    rw [S.count_same q a w d fun t h1 h2 => h t h1 (by omega), h (a + d) (by omega) (by omega)]
    by_cases c : w = q
    · simp only [if_pos c]
    · simp only [if_neg c]

/-- The ticks of one's segments are one's ticks. -/
theorem Sv.cover_count (S : Sv) (q lim : Nat) : ∀ (l : List (Nat × Nat × Nat)) (now n : Nat), S.Cover lim now l → now ≤ lim →
    l.foldl (fun n s => if s.2.2 = q then n + s.2.1 else n) n = n + S.count q now (lim - now)
  | [], now, n, h, hn => by
    have : lim - now = 0 := by have : lim ≤ now := h; omega
    rw [this]; rfl
  | s :: l, now, n, ⟨_, h2, h3, h4, h5⟩, hn => by
    show l.foldl _ (if s.2.2 = q then n + s.2.1 else n) = _
    rw [S.cover_count q lim l (now + s.2.1) _ h5 h3, show lim - now = s.2.1 + (lim - (now + s.2.1)) by omega, S.count_add, S.count_same q now s.2.2 s.2.1 h4]
    by_cases c : s.2.2 = q
    · simp only [if_pos c]; omega
    · simp only [if_neg c]; omega

/-- The whole schedule, from tick 0 on. -/
theorem Sv.play_zero (S : Sv) (hp : ∀ i, i < S.n → 1 ≤ S.p i) (lim k : Nat) (h : lim ≤ k) : S.Cover lim 0 (S.play lim k (fun _ => 0) 0) :=
  S.play_cover hp lim k 0 _ (by omega) fun _ _ => rfl

/-- Folded to below twice H, a tick has the same occupant. -/
theorem Sv.fold_occ (ok : S.Ok H) (t : Nat) : S.occ (if t < 2 * H then t else H + (t - H) % H) = S.occ t := by
  by_cases c : t < 2 * H
  · rw [if_pos c]
  · rw [if_neg c]
    have all : ∀ m r, S.occ (H + r + m * H) = S.occ (H + r) := by
      intro m r
      induction m with
      | zero => rw [Nat.zero_mul, Nat.add_zero]
      | succ m ih => rw [show H + r + (m + 1) * H = H + r + m * H + H by rw [Nat.succ_mul]; omega, Sv.periodic ok _ (by omega), ih]
    have h := Nat.div_add_mod (t - H) H
    rw [Nat.mul_comm] at h
    rw [← all ((t - H) / H) ((t - H) % H), show H + (t - H) % H + (t - H) / H * H = t by omega]

theorem Sv.count_shift (ok : S.Ok H) (q m : Nat) : ∀ (d a : Nat), H ≤ a → S.count q (a + m * H) d = S.count q a d
  | 0, _, _ => rfl
  | d + 1, a, ha => by
    have all : ∀ m, S.occ (a + d + m * H) = S.occ (a + d) := by
      intro m
      induction m with
      | zero => rw [Nat.zero_mul, Nat.add_zero]
      | succ m ih => rw [show a + d + (m + 1) * H = a + d + m * H + H by rw [Nat.succ_mul]; omega, Sv.periodic ok _ (by omega), ih]
    show S.count q (a + m * H) d + (if S.occ (a + m * H + d) = q then 1 else 0) = _
    rw [Sv.count_shift ok q m d a ha, show a + m * H + d = a + d + m * H by omega, all m]; rfl

/-- Whole turns from H on all count the same. -/
theorem Sv.count_turns (ok : S.Ok H) (q : Nat) : ∀ m, S.count q H (m * H) = m * S.count q H H
  | 0 => by rw [Nat.zero_mul, Nat.zero_mul]; rfl
  | m + 1 => by
    rw [Nat.succ_mul, S.count_add, Sv.count_turns ok q m, Sv.count_shift ok q m H H (Nat.le_refl _), Nat.succ_mul]

theorem Sv.count_fold (ok : S.Ok H) (q t : Nat) (ht : H ≤ t) :
    S.count q 0 t = S.count q 0 H + (t - H) / H * S.count q H H + S.count q H ((t - H) % H) := by
  have h := Nat.div_add_mod (t - H) H
  rw [Nat.mul_comm] at h
  have e : t = H + ((t - H) / H * H + (t - H) % H) := by omega
  rw [show S.count q 0 t = S.count q 0 (H + ((t - H) / H * H + (t - H) % H)) by rw [← e], S.count_add, Nat.zero_add, S.count_add, Sv.count_turns ok, Sv.count_shift ok q _ _ H (Nat.le_refl _), Nat.add_assoc]

/-- A rest is the budget less what was had since the release. -/
theorem Sv.rest_count (S : Sv) (i r0 : Nat) (hr : S.rel i r0) : ∀ k, (∀ t, r0 < t → t ≤ r0 + k → ¬ S.rel i t) → S.R (r0 + k) i + S.count (i + 1) r0 k = S.b i
  | 0, _ => by
    show S.R r0 i + 0 = _
    cases r0 with
    | zero => show (if S.rel i 0 then S.b i else 0) + 0 = _; rw [if_pos hr]; rfl
    | succ r => show (if S.rel i (r + 1) then S.b i else _) + 0 = _; rw [if_pos hr]; rfl
  | k + 1, h => by
    have ih := S.rest_count i r0 hr k fun t h1 h2 => h t h1 (by omega)
    show (if S.rel i (r0 + k + 1) then S.b i else S.R (r0 + k) i - (if S.occ (r0 + k) = i + 1 then 1 else 0)) + (S.count (i + 1) r0 k + (if S.occ (r0 + k) = i + 1 then 1 else 0)) = _
    rw [if_neg (show ¬ S.rel i (r0 + k + 1) from h _ (by omega) (by omega))]
    by_cases c : S.occ (r0 + k) = i + 1
    · have hp := chosen_pos S.pr (S.R (r0 + k)) S.n (show 0 < S.occ (r0 + k) by omega)
      have e : chosen S.pr (S.R (r0 + k)) S.n = i + 1 := c
      rw [e, Nat.add_sub_cancel] at hp
      simp only [if_pos c]; omega
    · simp only [if_neg c]; omega

/-- Ahead of the first release there is no rest. -/
theorem Sv.rest_none (S : Sv) (i : Nat) : ∀ t, t < S.o i → S.R t i = 0
  | 0, h => by
    show (if S.rel i 0 then S.b i else 0) = 0
    rw [if_neg (fun r => by have := r.1; omega)]
  | t + 1, h => by
    show (if S.rel i (t + 1) then S.b i else S.R t i - _) = 0
    rw [if_neg (fun r => by have := r.1; omega), S.rest_none i t (by omega), Nat.zero_sub]

/-- The first tick from a on within one's segments. -/
def nextIn (q a : Nat) : List (Nat × Nat × Nat) → Option Nat
  | [] => none
  | s :: l => if s.2.2 = q ∧ a < s.1 + s.2.1 then some (max s.1 a) else nextIn q a l

theorem Sv.cover_next (S : Sv) (q a lim : Nat) : ∀ (l : List (Nat × Nat × Nat)) (now : Nat), S.Cover lim now l →
    (∀ t, nextIn q a l = some t → now ≤ t ∧ a ≤ t ∧ t < lim ∧ S.occ t = q ∧ ∀ u, now ≤ u → a ≤ u → u < t → S.occ u ≠ q) ∧
    (nextIn q a l = none → ∀ u, now ≤ u → a ≤ u → u < lim → S.occ u ≠ q)
  | [], now, h => ⟨fun t e => by simp [nextIn] at e, fun _ u h1 _ h3 => absurd h (show ¬ lim ≤ now by omega)⟩
  | s :: l, now, ⟨e1, h2, h3, h4, h5⟩ => by
    have ih := S.cover_next q a lim l (now + s.2.1) h5
    unfold nextIn
    rw [e1]
    by_cases c : s.2.2 = q ∧ a < now + s.2.1
    · rw [if_pos c]
      refine ⟨fun t e => ?_, fun e => by cases e⟩
      obtain rfl : max now a = t := Option.some.inj e
      exact ⟨by omega, by omega, by omega, by rw [h4 _ (by omega) (by omega)]; exact c.1, fun u _ _ _ => by omega⟩
    · rw [if_neg c]
      have here : ∀ u, now ≤ u → a ≤ u → u < now + s.2.1 → S.occ u ≠ q := by
        intro u h1 h6 h7 e
        rw [h4 u h1 h7] at e
        exact c ⟨e, by omega⟩
      constructor
      · intro t e
        obtain ⟨i1, i2, i3, i4, i5⟩ := ih.1 t e
        refine ⟨by omega, i2, i3, i4, fun u h1 h6 h7 => ?_⟩
        by_cases d : u < now + s.2.1
        · exact here u h1 h6 d
        · exact i5 u (by omega) h6 h7
      · intro e u h1 h6 h7
        by_cases d : u < now + s.2.1
        · exact here u h1 h6 d
        · exact ih.2 e u (by omega) h6 h7

end OccMath
