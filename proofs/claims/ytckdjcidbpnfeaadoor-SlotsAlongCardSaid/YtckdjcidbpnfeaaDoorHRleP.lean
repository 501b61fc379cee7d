/- Proved, plainly: run lengths, and slots that lie end to end. No program's step in it. (A part of XHRle, for a seat that does not reach occ.Runs.) -/
import Derived.Test.YtckdjcidbpnfeaaDoorHOcc
namespace Go.Proofs.YtckdjcidbpnfeaaDoor.B
open Go.RowKit OccMath Go.Proofs.YtckdjcidbpnfeaaDoorW.PrintWords Go.Proofs.YtckdjcidbpnfeaaDoorW.PrintLast Go.Proofs.YtckdjcidbpnfeaaDoorW.PrintMore

def tot : List (Nat × Nat) → Nat
  | [] => 0
  | p :: l => p.1 + tot l
theorem tot_append (a b : List (Nat × Nat)) : tot (a ++ b) = tot a + tot b := by
  induction a with
  | nil => simp [tot]
  | cons p a ih => show p.1 + tot (a ++ b) = p.1 + tot a + tot b; omega
theorem tot_mem {l : List (Nat × Nat)} {p : Nat × Nat} (h : p ∈ l) : p.1 ≤ tot l := by
  induction l with
  | nil => cases h
  | cons q l ih =>
    show p.1 ≤ q.1 + tot l
    rcases List.mem_cons.1 h with rfl | h
    · omega
    · have := ih h; omega
/-! ### Run lengths -/
def addL (l : List (Nat × Nat)) (len p : Nat) : List (Nat × Nat) :=
  match l.getLast? with
  | some (n, q) => if q = p then l.dropLast ++ [(n + len, q)] else l ++ [(len, p)]
  | none => l ++ [(len, p)]
/-- The run lengths of d ticks from one on. -/
def rle (g : Nat → Nat) (a : Nat) : Nat → List (Nat × Nat)
  | 0 => []
  | d + 1 => addL (rle g a d) 1 (g (a + d))

theorem addL_nil (len p : Nat) : addL [] len p = [(len, p)] := rfl
theorem addL_snoc (l : List (Nat × Nat)) (n q len p : Nat) : addL (l ++ [(n, q)]) len p = if q = p then l ++ [(n + len, q)] else l ++ [(n, q)] ++ [(len, p)] := by
  unfold addL
  simp only [List.getLast?_append, List.getLast?_singleton, Option.some_or, List.dropLast_concat]
theorem addL_two (l : List (Nat × Nat)) (a b p : Nat) : addL (addL l a p) b p = addL l (a + b) p := by
  rcases List.eq_nil_or_concat l with e | ⟨l, ⟨n, q⟩, e⟩
  · subst e
    rw [addL_nil, addL_nil, show [(a, p)] = [] ++ [(a, p)] from rfl, addL_snoc, if_pos rfl, List.nil_append]
  · subst e
    rw [List.concat_eq_append, addL_snoc, addL_snoc]
    by_cases c : q = p
    · rw [if_pos c, if_pos c, addL_snoc, if_pos c, Nat.add_assoc]
    · rw [if_neg c, if_neg c, addL_snoc, if_pos rfl]
theorem rle_run (g : Nat → Nat) (a d p : Nat) : ∀ len, 1 ≤ len → (∀ t, a + d ≤ t → t < a + d + len → g t = p) → rle g a (d + len) = addL (rle g a d) len p
  | 0, h, _ => by omega
  | 1, _, h => by show addL (rle g a d) 1 (g (a + d)) = _; rw [h (a + d) (by omega) (by omega)]
  | len + 2, _, h => by
    show addL (rle g a (d + (len + 1))) 1 (g (a + (d + (len + 1)))) = _
    rw [rle_run g a d p (len + 1) (by omega) fun t h1 h2 => h t h1 (by omega), h _ (by omega) (by omega), addL_two]
theorem addL_length (l : List (Nat × Nat)) (len p : Nat) : l.length ≤ (addL l len p).length ∧ (addL l len p).length ≤ l.length + 1 := by
  rcases List.eq_nil_or_concat l with e | ⟨l, ⟨n, q⟩, e⟩
  · subst e; simp [addL_nil]
  · subst e
    rw [List.concat_eq_append, addL_snoc]
    split <;> simp
theorem rle_mono (g : Nat → Nat) (a d : Nat) : ∀ e, (rle g a d).length ≤ (rle g a (d + e)).length
  | 0 => Nat.le_refl _
  | e + 1 => Nat.le_trans (rle_mono g a d e) (addL_length _ _ _).1
theorem rle_length (g : Nat → Nat) (a : Nat) : ∀ d, (rle g a d).length ≤ d
  | 0 => Nat.le_refl _
  | d + 1 => Nat.le_trans (addL_length _ _ _).2 (Nat.succ_le_succ (rle_length g a d))

/-! ### Slots that lie end to end -/
def Lies (g : Nat → Nat) : Nat → List (Nat × Nat) → Prop
  | _, [] => True
  | a, p :: l => 1 ≤ p.1 ∧ (∀ t, a ≤ t → t < a + p.1 → g t = p.2) ∧ (∀ q, l.head? = some q → q.2 ≠ p.2) ∧ Lies g (a + p.1) l
theorem lies_snoc (g : Nat → Nat) (x : Nat × Nat) : ∀ (l : List (Nat × Nat)) (a : Nat), Lies g a (l ++ [x]) ↔ Lies g a l ∧ 1 ≤ x.1 ∧ (∀ t, a + tot l ≤ t → t < a + tot l + x.1 → g t = x.2) ∧ (∀ q, l.getLast? = some q → q.2 ≠ x.2)
  | [], a => by simp [Lies, tot]
  | p :: l, a => by
    have ih := lies_snoc g x l (a + p.1)
    have e : tot (p :: l) = p.1 + tot l := rfl
    show (1 ≤ p.1 ∧ (∀ t, a ≤ t → t < a + p.1 → g t = p.2) ∧ (∀ q, (l ++ [x]).head? = some q → q.2 ≠ p.2) ∧ Lies g (a + p.1) (l ++ [x])) ↔ (1 ≤ p.1 ∧ (∀ t, a ≤ t → t < a + p.1 → g t = p.2) ∧ (∀ q, l.head? = some q → q.2 ≠ p.2) ∧ Lies g (a + p.1) l) ∧ _
    rw [ih, e, ← Nat.add_assoc]
    cases l with
    | nil =>
      simp only [List.nil_append, List.head?_cons, Option.some.injEq, List.getLast?_nil, List.getLast?_singleton, List.head?_nil]
      constructor
      · rintro ⟨h1, h2, h3, h4, h5, h6, _⟩
        exact ⟨⟨h1, h2, fun q h => (by cases h), h4⟩, h5, h6, fun q hq => by subst hq; exact fun e => h3 x rfl e.symm⟩
      · rintro ⟨⟨h1, h2, _, h4⟩, h5, h6, h7⟩
        exact ⟨h1, h2, fun q hq => by subst hq; exact fun e => h7 p rfl e.symm, h4, h5, h6, fun q h => by cases h⟩
    | cons y l =>
      simp only [List.cons_append, List.head?_cons, Option.some.injEq, List.getLast?_cons_cons]
      constructor
      · rintro ⟨h1, h2, h3, h4, h5, h6, h7⟩; exact ⟨⟨h1, h2, h3, h4⟩, h5, h6, h7⟩
      · rintro ⟨⟨h1, h2, h3, h4⟩, h5, h6, h7⟩; exact ⟨h1, h2, h3, h4, h5, h6, h7⟩
theorem rle_lies (g : Nat → Nat) (a : Nat) : ∀ d, Lies g a (rle g a d) ∧ tot (rle g a d) = d
  | 0 => ⟨trivial, rfl⟩
  | d + 1 => by
    obtain ⟨h1, h2⟩ := rle_lies g a d
    show Lies g a (addL (rle g a d) 1 (g (a + d))) ∧ tot (addL (rle g a d) 1 (g (a + d))) = d + 1
    generalize rle g a d = l at *
    rcases List.eq_nil_or_concat l with e | ⟨l, ⟨n, q⟩, e⟩
    · subst e
      rw [addL_nil]
      have hd : d = 0 := h2.symm
      subst hd
      refine ⟨(lies_snoc g (1, g (a + 0)) [] a).2 ⟨trivial, Nat.le_refl _, fun t e1 e2 => ?_, fun q e => by cases e⟩, rfl⟩
      have : t = a + 0 := by simp [tot] at e1 e2; omega
      rw [this]
    · subst e
      rw [List.concat_eq_append] at h1 h2 ⊢
      have e2 := (lies_snoc g (n, q) l a).1 h1
      have e3 : tot (l ++ [(n, q)]) = tot l + n := by rw [tot_append]; simp [tot]
      rw [addL_snoc]
      by_cases c : q = g (a + d)
      · rw [if_pos c]
        refine ⟨(lies_snoc g (n + 1, q) l a).2 ⟨e2.1, by dsimp only; omega, fun t t1 t2 => ?_, e2.2.2.2⟩, by rw [tot_append]; simp [tot]; omega⟩
        dsimp only at t2 ⊢
        by_cases ct : t < a + tot l + n
        · exact e2.2.2.1 t t1 ct
        · rw [show t = a + d by omega]; exact c.symm
      · rw [if_neg c]
        refine ⟨(lies_snoc g (1, g (a + d)) (l ++ [(n, q)]) a).2 ⟨h1, Nat.le_refl _, fun t t1 t2 => ?_, fun q' hq => ?_⟩, by rw [tot_append]; simp [tot] at *; omega⟩
        · dsimp only at t2 ⊢
          rw [show t = a + d by omega]
        · simp only [List.getLast?_append, List.getLast?_singleton, Option.some_or, Option.some.injEq] at hq
          subst hq; exact c
theorem lies_shift (g : Nat → Nat) (s : Nat) : ∀ (l : List (Nat × Nat)) (a : Nat), (∀ t, a ≤ t → g (t + s) = g t) → Lies g a l → Lies g (a + s) l
  | [], _, _, _ => trivial
  | p :: l, a, hg, ⟨h1, h2, h3, h4⟩ => by
    refine ⟨h1, fun t t1 t2 => ?_, h3, ?_⟩
    · have := h2 (t - s) (by omega) (by omega)
      rw [← hg (t - s) (by omega), show t - s + s = t by omega] at this
      exact this
    · have := lies_shift g s l (a + p.1) (fun t ht => hg t (by omega)) h4
      rw [show a + s + p.1 = a + p.1 + s by omega]; exact this

theorem occ_turns {S : OccMath.Sv} {H : Nat} (ok : S.Ok H) (k : Nat) : ∀ t, H ≤ t → S.occ (t + k * H) = S.occ t := by
  intro t ht
  induction k with
  | zero => rw [Nat.zero_mul, Nat.add_zero]
  | succ k ih => rw [show t + (k + 1) * H = t + k * H + H by rw [Nat.succ_mul]; omega, OccMath.Sv.periodic ok _ (by omega), ih]

end Go.Proofs.YtckdjcidbpnfeaaDoor.B
