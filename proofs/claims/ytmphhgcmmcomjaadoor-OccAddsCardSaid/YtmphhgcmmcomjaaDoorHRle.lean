/- Proved, plainly: what occ.Runs comes to is the run lengths of the occupants, tick by tick; too many runs are told. No program's step in it. -/
import Derived.Test.YtmphhgcmmcomjaaDoorHRunsAt
namespace Go.Proofs.YtmphhgcmmcomjaaDoor.B
open Go.RowKit Go.Proofs.YtmphhgcmmcomjaaDoorW.PrintWords Go.Proofs.YtmphhgcmmcomjaaDoorW.PrintLast Go.Proofs.YtmphhgcmmcomjaaDoorW.PrintMore

/-! ### Run lengths -/
def addL (l : List (Nat × Nat)) (len p : Nat) : List (Nat × Nat) :=
  match l.getLast? with
  | some (n, q) => if q = p then l.dropLast ++ [(n + len, q)] else l ++ [(len, p)]
  | none => l ++ [(len, p)]
/-- The run lengths of d ticks from one on. -/
def rle (g : Nat → Nat) (a : Nat) : Nat → List (Nat × Nat)
  | 0 => []
  | d + 1 => addL (rle g a d) 1 (g (a + d))

theorem addL_nil (len p : Nat) : addL [] len p = [(len, p)] := rfl
theorem addL_snoc (l : List (Nat × Nat)) (n q len p : Nat) : addL (l ++ [(n, q)]) len p = if q = p then l ++ [(n + len, q)] else l ++ [(n, q)] ++ [(len, p)] := by
  unfold addL
  simp only [List.getLast?_append, List.getLast?_singleton, Option.some_or, List.dropLast_concat]
theorem addL_two (l : List (Nat × Nat)) (a b p : Nat) : addL (addL l a p) b p = addL l (a + b) p := by
  rcases List.eq_nil_or_concat l with e | ⟨l, ⟨n, q⟩, e⟩
  · subst e
    rw [addL_nil, addL_nil, show [(a, p)] = [] ++ [(a, p)] from rfl, addL_snoc, if_pos rfl, List.nil_append]
  · subst e
    rw [List.concat_eq_append, addL_snoc, addL_snoc]
    by_cases c : q = p
    · rw [if_pos c, if_pos c, addL_snoc, if_pos c, Nat.add_assoc]
    · rw [if_neg c, if_neg c, addL_snoc, if_pos rfl]
theorem rle_run (g : Nat → Nat) (a d p : Nat) : ∀ len, 1 ≤ len → (∀ t, a + d ≤ t → t < a + d + len → g t = p) → rle g a (d + len) = addL (rle g a d) len p
  | 0, h, _ => by omega
  | 1, _, h => by show addL (rle g a d) 1 (g (a + d)) = _; rw [h (a + d) (by omega) (by omega)]
  | len + 2, _, h => by
    show addL (rle g a (d + (len + 1))) 1 (g (a + (d + (len + 1)))) = _
    rw [rle_run g a d p (len + 1) (by omega) fun t h1 h2 => h t h1 (by omega), h _ (by omega) (by omega), addL_two]
theorem addL_length (l : List (Nat × Nat)) (len p : Nat) : l.length ≤ (addL l len p).length ∧ (addL l len p).length ≤ l.length + 1 := by
  rcases List.eq_nil_or_concat l with e | ⟨l, ⟨n, q⟩, e⟩
  · subst e; simp [addL_nil]
  · subst e
    rw [List.concat_eq_append, addL_snoc]
    split <;> simp
theorem rle_mono (g : Nat → Nat) (a d : Nat) : ∀ e, (rle g a d).length ≤ (rle g a (d + e)).length
  | 0 => Nat.le_refl _
  | e + 1 => Nat.le_trans (rle_mono g a d e) (addL_length _ _ _).1
theorem rle_length (g : Nat → Nat) (a : Nat) : ∀ d, (rle g a d).length ≤ d
  | 0 => Nat.le_refl _
  | d + 1 => Nat.le_trans (addL_length _ _ _).2 (Nat.succ_le_succ (rle_length g a d))

/-! ### Slots that lie end to end -/
def Lies (g : Nat → Nat) : Nat → List (Nat × Nat) → Prop
  | _, [] => True
  | a, p :: l => 1 ≤ p.1 ∧ (∀ t, a ≤ t → t < a + p.1 → g t = p.2) ∧ (∀ q, l.head? = some q → q.2 ≠ p.2) ∧ Lies g (a + p.1) l
theorem lies_snoc (g : Nat → Nat) (x : Nat × Nat) : ∀ (l : List (Nat × Nat)) (a : Nat), Lies g a (l ++ [x]) ↔ Lies g a l ∧ 1 ≤ x.1 ∧ (∀ t, a + tot l ≤ t → t < a + tot l + x.1 → g t = x.2) ∧ (∀ q, l.getLast? = some q → q.2 ≠ x.2)
  | [], a => by simp [Lies, tot]
  | p :: l, a => by
    have ih := lies_snoc g x l (a + p.1)
    have e : tot (p :: l) = p.1 + tot l := rfl
    show (1 ≤ p.1 ∧ (∀ t, a ≤ t → t < a + p.1 → g t = p.2) ∧ (∀ q, (l ++ [x]).head? = some q → q.2 ≠ p.2) ∧ Lies g (a + p.1) (l ++ [x])) ↔ (1 ≤ p.1 ∧ (∀ t, a ≤ t → t < a + p.1 → g t = p.2) ∧ (∀ q, l.head? = some q → q.2 ≠ p.2) ∧ Lies g (a + p.1) l) ∧ _
    rw [ih, e, ← Nat.add_assoc]
    cases l with
    | nil =>
      simp only [List.nil_append, List.head?_cons, Option.some.injEq, List.getLast?_nil, List.getLast?_singleton, List.head?_nil]
      constructor
      · rintro ⟨h1, h2, h3, h4, h5, h6, _⟩
        exact ⟨⟨h1, h2, fun q h => (by cases h), h4⟩, h5, h6, fun q hq => by subst hq; exact fun e => h3 x rfl e.symm⟩
      · rintro ⟨⟨h1, h2, _, h4⟩, h5, h6, h7⟩
        exact ⟨h1, h2, fun q hq => by subst hq; exact fun e => h7 p rfl e.symm, h4, h5, h6, fun q h => by cases h⟩
    | cons y l =>
      simp only [List.cons_append, List.head?_cons, Option.some.injEq, List.getLast?_cons_cons]
      constructor
      · rintro ⟨h1, h2, h3, h4, h5, h6, h7⟩; exact ⟨⟨h1, h2, h3, h4⟩, h5, h6, h7⟩
      · rintro ⟨⟨h1, h2, h3, h4⟩, h5, h6, h7⟩; exact ⟨h1, h2, h3, h4, h5, h6, h7⟩
theorem rle_lies (g : Nat → Nat) (a : Nat) : ∀ d, Lies g a (rle g a d) ∧ tot (rle g a d) = d
  | 0 => ⟨trivial, rfl⟩
  | d + 1 => by
    obtain ⟨h1, h2⟩ := rle_lies g a d
    show Lies g a (addL (rle g a d) 1 (g (a + d))) ∧ tot (addL (rle g a d) 1 (g (a + d))) = d + 1
    generalize rle g a d = l at *
    rcases List.eq_nil_or_concat l with e | ⟨l, ⟨n, q⟩, e⟩
    · subst e
      rw [addL_nil]
      have hd : d = 0 := h2.symm
      subst hd
      refine ⟨(lies_snoc g (1, g (a + 0)) [] a).2 ⟨trivial, Nat.le_refl _, fun t e1 e2 => ?_, fun q e => by cases e⟩, rfl⟩
      have : t = a + 0 := by simp [tot] at e1 e2; omega
      rw [this]
    · subst e
      rw [List.concat_eq_append] at h1 h2 ⊢
      have e2 := (lies_snoc g (n, q) l a).1 h1
      have e3 : tot (l ++ [(n, q)]) = tot l + n := by rw [tot_append]; simp [tot]
      rw [addL_snoc]
      by_cases c : q = g (a + d)
      · rw [if_pos c]
        refine ⟨(lies_snoc g (n + 1, q) l a).2 ⟨e2.1, by dsimp only; omega, fun t t1 t2 => ?_, e2.2.2.2⟩, by rw [tot_append]; simp [tot]; omega⟩
        dsimp only at t2 ⊢
        by_cases ct : t < a + tot l + n
        · exact e2.2.2.1 t t1 ct
        · rw [show t = a + d by omega]; exact c.symm
      · rw [if_neg c]
        refine ⟨(lies_snoc g (1, g (a + d)) (l ++ [(n, q)]) a).2 ⟨h1, Nat.le_refl _, fun t t1 t2 => ?_, fun q' hq => ?_⟩, by rw [tot_append]; simp [tot] at *; omega⟩
        · dsimp only at t2 ⊢
          rw [show t = a + d by omega]
        · simp only [List.getLast?_append, List.getLast?_singleton, Option.some_or, Option.some.injEq] at hq
          subst hq; exact c
theorem lies_shift (g : Nat → Nat) (s : Nat) : ∀ (l : List (Nat × Nat)) (a : Nat), (∀ t, a ≤ t → g (t + s) = g t) → Lies g a l → Lies g (a + s) l
  | [], _, _, _ => trivial
  | p :: l, a, hg, ⟨h1, h2, h3, h4⟩ => by
    refine ⟨h1, fun t t1 t2 => ?_, h3, ?_⟩
    · have := h2 (t - s) (by omega) (by omega)
      rw [← hg (t - s) (by omega), show t - s + s = t by omega] at this
      exact this
    · have := lies_shift g s l (a + p.1) (fun t ht => hg t (by omega)) h4
      rw [show a + s + p.1 = a + p.1 + s by omega]; exact this

/-! ### The joiner's state -/
/-- A joiner holds the run lengths of d ticks, or tells that there are too many. -/
def Held (g : Nat → Nat) (most a d : Nat) (s : List (Nat × Nat) × Bool) : Prop := (s.2 = false → s.1 = rle g a d) ∧ (s.2 = true ↔ most < (rle g a d).length)
theorem held_add (g : Nat → Nat) (most a d len p : Nat) (s : List (Nat × Nat) × Bool) (h : Held g most a d s) (hl : s.1.length ≤ most) (hg : ∀ t, a + d ≤ t → t < a + d + len → g t = p) : Held g most a (d + len) (addP most s len p) := by
  unfold addP
  by_cases c : len = 0
  · rw [if_pos c, c]; exact h
  · rw [if_neg c]
    have hr := rle_run g a d p len (by omega) hg
    unfold Held
    cases hs : s.2 with
    | true =>
      have h1 := h.2.1 hs
      have h2 := rle_mono g a d len
      have flag : ∀ x : List (Nat × Nat), (((x, true) : List (Nat × Nat) × Bool).2 = false → x = rle g a (d + len)) ∧ (((x, true) : List (Nat × Nat) × Bool).2 = true ↔ most < (rle g a (d + len)).length) := fun x => ⟨by simp, by simp; omega⟩
      split
      · split
        · exact flag _
        · split
          · exact flag _
          · exact flag _
      · split
        · exact flag _
        · exact flag _
    | false =>
      have h1 := h.1 hs
      have h2 : ¬ most < (rle g a d).length := fun e => by have := h.2.2 e; rw [hs] at this; cases this
      rw [hr]
      rw [h1] at hl ⊢
      generalize rle g a d = l at *
      rcases List.eq_nil_or_concat l with e | ⟨l, ⟨n, q⟩, e⟩
      · subst e
        rw [addL_nil]
        simp only [List.getLast?_nil, List.length_nil]
        split
        · rename_i e; simp [← e]
        · simp; omega
      · subst e
        rw [List.concat_eq_append] at *
        rw [addL_snoc]
        simp only [List.getLast?_append, List.getLast?_singleton, Option.some_or, List.dropLast_concat]
        by_cases cq : q = p
        · rw [if_pos cq, if_pos cq]
          simp at hl ⊢; omega
        · rw [if_neg cq, if_neg cq]
          split
          · rename_i e; simp at e ⊢; omega
          · rename_i e; simp at e hl ⊢; omega
theorem held_lay (g : Nat → Nat) (most fr tb now len p : Nat) (s : List (Nat × Nat) × Bool) (h : Held g most fr (min now tb - fr) s) (hl : s.1.length ≤ most) (hg : ∀ t, now ≤ t → t < now + len → g t = p) : Held g most fr (min (now + len) tb - fr) (layP most fr tb s now len p) := by
  unfold layP
  split
  · rename_i c
    have := held_add g most fr (min now tb - fr) (min (now + len) tb - max now fr) p s h hl (fun t t1 t2 => hg t (by omega) (by omega))
    rw [show min (now + len) tb - fr = min now tb - fr + (min (now + len) tb - max now fr) by omega]
    exact this
  · rename_i c
    by_cases c2 : len = 0
    · rw [c2]; exact h
    · rw [show min (now + len) tb - fr = min now tb - fr by omega]; exact h
theorem held_layC (g : Nat → Nat) (fr tb : Nat) : ∀ (l : List (Nat × Nat)) (now : Nat) (s : List (Nat × Nat) × Bool), Held g 65536 fr (min now tb - fr) s → s.1.length ≤ 65536 → Lies g now l → Held g 65536 fr (min (now + tot l) tb - fr) (layC fr tb l now s) ∧ (layC fr tb l now s).1.length ≤ 65536
  | [], _, _, h, hl, _ => ⟨h, hl⟩
  | c :: l, now, s, h, hl, ⟨h1, h2, h3, h4⟩ => by
    show Held g 65536 fr (min (now + (c.1 + tot l)) tb - fr) (layC fr tb l (now + c.1) (layP 65536 fr tb s now c.1 c.2)) ∧ _
    rw [← Nat.add_assoc]
    exact held_layC g fr tb l (now + c.1) _ (held_lay g 65536 fr tb now c.1 c.2 s h hl h2) (layP_len _ _ _ _ _ _ _ hl) h4

theorem held_more (g : Nat → Nat) (most a d e : Nat) (s : List (Nat × Nat) × Bool) (h : Held g most a d s) (hs : s.2 = true) : Held g most a (d + e) s :=
  ⟨fun c => (by rw [hs] at c; cases c), ⟨fun _ => Nat.lt_of_lt_of_le (h.2.1 hs) (rle_mono g a d e), fun _ => hs⟩⟩

/-- All of the first 2 H ticks' segments. -/
theorem held_segs (S : OccMath.Sv) (H fr tb lim : Nat) : ∀ (rest pre : List (Nat × Nat × Nat)) (now : Nat), S.Cover lim now rest → now ≤ lim →
    Held S.occ 65536 fr (min (min now H) tb - fr) (jAll H fr tb pre) → (jAll H fr tb pre).1.length ≤ 65536 → Held S.occ (2 * H) H (now - H) (cAll H pre) → (cAll H pre).1.length ≤ 2 * H →
    Held S.occ 65536 fr (min (min lim H) tb - fr) (jAll H fr tb (pre ++ rest)) ∧ (jAll H fr tb (pre ++ rest)).1.length ≤ 65536 ∧ Held S.occ (2 * H) H (lim - H) (cAll H (pre ++ rest)) ∧ (cAll H (pre ++ rest)).1.length ≤ 2 * H
  | [], pre, now, h, hn, h1, l1, h2, l2 => by
    have : lim ≤ now := h
    obtain rfl : lim = now := by omega
    rw [List.append_nil]; exact ⟨h1, l1, h2, l2⟩
  | x :: rest, pre, now, ⟨e1, e2, e3, e4, e5⟩, hn, h1, l1, h2, l2 => by
    rw [show pre ++ x :: rest = (pre ++ [x]) ++ rest by simp]
    refine held_segs S H fr tb lim rest (pre ++ [x]) (now + x.2.1) e5 e3 ?_ ?_ ?_ ?_
    · rw [jAll_snoc]; unfold jStep
      by_cases c : x.1 < H
      · rw [if_pos c]
        have := held_lay S.occ 65536 fr tb now (min x.2.1 (H - x.1)) x.2.2 (jAll H fr tb pre) (by rw [show min now H = now by omega] at h1; exact h1) l1 (fun t t1 t2 => e4 t t1 (by omega))
        rw [show min (now + x.2.1) H = now + min x.2.1 (H - x.1) by omega, e1]; rw [e1] at this; exact this
      · rw [if_neg c]
        rw [show min (now + x.2.1) H = min now H by omega]; exact h1
    · rw [jAll_snoc]; unfold jStep; split
      · exact layP_len _ _ _ _ _ _ _ l1
      · exact l1
    · rw [cAll_snoc]; unfold cStep
      by_cases c : H < x.1 + x.2.1
      · rw [if_pos c]
        have := held_add S.occ (2 * H) H (now - H) (x.1 + x.2.1 - max x.1 H) x.2.2 (cAll H pre) h2 l2 (fun t t1 t2 => e4 t (by omega) (by omega))
        rw [show now + x.2.1 - H = now - H + (x.1 + x.2.1 - max x.1 H) by omega]; exact this
      · rw [if_neg c, show now + x.2.1 - H = now - H by omega]; exact h2
    · rw [cAll_snoc]; unfold cStep; split
      · exact addP_len _ _ _ _ l2
      · exact l2

/-- Cycle behind cycle. -/
theorem held_turns (g : Nat → Nat) (H fr tb : Nat) (cyc : List (Nat × Nat)) (hH : 1 ≤ H) (ht : tot cyc = H) (hc : ∀ k, Lies g (H + k * H) cyc) : ∀ (f k : Nat) (s : List (Nat × Nat) × Bool), tb ≤ H + (k + f) * H →
    Held g 65536 fr (min (H + k * H) tb - fr) s → s.1.length ≤ 65536 → Held g 65536 fr (tb - fr) (turns H fr tb cyc f k s)
  | 0, k, s, hf, h, _ => by
    rw [Nat.add_zero] at hf
    rw [show min (H + k * H) tb = tb by omega] at h; exact h
  | f + 1, k, s, hf, h, hl => by
    unfold turns
    by_cases c : H + k * H < tb ∧ s.2 = false
    · rw [if_pos c]
      obtain ⟨a1, a2⟩ := held_layC g fr tb cyc (H + k * H) s h hl (hc k)
      refine held_turns g H fr tb cyc hH ht hc f (k + 1) _ (by rw [show k + 1 + f = k + (f + 1) by omega]; exact hf) ?_ a2
      rw [ht] at a1
      rw [show H + (k + 1) * H = H + k * H + H by rw [Nat.succ_mul]; omega]; exact a1
    · rw [if_neg c]
      by_cases c2 : H + k * H < tb
      · have hs : s.2 = true := by
          cases e : s.2 with
          | true => rfl
          | false => exact absurd ⟨c2, e⟩ c
        have := held_more g 65536 fr (min (H + k * H) tb - fr) (tb - fr - (min (H + k * H) tb - fr)) s h hs
        rw [show min (H + k * H) tb - fr + (tb - fr - (min (H + k * H) tb - fr)) = tb - fr by omega] at this
        exact this
      · rw [show min (H + k * H) tb = tb by omega] at h; exact h

theorem occ_turns {S : OccMath.Sv} {H : Nat} (ok : S.Ok H) (k : Nat) : ∀ t, H ≤ t → S.occ (t + k * H) = S.occ t := by
  intro t ht
  induction k with
  | zero => rw [Nat.zero_mul, Nat.add_zero]
  | succ k ih => rw [show t + (k + 1) * H = t + k * H + H by rw [Nat.succ_mul]; omega, OccMath.Sv.periodic ok _ (by omega), ih]

/-- What occ.Runs comes to: the run lengths of the span's ticks. -/
theorem runsV_held (l : List S30) (H fr tb : Nat) (hO : (sv l).Ok H) (hp : ∀ i, i < (sv l).n → 1 ≤ (sv l).p i) (hH : 1 ≤ H) (hft : fr ≤ tb) : Held (sv l).occ 65536 fr (tb - fr) (runsV l H fr tb) := by
  have hcov := (sv l).play_zero hp (2 * H) (2 * H) (Nat.le_refl _)
  have hempty : Held (sv l).occ 65536 fr (min (min 0 H) tb - fr) ([], false) := ⟨fun _ => by simp [rle], by simp [rle]⟩
  have hempty2 : Held (sv l).occ (2 * H) H (0 - H) ([], false) := ⟨fun _ => by simp [rle], by simp [rle]⟩
  obtain ⟨a1, a2, a3, a4⟩ := held_segs (sv l) H fr tb (2 * H) (segs l H) [] 0 hcov (Nat.zero_le _) hempty (Nat.zero_le _) hempty2 (Nat.zero_le _)
  rw [List.nil_append] at a1 a2 a3 a4
  rw [show min (2 * H) H = H by omega] at a1
  rw [show 2 * H - H = H by omega] at a3
  have hnf : (cAll H (segs l H)).2 = false := by
    cases e : (cAll H (segs l H)).2 with
    | false => rfl
    | true =>
      have h1 := a3.2.1 e
      have h2 := rle_length (sv l).occ H H
      omega
  have hcyc := a3.1 hnf
  obtain ⟨hl1, hl2⟩ := rle_lies (sv l).occ H H
  rw [← hcyc] at hl1 hl2
  unfold runsV
  generalize (cAll H (segs l H)).1 = cyc at *
  by_cases c : cyc.length = 1
  · rw [if_pos c]
    match cyc, c with
    | [x], _ =>
      have hx : x.1 = H := by simpa [tot] using hl2
      have hg : ∀ t, H ≤ t → (sv l).occ t = x.2 := by
        intro t ht
        have h := Nat.div_add_mod (t - H) H
        rw [Nat.mul_comm] at h
        have hm := Nat.mod_lt (t - H) (show 0 < H by omega)
        rw [show t = H + (t - H) % H + (t - H) / H * H by omega, occ_turns hO _ _ (by omega)]
        exact hl1.2.1 _ (by omega) (by omega)
      show Held _ _ _ _ (addP 65536 (jAll H fr tb (segs l H)) (tb - max fr H) x.2)
      by_cases c2 : fr ≤ tb ∧ H < tb
      · have := held_add (sv l).occ 65536 fr (min H tb - fr) (tb - max fr H) x.2 _ a1 a2 (fun t t1 t2 => hg t (by omega))
        rw [show min H tb - fr + (tb - max fr H) = tb - fr by omega] at this
        exact this
      · rw [show tb - max fr H = 0 by omega]
        rw [show min H tb = tb by omega] at a1
        unfold addP
        rw [if_pos rfl]; exact a1
  · rw [if_neg c]
    refine held_turns (sv l).occ H fr tb cyc hH hl2 (fun k => lies_shift _ _ _ _ (fun t ht => occ_turns hO k t ht) hl1) (tb + 1) ((fr - H) / H) _ ?_ ?_ a2
    · have h3 : (tb + 1) * 1 ≤ ((fr - H) / H + (tb + 1)) * H := Nat.mul_le_mul (Nat.le_add_left _ _) hH
      omega
    · have h3 := Nat.div_mul_le_self (fr - H) H
      by_cases c3 : H ≤ fr
      · rw [show min (H + (fr - H) / H * H) tb - fr = min H tb - fr by omega]; exact a1
      · rw [show fr - H = 0 by omega, Nat.zero_div, Nat.zero_mul, Nat.add_zero]; exact a1
end Go.Proofs.YtmphhgcmmcomjaaDoor.B
