/- Proved, plainly: what slots.Make's loop comes to: the run lengths of the first H ticks, and of the next H. No program's step in it. -/
import Derived.Test.YtckdjcidbpnfeaaDoorHSlotCount
namespace Go.Proofs.YtckdjcidbpnfeaaDoor.B
open Go.RowKit OccMath Go.Proofs.YtckdjcidbpnfeaaDoorW.PrintWords Go.Proofs.YtckdjcidbpnfeaaDoorW.PrintLast Go.Proofs.YtckdjcidbpnfeaaDoorW.PrintMore

/-- A slot laid behind others; two of one occupant are one. -/
def jn (l : List (Nat × Nat)) (len p : Nat) : List (Nat × Nat) := if len = 0 then l else addL l len p
theorem jn_run (g : Nat → Nat) (a d p len : Nat) (h : ∀ t, a + d ≤ t → t < a + d + len → g t = p) : jn (rle g a d) len p = rle g a (d + len) := by
  unfold jn
  by_cases c : len = 0
  · rw [if_pos c, c]; rfl
  · rw [if_neg c, rle_run g a d p len (by omega) h]

def mkP (H : Nat) (pre : List (Nat × Nat × Nat)) : List (Nat × Nat) := pre.foldl (fun s x => jn s (min (H - x.1) x.2.1) x.2.2) []
def mkC (H : Nat) (pre : List (Nat × Nat × Nat)) : List (Nat × Nat) := pre.foldl (fun s x => jn s (x.2.1 - min (H - x.1) x.2.1) x.2.2) []
def mkN (pre : List (Nat × Nat × Nat)) : Nat := pre.foldl (fun s x => s + x.2.1) 0
theorem mkP_snoc (H : Nat) (pre : List (Nat × Nat × Nat)) (x : Nat × Nat × Nat) : mkP H (pre ++ [x]) = jn (mkP H pre) (min (H - x.1) x.2.1) x.2.2 := by simp [mkP]
theorem mkC_snoc (H : Nat) (pre : List (Nat × Nat × Nat)) (x : Nat × Nat × Nat) : mkC H (pre ++ [x]) = jn (mkC H pre) (x.2.1 - min (H - x.1) x.2.1) x.2.2 := by simp [mkC]
theorem mkN_snoc (pre : List (Nat × Nat × Nat)) (x : Nat × Nat × Nat) : mkN (pre ++ [x]) = mkN pre + x.2.1 := by simp [mkN]

/-- The table's parts when the ticks below now have been gone over. -/
def Made (S : Sv) (H : Nat) (pre : List (Nat × Nat × Nat)) (now : Nat) : Prop := mkN pre = now ∧ mkP H pre = rle S.occ 0 (min now H) ∧ mkC H pre = rle S.occ H (now - H)
theorem made_step (S : Sv) (H now : Nat) (pre : List (Nat × Nat × Nat)) (x : Nat × Nat × Nat) (h : Made S H pre now) (h1 : x.1 = now) (h2 : ∀ t, now ≤ t → t < now + x.2.1 → S.occ t = x.2.2) : Made S H (pre ++ [x]) (now + x.2.1) := by
  obtain ⟨a, b, c⟩ := h
  obtain ⟨x1, x2, x3⟩ := x
  dsimp only at h1 h2
  subst h1
  refine ⟨by rw [mkN_snoc, a], ?_, ?_⟩
  · rw [mkP_snoc, b]
    dsimp only
    by_cases k : x1 < H
    · rw [show min x1 H = x1 by omega, jn_run S.occ 0 x1 x3 (min (H - x1) x2) (fun t t1 t2 => h2 t (by omega) (by omega)), show x1 + min (H - x1) x2 = min (x1 + x2) H by omega]
    · rw [show min (H - x1) x2 = 0 by omega, show min (x1 + x2) H = min x1 H by omega]; rfl
  · rw [mkC_snoc, c]
    dsimp only
    rw [jn_run S.occ H (x1 - H) x3 (x2 - min (H - x1) x2) (fun t t1 t2 => h2 t (by omega) (by omega)), show x1 - H + (x2 - min (H - x1) x2) = x1 + x2 - H by omega]
theorem made_at (S : Sv) (H lim : Nat) : ∀ (pre done : List (Nat × Nat × Nat)) (now : Nat) (x : Nat × Nat × Nat) (rest : List (Nat × Nat × Nat)), S.Cover lim now (pre ++ x :: rest) → Made S H done now →
    Made S H (done ++ pre) x.1 ∧ x.1 + x.2.1 ≤ lim ∧ Made S H (done ++ pre ++ [x]) (x.1 + x.2.1)
  | [], done, now, x, rest, ⟨e1, e2, e3, e4, e5⟩, h => by
    rw [List.append_nil]
    subst e1
    exact ⟨h, e3, made_step S H _ done x h rfl e4⟩
  | y :: pre, done, now, x, rest, ⟨e1, e2, e3, e4, e5⟩, h => by
    have := made_at S H lim pre (done ++ [y]) (now + y.2.1) x rest e5 (made_step S H now done y h e1 e4)
    rw [List.append_assoc, List.singleton_append] at this
    exact this
theorem made_all (S : Sv) (H lim : Nat) : ∀ (rest done : List (Nat × Nat × Nat)) (now : Nat), S.Cover lim now rest → now ≤ lim → Made S H done now → Made S H (done ++ rest) lim
  | [], done, now, h, hn, hm => by
    have : lim ≤ now := h
    obtain rfl : now = lim := by omega
    rw [List.append_nil]; exact hm
  | y :: rest, done, now, ⟨e1, e2, e3, e4, e5⟩, hn, hm => by
    have := made_all S H lim rest (done ++ [y]) (now + y.2.1) e5 e3 (made_step S H now done y hm e1 e4)
    rw [List.append_assoc, List.singleton_append] at this
    exact this
theorem made_nil (S : Sv) (H : Nat) : Made S H [] 0 := ⟨rfl, by simp [mkP, rle], by simp [mkC, rle]⟩

/-! ### A part that goes -/
/-- Slots of at least one tick, of occupants that may be, no two beside one another alike. -/
def Goes (n : Nat) : List (Nat × Nat) → Prop
  | [] => True
  | p :: l => 1 ≤ p.1 ∧ p.2 ≤ n ∧ (∀ q, l.head? = some q → q.2 ≠ p.2) ∧ Goes n l
theorem goes_of_lies (g : Nat → Nat) (n : Nat) (hg : ∀ t, g t ≤ n) : ∀ (l : List (Nat × Nat)) (a : Nat), Lies g a l → Goes n l
  | [], _, _ => trivial
  | p :: l, a, ⟨h1, h2, h3, h4⟩ => ⟨h1, by rw [← h2 a (Nat.le_refl _) (by omega)]; exact hg a, h3, goes_of_lies g n hg l _ h4⟩
theorem goes_at (n : Nat) : ∀ (l : List (Nat × Nat)) (i : Nat) (p : Nat × Nat), Goes n l → l[i]? = some p → 1 ≤ p.1 ∧ p.2 ≤ n ∧ (∀ q, l[i + 1]? = some q → q.2 ≠ p.2)
  | [], i, p, _, h => by simp at h
  | q :: l, 0, p, ⟨h1, h2, h3, h4⟩, h => by
    simp at h; subst h
    exact ⟨h1, h2, fun q hq => h3 q (by rw [List.head?_eq_getElem?]; simpa using hq)⟩
  | q :: l, i + 1, p, ⟨_, _, _, h4⟩, h => by
    have := goes_at n l i p h4 (by simpa using h)
    exact ⟨this.1, this.2.1, fun q hq => this.2.2 q (by simpa using hq)⟩

/-- The occupant at an offset. -/
def partAt : List (Nat × Nat) → Nat → Nat
  | [], _ => 0
  | p :: l, j => if j < p.1 then p.2 else partAt l (j - p.1)
theorem partAt_lies (g : Nat → Nat) : ∀ (l : List (Nat × Nat)) (a j : Nat), Lies g a l → j < tot l → partAt l j = g (a + j)
  | [], _, _, _, h => by simp [tot] at h
  | p :: l, a, j, ⟨h1, h2, h3, h4⟩, h => by
    have e : tot (p :: l) = p.1 + tot l := rfl
    show (if j < p.1 then p.2 else partAt l (j - p.1)) = _
    by_cases c : j < p.1
    · rw [if_pos c, h2 (a + j) (by omega) (by omega)]
    · rw [if_neg c, partAt_lies g l (a + p.1) (j - p.1) h4 (by omega), show a + p.1 + (j - p.1) = a + j by omega]
theorem partAt_drop : ∀ (l : List (Nat × Nat)) (i : Nat) (p : Nat × Nat) (j : Nat), l[i]? = some p → tot (l.take i) ≤ j → j < tot (l.take i) + p.1 → partAt l j = p.2
  | [], i, p, j, h, _, _ => by simp at h
  | q :: l, 0, p, j, h, h1, h2 => by
    simp at h; subst h
    simp [tot] at h2
    show (if j < q.1 then q.2 else _) = _
    rw [if_pos h2]
  | q :: l, i + 1, p, j, h, h1, h2 => by
    have e : tot ((q :: l).take (i + 1)) = q.1 + tot (l.take i) := rfl
    rw [e] at h1 h2
    show (if j < q.1 then q.2 else partAt l (j - q.1)) = _
    rw [if_neg (by omega)]
    exact partAt_drop l i p (j - q.1) (by simpa using h) (by omega) (by omega)
end Go.Proofs.YtckdjcidbpnfeaaDoor.B
