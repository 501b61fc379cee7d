/- Proved, plainly: where a walker along a table stands, and what it tells there. No program's step in it. -/
import Derived.Test.YtckdjcidbpnfeaaDoorHSlotAt13
namespace Go.Proofs.YtckdjcidbpnfeaaDoor.B
open Go.RowKit Go.Proofs.YtckdjcidbpnfeaaDoorW.PrintWords Go.Proofs.YtckdjcidbpnfeaaDoorW.PrintLast Go.Proofs.YtckdjcidbpnfeaaDoorW.PrintMore

/-- The part of a table in which a walker is. -/
def lst (P C : List (Nat × Nat)) (c : Bool) : List (Nat × Nat) := if c = true then C else P
/-- A walker stands in a slot that begins at s and ends at u. -/
structure Stands (P C : List (Nat × Nat)) (h : Nat) (c : Bool) (pl u s : Nat) : Prop where
  lt : pl < (lst P C c).length
  at_ : ∃ b, (c = false → b = 0) ∧ (c = true → h ≤ b ∧ b % h = 0) ∧ s = b + tot ((lst P C c).take pl) ∧ u = b + tot ((lst P C c).take (pl + 1))
section
variable {P C : List (Nat × Nat)} {h : Nat} {c : Bool} {pl u s : Nat}
theorem Table.tl (t : Table P C h) (c : Bool) : tot (lst P C c) = h := by
  cases c
  · exact t.tp
  · exact t.tc
theorem Table.gl (t : Table P C h) (c : Bool) : Goes 32 (lst P C c) := by
  cases c
  · exact t.gp
  · exact t.gc
theorem Table.ll (t : Table P C h) (c : Bool) : (lst P C c).length ≤ 1048576 := by
  cases c
  · exact t.lp
  · exact t.lc
theorem Table.lpos (t : Table P C h) (c : Bool) : 0 < (lst P C c).length := by
  rcases Nat.eq_zero_or_pos (lst P C c).length with e | e
  · have h1 := t.tl c
    have h2 := t.h1
    rw [List.length_eq_zero_iff.1 e] at h1
    simp [tot] at h1
    omega
  · exact e
/-- The slot's length. -/
theorem Stands.len (k : Stands P C h c pl u s) (t : Table P C h) : u = s + ((lst P C c)[pl]'k.lt).1 ∧ 1 ≤ ((lst P C c)[pl]'k.lt).1 ∧ ((lst P C c)[pl]'k.lt).1 ≤ 1048576 ∧ ((lst P C c)[pl]'k.lt).2 ≤ 32 ∧ u ≤ s + h := by
  obtain ⟨b, _, _, e1, e2⟩ := k.at_
  have h1 := tot_take_succ _ pl k.lt
  have h2 := goes_at 32 _ pl _ (t.gl c) (List.getElem?_eq_getElem k.lt)
  have h3 := tot_take_le (lst P C c) (pl + 1)
  rw [t.tl c] at h3
  have h4 := t.h2
  exact ⟨by omega, h2.1, by omega, h2.2.1, by omega⟩
/-- What is told of a tick within it. -/
theorem Stands.tells (k : Stands P C h c pl u s) (t : Table P C h) (T : Nat) (h1 : s ≤ T) (h2 : T < u) :
    partAt (if T < h then P else C) (if T < h then T else T % h) = ((lst P C c)[pl]'k.lt).2 ∧ T + endAt (if T < h then P else C) (if T < h then T else T % h) - (if T < h then T else T % h) = u := by
  obtain ⟨b, hb0, hb1, e1, e2⟩ := k.at_
  have hs := tot_take_succ _ pl k.lt
  have hle := tot_take_le (lst P C c) (pl + 1)
  rw [t.tl c] at hle
  have hp := t.h1
  have key : ∀ j, tot ((lst P C c).take pl) ≤ j → j < tot ((lst P C c).take (pl + 1)) → partAt (lst P C c) j = ((lst P C c)[pl]'k.lt).2 ∧ endAt (lst P C c) j = tot ((lst P C c).take (pl + 1)) := fun j a b =>
    ⟨partAt_drop _ pl _ j (List.getElem?_eq_getElem k.lt) a (by omega), by rw [endAt_drop _ pl _ j (List.getElem?_eq_getElem k.lt) a (by omega), hs]⟩
  cases c
  · have : b = 0 := hb0 rfl
    subst this
    have hl : T < h := by omega
    rw [if_pos hl, if_pos hl]
    obtain ⟨k1, k2⟩ := key T (by omega) (by omega)
    refine ⟨k1, ?_⟩
    have k2' : endAt P T = _ := k2
    rw [k2']; omega
  · obtain ⟨q1, q2⟩ := hb1 rfl
    have hl : ¬ T < h := by omega
    rw [if_neg hl, if_neg hl]
    have hm : T % h = T - b := by
      obtain ⟨m, hm⟩ : h ∣ b := Nat.dvd_of_mod_eq_zero q2
      have e : T = h * m + (T - b) := by omega
      conv => lhs; rw [e]
      rw [Nat.mul_add_mod, Nat.mod_eq_of_lt (by omega)]
    rw [hm]
    obtain ⟨k1, k2⟩ := key (T - b) (by omega) (by omega)
    refine ⟨k1, ?_⟩
    have k2' : endAt C (T - b) = _ := k2
    rw [k2']; omega
/-- The slot behind it, within the part. -/
theorem Stands.next (k : Stands P C h c pl u s) (h1 : pl + 1 < (lst P C c).length) : Stands P C h c (pl + 1) (u + ((lst P C c)[pl + 1]'h1).1) u := by
  obtain ⟨b, hb0, hb1, e1, e2⟩ := k.at_
  refine ⟨h1, b, hb0, hb1, e2, ?_⟩
  rw [tot_take_succ _ (pl + 1) h1, e2]; omega
/-- The slot behind it, at the part's end. -/
theorem Stands.wrap (k : Stands P C h c pl u s) (t : Table P C h) (h1 : pl + 1 = (lst P C c).length) : u % h = 0 ∧ Stands P C h true 0 (u + ((lst P C true)[0]'(t.lpos true)).1) u := by
  obtain ⟨b, hb0, hb1, e1, e2⟩ := k.at_
  have hfull : tot ((lst P C c).take (pl + 1)) = h := by rw [h1, List.take_length]; exact t.tl c
  rw [hfull] at e2
  have hu : h ≤ u ∧ u % h = 0 := by
    refine ⟨by omega, ?_⟩
    cases c
    · have : b = 0 := hb0 rfl
      subst this
      rw [e2, Nat.zero_add, Nat.mod_self]
    · rw [e2, Nat.add_mod_right]; exact (hb1 rfl).2
  refine ⟨hu.2, t.lpos true, u, fun e => (by cases e), fun _ => hu, by simp [tot], ?_⟩
  rw [tot_take_succ _ 0 (t.lpos true)]
  simp [tot]
/-- Whole cycles left out. -/
theorem Stands.jump (t : Table P C h) (b : Nat) (h1 : h ≤ b) (h2 : b % h = 0) : Stands P C h true 0 (b + ((lst P C true)[0]'(t.lpos true)).1) b := by
  refine ⟨t.lpos true, b, fun e => (by cases e), fun _ => ⟨h1, h2⟩, by simp [tot], ?_⟩
  rw [tot_take_succ _ 0 (t.lpos true)]
  simp [tot]
theorem Stands.first (t : Table P C h) : Stands P C h false 0 ((lst P C false)[0]'(t.lpos false)).1 0 := by
  refine ⟨t.lpos false, 0, fun _ => rfl, fun e => (by cases e), by simp [tot], ?_⟩
  rw [tot_take_succ _ 0 (t.lpos false)]
  simp [tot]
/-- Beside one another two slots have one occupant only where a part ends. -/
theorem Stands.beside {c' : Bool} {pl' u' s' : Nat} (k : Stands P C h c pl u s) (k' : Stands P C h c' pl' u' s') (t : Table P C h) (h1 : s' ≤ u) (h2 : u < u') (hne : u % h ≠ 0) : ((lst P C c')[pl']'k'.lt).2 ≠ ((lst P C c)[pl]'k.lt).2 := by
  have hl : pl + 1 < (lst P C c).length := by
    have := k.lt
    rcases Nat.lt_or_ge (pl + 1) (lst P C c).length with e | e
    · exact e
    · exact absurd (k.wrap t (by omega)).1 hne
  have kn := k.next hl
  have ln := kn.len t
  have e1 := (kn.tells t u (Nat.le_refl _) (by omega)).1
  have e2 := (k'.tells t u h1 h2).1
  rw [← e2, e1]
  exact (goes_at 32 _ pl _ (t.gl c) (List.getElem?_eq_getElem k.lt)).2.2 _ (List.getElem?_eq_getElem hl)
end
end Go.Proofs.YtckdjcidbpnfeaaDoor.B
