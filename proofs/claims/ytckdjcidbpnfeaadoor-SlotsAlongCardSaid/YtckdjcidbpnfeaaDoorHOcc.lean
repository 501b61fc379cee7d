/- Proved: servers whose hyperperiod check.Hyper tells are servers that may be in the plain sense, the hyperperiod a common multiple; occ.fold as a plain number. No conditions. -/
import Derived.Test.YtckdjcidbpnfeaaDoorHNext
import Derived.Test.YtckdjcidbpnfeaaDoorBx1
namespace Go.Proofs.YtckdjcidbpnfeaaDoor.B
open Go.RowKit Go.Proofs.YtckdjcidbpnfeaaDoorW.PrintWords Go.Proofs.YtckdjcidbpnfeaaDoorW.PrintLast Go.Proofs.YtckdjcidbpnfeaaDoorW.PrintMore

theorem hyp_cases (l : List S24) (h : (hypS lcmF l).2 = 0) : l.length ≤ 32 ∧ (∀ i, i < l.length → okAt l i = true) ∧ (lcmF (pers l l.length)).2 = true ∧ (hypS lcmF l).1 = (lcmF (pers l l.length)).1 := by
  unfold hypS at h ⊢
  by_cases c1 : 32 < l.length
  · rw [if_pos c1] at h; cases h
  · rw [if_neg c1] at h ⊢
    by_cases c2 : (List.range l.length).all (okAt l) = false
    · rw [if_pos c2] at h; cases h
    · rw [if_neg c2] at h ⊢
      by_cases c3 : (lcmF (pers l l.length)).2 = false
      · rw [if_pos c3] at h; cases h
      · rw [if_neg c3] at h ⊢
        by_cases c4 : 65536 < relsum l (lcmF (pers l l.length)).1 l.length
        · rw [if_pos c4] at h; cases h
        · rw [if_neg c4]
          exact ⟨by omega, (all_ok l).1 (by simpa using c2), by simpa using c3, rfl⟩

/-- The hyperperiod as a plain number. -/
def hyp (l : List S24) : Nat := (hypS lcmF l).1.toNat

theorem ok_of_hyp (l : List S24) (h : (hypS lcmF l).2 = 0) : Bd (sv l) ∧ (∀ i, i < l.length → okAt l i = true) ∧ 1 ≤ hyp l ∧ hyp l ≤ 1048576 ∧ (hypS lcmF l).1 = (hyp l : Nat) ∧ (sv l).Ok (hyp l) := by
  obtain ⟨h32, hok, hl, he⟩ := hyp_cases l h
  have hall : ∀ x ∈ pers l l.length, 1 ≤ x ∧ x ≤ 1048576 := pers_in l hok
  have hlen : (pers l l.length).length = l.length := by simp [pers]
  have hbd : 1 ≤ (lcmF (pers l l.length)).1 ∧ (lcmF (pers l l.length)).1 ≤ 1048576 := by
    obtain ⟨K, hK⟩ := lcmF_is
    exact (hK _ (by omega) hall).2 hl
  have hlc : (lcmF (pers l l.length)).1 = (lc (pers l l.length) (pers l l.length).length : Int) := by
    unfold lcmF at hl ⊢
    by_cases c : allB (pers l l.length) 0 = true
    · rw [if_pos c] at hl ⊢
      by_cases d : (lc (pers l l.length) (pers l l.length).length : Int) ≤ 1048576
      · rw [if_pos d]
      · rw [if_neg d] at hl; cases hl
    · rw [if_neg c] at hl; cases hl
  have hn : hyp l = lc (pers l l.length) (pers l l.length).length := by unfold hyp; rw [he, hlc]; rfl
  have hp : ∀ i, i < l.length → (pers l l.length).getD i 0 = (l.getD i z24).f0 := fun i hi => by
    have := pers_at l i hi
    rwa [rd_at] at this
  refine ⟨bd_of h32 hok, hok, by unfold hyp; omega, by unfold hyp; omega, by unfold hyp; omega, ?_⟩
  constructor
  · intro i hi; exact (srv_at hok i hi).2.2.2.2.1
  · intro i hi; have := srv_at hok i hi; exact ⟨this.2.2.2.2.2.2.1, this.2.2.2.2.2.2.2.1⟩
  · intro i hi; have := srv_at hok i hi; exact this.2.2.2.2.2.2.2.2.1
  · have key : ∀ a b, a < b → b < l.length → (sv l).pr a ≠ (sv l).pr b := by
      intro a b hab hb e
      have h1 := hok b hb
      have ea := (srv_at hok a (by omega)).2.2.2.1
      have eb := (srv_at hok b hb).2.2.2.1
      unfold okAt at h1
      simp only [Bool.and_eq_true, Bool.not_eq_true'] at h1
      have h2 := h1.2
      unfold seenB at h2
      rw [List.any_eq_false] at h2
      refine h2 (l.getD a z24) ?_ (by rw [ea, eb, e]; exact beq_self_eq_true _)
      rw [List.mem_take_iff_getElem]
      exact ⟨a, by omega, by rw [List.getD_eq_getElem?_getD, List.getElem?_eq_getElem (by omega)]; rfl⟩
    intro a b ha hb e
    rcases Nat.lt_trichotomy a b with c | c | c
    · exact absurd e (key a b c hb)
    · exact c
    · exact absurd e.symm (key b a c ha)
  · intro i hi; have := srv_at hok i hi; exact this.2.2.2.2.2.2.2.2.2
  · unfold hyp; omega
  · intro i hi
    have hi' : i < l.length := hi
    have := lc_dvd (pers l l.length) (pers l l.length).length i (by omega) (Nat.le_refl _)
    rw [hp i hi'] at this
    rw [hn]
    have e := (srv_at hok i hi).1
    rw [e, Int.natAbs_natCast] at this
    exact this

/-- The tick below twice H that has the same occupant. -/
def foldN (T H : Nat) : Nat := if T < 2 * H then T else H + (T - H) % H
theorem foldN_lt (T H : Nat) (h : 1 ≤ H) : foldN T H < 2 * H := by
  unfold foldN
  have := Nat.mod_lt (T - H) (show H > 0 by omega)
  split <;> omega
theorem fold_plain (T H : Nat) (hH : 1 ≤ H) (hH2 : H ≤ 1048576) (hT : T ≤ 1099511627776) : occ_fold.f (T : Int) (H : Int) = some ((foldN T H : Nat) : Int) := by
  unfold occ_fold.f foldN
  have e1 : wrap64 (2 * (H : Int)) = ((2 * H : Nat) : Int) := by unfold wrap64; omega
  rw [e1]
  by_cases c : T < 2 * H
  · rw [if_pos (by omega), if_pos c]
  · rw [if_neg (by omega), if_neg c]
    have e2 : wrap64 ((T : Int) - (H : Int)) = ((T - H : Nat) : Int) := by unfold wrap64; omega
    rw [e2, ← Int.ofNat_tmod]
    have := Nat.mod_lt (T - H) (show H > 0 by omega)
    have e3 : wrap64 ((H : Int) + (((T - H) % H : Nat) : Int)) = ((H + (T - H) % H : Nat) : Int) := by unfold wrap64; omega
    rw [if_neg (by omega), e3]
end Go.Proofs.YtckdjcidbpnfeaaDoor.B
