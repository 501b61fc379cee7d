/- Plain: in a window between two releases a server has at most its budget; the one of the greatest priority just its budget. -/
import Derived.Test.YtmphhgcmmcomjaaDoorOccMath
namespace OccMath

/-- No release within a period behind a release. -/
theorem Sv.quiet (S : Sv) (i r0 : Nat) (hr : S.rel i r0) (t : Nat) (h1 : r0 < t) (h2 : t < r0 + S.p i) : ¬ S.rel i t := fun h => by
  have := S.rel_apart i r0 t hr h h1
  omega

theorem Sv.window_le (S : Sv) (i r0 : Nat) (hr : S.rel i r0) : ∀ d, d ≤ S.p i → S.count (i + 1) r0 d ≤ S.b i
  | 0, _ => Nat.zero_le _
  | d + 1, hd => by
    have h1 := S.rest_count i r0 hr d fun t h1 h2 => S.quiet i r0 hr t h1 (by omega)
    show S.count (i + 1) r0 d + (if S.occ (r0 + d) = i + 1 then 1 else 0) ≤ _
    by_cases c : S.occ (r0 + d) = i + 1
    · have hpos := chosen_pos S.pr (S.R (r0 + d)) S.n (show 0 < S.occ (r0 + d) by omega)
      have e : chosen S.pr (S.R (r0 + d)) S.n = i + 1 := c
      rw [e, Nat.add_sub_cancel] at hpos
      rw [if_pos c]; omega
    · rw [if_neg c]; omega

theorem Sv.window_top (S : Sv) (i r0 : Nat) (hi : i < S.n) (inj : ∀ a b, a < S.n → b < S.n → S.pr a = S.pr b → a = b) (top : ∀ j, j < S.n → S.pr j ≤ S.pr i) (hr : S.rel i r0) : ∀ d, d ≤ S.p i → S.count (i + 1) r0 d = min d (S.b i)
  | 0, _ => by show 0 = _; omega
  | d + 1, hd => by
    have ih := S.window_top i r0 hi inj top hr d (by omega)
    have h1 := S.rest_count i r0 hr d fun t h1 h2 => S.quiet i r0 hr t h1 (by omega)
    show S.count (i + 1) r0 d + (if S.occ (r0 + d) = i + 1 then 1 else 0) = _
    by_cases c : 0 < S.R (r0 + d) i
    · have e : S.occ (r0 + d) = i + 1 := (chosen_iff S.pr (S.R (r0 + d)) S.n i hi inj).2 ⟨c, fun j hj _ => top j hj⟩
      rw [if_pos e]; omega
    · have e : S.occ (r0 + d) ≠ i + 1 := fun e => by
        have hpos := chosen_pos S.pr (S.R (r0 + d)) S.n (show 0 < S.occ (r0 + d) by omega)
        have e' : chosen S.pr (S.R (r0 + d)) S.n = i + 1 := e
        rw [e', Nat.add_sub_cancel] at hpos
        exact c hpos
      rw [if_neg e]; omega

/-- What a stretch counts, as a difference. -/
theorem Sv.count_sub (S : Sv) (q a d : Nat) : S.count q 0 (a + d) - S.count q 0 a = S.count q a d := by
  rw [S.count_add, Nat.zero_add]; omega
end OccMath
