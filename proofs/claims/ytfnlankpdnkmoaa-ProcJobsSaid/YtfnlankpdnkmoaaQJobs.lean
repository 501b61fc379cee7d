/- Proved, plainly: a periodic process by its timers and a job by the rule keep step. No program's own step in it. -/
import Derived.Test.YtfnlankpdnkmoaaQOne
namespace Go.Proofs.Ytfnlankpdnkmoaa.B
open Go.RowKit Go.Proofs.YtfnlankpdnkmoaaW.PrintWords Go.Proofs.YtfnlankpdnkmoaaW.PrintLast Go.Proofs.YtfnlankpdnkmoaaW.PrintMore

/-- A job by the rule. -/
structure WD where
  rel : Int
  miss : Int
  done : Bool
  late : Bool
  over : Bool
def WD.t1 (w : WD) (now limit : Int) : WD := if w.done = false ∧ 0 < limit ∧ now = w.rel + limit then { w with miss := w.miss + 1, over := true } else w
def WD.t2 (w : WD) (now period : Int) : WD := if w.rel < now ∧ (now - w.rel).tmod period = 0 then (if w.done = true then { w with rel := now, done := false, late := false, over := false } else { w with late := true }) else w
def WD.tick (w : WD) (now period limit : Int) : WD := (w.t1 now limit).t2 now period
def pdJ (per lim : Int) : PD := ⟨0, 1, per, lim, 0, false⟩
/-- What the timers of a tick do. -/
def mB (x : PS) (p : PD) (n : Int) : Bool := decide (n ≠ -1 ∧ dueX x p 1 = n)
def rB (x : PS) (p : PD) (n : Int) : Bool := decide (n ≠ -1 ∧ dueX x p 2 = n)
def PS.m1 (x : PS) (p : PD) (n : Int) : PS := if mB x p n = true then x.missed else x
def PS.tick (x : PS) (p : PD) (pl n : Int) : PS := if rB (x.m1 p n) p n = true then (x.m1 p n).fired p pl 2 n else x.m1 p n
def plTick (x : PS) (p : PD) (pl n : Int) : Int := if rB (x.m1 p n) p n = true then placeFired (x.m1 p n) pl 2 else pl
/-- The process is as the job says. -/
structure Rl (per lim start now : Int) (x : PS) (w : WD) : Prop where
  hm : x.miss = w.miss
  hr : x.rel = w.rel
  r0 : start ≤ w.rel
  r1 : w.rel ≤ now
  m0 : 0 ≤ w.miss
  m1 : w.miss ≤ now - start
  dn : w.done = true → x.st = 3 ∧ x.dl = -1 ∧ now < x.un ∧ x.un ≤ now + per ∧ per ∣ x.un - w.rel
  run : w.done = false → x.st = 1 ∧ x.late = w.late ∧ (w.late = false → now < w.rel + per) ∧ (w.over = false → 0 < lim → now < w.rel + lim) ∧ (w.over = true → w.rel + lim ≤ now) ∧ x.dl = if 0 < lim ∧ w.over = false then w.rel + lim else -1
theorem tmod_dvd {a p : Int} (ha : 0 ≤ a) (_hp : 0 < p) : a.tmod p = 0 ↔ p ∣ a := by
  rw [Int.tmod_eq_emod_of_nonneg ha]
  exact (Int.dvd_iff_emod_eq_zero).symm
theorem wr64 (n : Int) (h : -9223372036854775808 ≤ n ∧ n ≤ 9223372036854775807) : wrap64 n = n := by unfold wrap64; omega
theorem dlOf_J {per lim n : Int} (hl : 0 ≤ lim ∧ lim ≤ 200) (hn : 0 ≤ n ∧ n ≤ 549755833888) : dlOf (pdJ per lim) n = if 0 < lim then n + lim else -1 := by
  unfold dlOf pdJ later
  dsimp only
  by_cases h : 0 < lim
  · rw [if_pos h, if_pos h, if_neg (by omega), if_neg (by omega), if_neg (by omega), wr64 (1099511627776 - n) (by omega), if_neg (by omega), wr64 (n + lim) (by omega)]
  · rw [if_neg h, if_neg h]
theorem nxt_meets {now d1 d2 : Int} (h0 : 0 ≤ now) (h1 : d1 = -1 ∨ now < d1) (h2 : d2 = -1 ∨ now < d2) : nxt1 now (nxt1 now (nxt1 now (-1) d1) d2) (-1) = now + 1 ↔ d1 = now + 1 ∨ d2 = now + 1 := by
  unfold nxt1
  split <;> split <;> split <;> omega
theorem m1_due2 (x : PS) (p : PD) (n : Int) : dueX (x.m1 p n) p 2 = dueX x p 2 := by
  unfold PS.m1
  split <;> rfl
theorem un_only {per n un rel now : Int} (_hp : 0 < per) (h1 : now < un) (h2 : un ≤ now + per) (h3 : per ∣ un - rel) (hn : n = now + 1) : per ∣ n - rel ↔ n = un := by
  constructor
  · intro h4
    by_cases he : n = un
    · exact he
    · have h5 : per ∣ un - n := by
        have := Int.dvd_sub h3 h4
        rwa [show un - rel - (n - rel) = un - n by omega] at this
      have := Int.le_of_dvd (by omega) h5
      omega
  · rintro rfl
    exact h3
section
variable {per lim start now pl : Int} {x : PS} {w : WD} (h : Rl per lim start now x w) (hp : 1 ≤ per ∧ per ≤ 200) (hl : 0 ≤ lim ∧ lim ≤ per) (hs : 0 ≤ start) (hn : now ≤ 549755823888)
include h hp hs hn
theorem Rl.due2_run (hd : w.done = false) : dueX x (pdJ per lim) 2 = if w.late = true then -1 else w.rel + per := by
  obtain ⟨h1, h2, -, -, -, -⟩ := h.run hd
  have h3 := h.r0
  have h4 := h.r1
  unfold dueX
  rw [if_neg (by omega), if_neg (by decide), if_pos rfl]
  unfold relTick
  rw [if_neg (by omega), h2, h.hr]
  have hp1 : (pdJ per lim).period = per := rfl
  rw [hp1, wr64 (w.rel + per) (by omega)]
  by_cases hlt : w.late = true
  · rw [if_pos hlt, if_pos (.inr (.inl hlt))]
  · rw [if_neg hlt, if_neg (by rintro (h | h | h); omega; exact hlt h; omega)]
omit hp hs hn in
theorem Rl.due1_run (hd : w.done = false) : dueX x (pdJ per lim) 1 = if 0 < lim ∧ w.over = false then w.rel + lim else -1 := by
  obtain ⟨h1, -, -, -, -, h6⟩ := h.run hd
  unfold dueX
  rw [if_neg (by omega), if_pos rfl, h6]
omit hp hs hn in
theorem Rl.due3 : dueX x (pdJ per lim) 3 = -1 := by
  have h1 : x.st = 1 ∨ x.st = 3 := by
    cases hd : w.done with
    | true => exact .inr (h.dn hd).1
    | false => exact .inl (h.run hd).1
  unfold dueX
  split
  · rfl
  · rw [if_neg (by decide), if_neg (by decide)]
    unfold wakeTk
    rw [if_pos h1]
omit hp hs hn in
theorem Rl.due1_done (hd : w.done = true) : dueX x (pdJ per lim) 1 = -1 := by
  obtain ⟨h1, h2, -⟩ := h.dn hd
  unfold dueX
  rw [if_neg (by omega), if_pos rfl, h2]
omit hp hs hn in
theorem Rl.due2_done (hd : w.done = true) : dueX x (pdJ per lim) 2 = x.un := by
  obtain ⟨h1, h2, -⟩ := h.dn hd
  unfold dueX
  rw [if_neg (by omega), if_neg (by decide), if_pos rfl]
  unfold relTick
  rw [if_pos h1]
include hl in
theorem Rl.step : Rl per lim start (now + 1) (x.tick (pdJ per lim) pl (now + 1)) (w.tick (now + 1) per lim) := by
  have b0 := h.r0
  have b1 := h.r1
  have b2 := h.m0
  have b3 := h.m1
  cases hd : w.done with
  | true =>
    have e1 := h.due1_done hd
    have e2 := h.due2_done hd
    obtain ⟨h1, h2, h3, h4, h5⟩ := h.dn hd
    have hm1 : x.m1 (pdJ per lim) (now + 1) = x := by
      unfold PS.m1 mB
      rw [if_neg]
      rw [e1, decide_eq_true_eq]
      omega
    have ht1 : w.t1 (now + 1) lim = w := by
      unfold WD.t1
      rw [if_neg]
      rw [hd]
      rintro ⟨h, _⟩
      cases h
    have hq := un_only (n := now + 1) (by omega) h3 h4 h5 rfl
    unfold PS.tick WD.tick
    rw [hm1, ht1]
    by_cases he : now + 1 = x.un
    · have hr : rB x (pdJ per lim) (now + 1) = true := by
        unfold rB
        rw [e2, decide_eq_true_eq]
        omega
      have ht2 : w.t2 (now + 1) per = { w with rel := now + 1, done := false, late := false, over := false } := by
        unfold WD.t2
        rw [if_pos ⟨by omega, (tmod_dvd (by omega) (by omega)).2 (hq.2 he)⟩, if_pos hd]
      have hx : x.fired (pdJ per lim) pl 2 (now + 1) = { (x.fresh (pdJ per lim) (now + 1)).enter 1 with pl := pl } := by
        unfold PS.fired
        rw [if_neg (by decide), if_pos rfl, if_pos h1]
      have hdl := dlOf_J (per := per) (lim := lim) (n := now + 1) (by omega) (by omega)
      rw [if_pos hr, ht2, hx]
      refine ⟨h.hm, rfl, by dsimp only; omega, Int.le_refl _, b2, by dsimp only; omega, (fun h => by cases h), fun _ => ⟨rfl, rfl, (fun _ => by dsimp only; omega), (fun _ h => by dsimp only; omega), (fun h => by cases h), ?_⟩⟩
      show dlOf (pdJ per lim) (now + 1) = _
      rw [hdl]
      simp
    · have hr : ¬ rB x (pdJ per lim) (now + 1) = true := by
        unfold rB
        rw [e2, decide_eq_true_eq]
        omega
      have ht2 : w.t2 (now + 1) per = w := by
        unfold WD.t2
        rw [if_neg]
        rintro ⟨h6, h7⟩
        exact he (hq.1 ((tmod_dvd (by omega) (by omega)).1 h7))
      rw [if_neg hr, ht2]
      exact ⟨h.hm, h.hr, b0, by omega, b2, by omega, (fun _ => ⟨h1, h2, by omega, by omega, h5⟩), fun h => by rw [hd] at h; cases h⟩
  | false =>
    have e1 := h.due1_run hd
    have e2 := h.due2_run hp hs hn hd
    obtain ⟨h1, h2, h3, h4, h5, h6⟩ := h.run hd
    -- the deadline
    obtain ⟨x1, hx1⟩ : ∃ x1, x.m1 (pdJ per lim) (now + 1) = x1 := ⟨_, rfl⟩
    obtain ⟨w1, hw1⟩ : ∃ w1, w.t1 (now + 1) lim = w1 := ⟨_, rfl⟩
    have hmid : x1.miss = w1.miss ∧ x1.rel = w.rel ∧ w1.rel = w.rel ∧ w1.done = false ∧ x1.st = 1 ∧ x1.late = w.late ∧ w1.late = w.late ∧ 0 ≤ w1.miss ∧ w1.miss ≤ now + 1 - start ∧ (w1.over = false → 0 < lim → now + 1 < w.rel + lim) ∧ (w1.over = true → w.rel + lim ≤ now + 1) ∧ x1.dl = if 0 < lim ∧ w1.over = false then w.rel + lim else -1 := by
      by_cases hc : 0 < lim ∧ w.over = false ∧ w.rel + lim = now + 1
      · have hm : mB x (pdJ per lim) (now + 1) = true := by
          unfold mB
          rw [e1, if_pos ⟨hc.1, hc.2.1⟩, decide_eq_true_eq]
          omega
        have e3 : x1 = x.missed := by rw [← hx1]; unfold PS.m1; rw [if_pos hm]
        have e4 : w1 = { w with miss := w.miss + 1, over := true } := by rw [← hw1]; unfold WD.t1; rw [if_pos ⟨hd, hc.1, hc.2.2.symm⟩]
        subst e3
        subst e4
        refine ⟨by show x.miss + 1 = w.miss + 1; rw [h.hm], h.hr, rfl, hd, h1, h2, rfl, by dsimp only; omega, by dsimp only; omega, (fun h => by cases h), (fun _ => by omega), ?_⟩
        rw [if_neg (by rintro ⟨_, h⟩; cases h)]
        rfl
      · have hm : ¬ mB x (pdJ per lim) (now + 1) = true := by
          unfold mB
          rw [e1, decide_eq_true_eq]
          by_cases hg : 0 < lim ∧ w.over = false
          · rw [if_pos hg]
            intro h
            exact hc ⟨hg.1, hg.2, h.2⟩
          · rw [if_neg hg]
            omega
        have e3 : x1 = x := by rw [← hx1]; unfold PS.m1; rw [if_neg hm]
        have e4 : w1 = w := by
          rw [← hw1]
          unfold WD.t1
          rw [if_neg]
          rintro ⟨_, h7, h8⟩
          cases hov : w.over with
          | false => exact hc ⟨h7, hov, h8.symm⟩
          | true => have := h5 hov; omega
        subst e3
        subst e4
        refine ⟨h.hm, h.hr, rfl, hd, h1, h2, rfl, b2, by omega, (fun h7 h8 => ?_), (fun h7 => by have := h5 h7; omega), h6⟩
        have := h4 h7 h8
        by_cases h10 : w1.rel + lim = now + 1
        · exact absurd ⟨h8, h7, h10⟩ hc
        · omega
    obtain ⟨g1, g2, g3, g4, g5, g6, g7, g8, g9, g10, g11, g12⟩ := hmid
    have e3 : dueX x1 (pdJ per lim) 2 = if w.late = true then -1 else w.rel + per := by rw [← hx1, m1_due2, e2]
    unfold PS.tick WD.tick
    rw [hx1, hw1]
    -- the release
    cases hlt : w.late with
    | false =>
      have h7 := h3 hlt
      rw [hlt, if_neg (by decide)] at e3
      by_cases he : w.rel + per = now + 1
      · have hr : rB x1 (pdJ per lim) (now + 1) = true := by
          unfold rB
          rw [e3, decide_eq_true_eq]
          omega
        have hx : x1.fired (pdJ per lim) pl 2 (now + 1) = { x1 with late := true } := by
          unfold PS.fired
          rw [if_neg (by decide), if_pos rfl, if_neg (by omega)]
        have ht2 : w1.t2 (now + 1) per = { w1 with late := true } := by
          unfold WD.t2
          rw [g3, if_pos ⟨by omega, (tmod_dvd (by omega) (by omega)).2 ⟨1, by omega⟩⟩, if_neg (by rw [g4]; decide)]
        rw [if_pos hr, hx, ht2]
        exact ⟨g1, by dsimp only; omega, by dsimp only; omega, by dsimp only; omega, g8, g9, (fun h => by rw [show ({ w1 with late := true } : WD).done = w1.done from rfl, g4] at h; cases h), fun _ => ⟨g5, rfl, (fun h => by cases h), (fun h8 h9 => by dsimp only; rw [g3]; exact g10 h8 h9), (fun h8 => by dsimp only; rw [g3]; exact g11 h8), by dsimp only; rw [g3]; exact g12⟩⟩
      · have hr : ¬ rB x1 (pdJ per lim) (now + 1) = true := by
          unfold rB
          rw [e3, decide_eq_true_eq]
          omega
        have ht2 : w1.t2 (now + 1) per = w1 := by
          unfold WD.t2
          rw [if_neg]
          rintro ⟨h8, h9⟩
          have h10 := Int.le_of_dvd (by omega) ((tmod_dvd (by omega) (by omega)).1 h9)
          omega
        rw [if_neg hr, ht2]
        exact ⟨g1, by omega, by omega, by omega, g8, g9, (fun h => by rw [g4] at h; cases h), fun _ => ⟨g5, by rw [g6, g7], (fun _ => by omega), (fun h8 h9 => by rw [g3]; exact g10 h8 h9), (fun h8 => by rw [g3]; exact g11 h8), by rw [g3]; exact g12⟩⟩
    | true =>
      rw [hlt, if_pos rfl] at e3
      have hr : ¬ rB x1 (pdJ per lim) (now + 1) = true := by
        unfold rB
        rw [e3, decide_eq_true_eq]
        omega
      have ht2 : w1.t2 (now + 1) per = w1 := by
        unfold WD.t2
        split
        · rw [if_neg (by rw [g4]; decide)]
          have : w1.late = true := by rw [g7, hlt]
          cases w1
          cases this
          rfl
        · rfl
      rw [if_neg hr, ht2]
      exact ⟨g1, by omega, by omega, by omega, g8, g9, (fun h => by rw [g4] at h; cases h), fun _ => ⟨g5, by rw [g6, g7], (fun h => by rw [g7, hlt] at h; cases h), (fun h8 h9 => by rw [g3]; exact g10 h8 h9), (fun h8 => by rw [g3]; exact g11 h8), by rw [g3]; exact g12⟩⟩
/-- Next tells the tick at which a timer is due. -/
theorem Rl.meets : (rB (x.m1 (pdJ per lim) (now + 1)) (pdJ per lim) (now + 1) || mB x (pdJ per lim) (now + 1)) = decide (nxtK now x (pdJ per lim) (-1) 3 = now + 1) := by
  have b0 := h.r0
  have b1 := h.r1
  have e3 := h.due3
  have key : ∀ d1 d2 : Int, dueX x (pdJ per lim) 1 = d1 → dueX x (pdJ per lim) 2 = d2 → (d1 = -1 ∨ now < d1) → (d2 = -1 ∨ now < d2) → (rB (x.m1 (pdJ per lim) (now + 1)) (pdJ per lim) (now + 1) || mB x (pdJ per lim) (now + 1)) = decide (nxtK now x (pdJ per lim) (-1) 3 = now + 1) := by
    intro d1 d2 q1 q2 c1 c2
    have hm := nxt_meets (now := now) (by omega) c1 c2
    have hn : nxtK now x (pdJ per lim) (-1) 3 = nxt1 now (nxt1 now (nxt1 now (-1) d1) d2) (-1) := by
      have a1 : dueX x (pdJ per lim) (((0 : Nat) : Int) + 1) = d1 := q1
      have a2 : dueX x (pdJ per lim) (((1 : Nat) : Int) + 1) = d2 := q2
      have a3 : dueX x (pdJ per lim) (((2 : Nat) : Int) + 1) = -1 := e3
      simp only [nxtK, a1, a2, a3]
    rw [hn]
    unfold rB mB
    rw [m1_due2, q1, q2, ← Bool.decide_or]
    apply decide_eq_decide.2
    rw [hm]
    omega
  cases hd : w.done with
  | true =>
    obtain ⟨-, -, h3, -, -⟩ := h.dn hd
    exact key _ _ (h.due1_done hd) (h.due2_done hd) (.inl rfl) (.inr h3)
  | false =>
    obtain ⟨-, -, h3, h4, -, -⟩ := h.run hd
    refine key _ _ (h.due1_run hd) (h.due2_run hp hs hn hd) ?_ ?_
    · by_cases hc : 0 < lim ∧ w.over = false
      · rw [if_pos hc]; exact .inr (h4 hc.2 hc.1)
      · rw [if_neg hc]; exact .inl rfl
    · cases hlt : w.late with
      | true => exact .inl rfl
      | false => rw [if_neg (by decide)]; exact .inr (h3 hlt)
end
end Go.Proofs.Ytfnlankpdnkmoaa.B
