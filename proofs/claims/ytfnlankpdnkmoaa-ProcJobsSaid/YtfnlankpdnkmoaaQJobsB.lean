/- Proved, plainly: the state of ProcJobs between its steps: a table of one periodic process and a job by the rule keep step in memory. No program's own step in it. -/
import Derived.Test.YtfnlankpdnkmoaaQJobsA
import Derived.Test.YtfnlankpdnkmoaaQKnown
namespace Go.Proofs.Ytfnlankpdnkmoaa.B
open Go.RowKit Go.Proofs.YtfnlankpdnkmoaaW.PrintWords Go.Proofs.YtfnlankpdnkmoaaW.PrintLast Go.Proofs.YtfnlankpdnkmoaaW.PrintMore

def z16 : List Int := [0, 0, 0, 0, 0, 0, 0, 0, 0, 0, 0, 0, 0, 0, 0, 0]
def Zr (x : PS) : Prop := x.regs = z16 ∧ x.data = []
theorem Zr.tick {x : PS} (h : Zr x) (p : PD) (pl n : Int) : Zr (x.tick p pl n) := by
  have h1 : Zr (x.m1 p n) := by
    unfold PS.m1
    split
    · exact h
    · exact h
  unfold PS.tick
  split
  · unfold PS.fired
    rw [if_neg (by decide), if_pos rfl]
    split
    · refine ⟨?_, rfl⟩
      show (x.m1 p n).regs.set 0 0 = z16
      rw [h1.1]
      rfl
    · exact h1
  · exact h1
theorem Zr.period {x : PS} (h : Zr x) (p : PD) (pl n : Int) : Zr ({ x.period p n with pl := pl } : PS) := ⟨h.1, rfl⟩
theorem plTick_le (x : PS) (p : PD) (pl n : Int) : pl ≤ plTick x p pl n ∧ plTick x p pl n ≤ pl + 1 := by
  have h : pl ≤ placeFired (x.m1 p n) pl 2 ∧ placeFired (x.m1 p n) pl 2 ≤ pl + 1 := by
    unfold placeFired
    rw [if_neg (by decide), if_pos rfl]
    split <;> omega
  unfold plTick
  split
  · exact h
  · omega
/-- The next job's tick. -/
theorem nextJob_is {per rel now : Int} (hp : 1 ≤ per ∧ per ≤ 200) (hr : 0 ≤ rel ∧ rel ≤ now) (hn : now ≤ 549755833888) : now < nextJob rel per (now + 1) ∧ nextJob rel per (now + 1) ≤ now + per ∧ per ∣ nextJob rel per (now + 1) - rel := by
  have hw : wrap64 (now + 1 - rel) = now + 1 - rel := wr64 _ (by omega)
  have hm := Int.tmod_eq_emod_of_nonneg (a := now + 1 - rel) (by omega) (b := per)
  have h1 := Int.emod_nonneg (now + 1 - rel) (show per ≠ 0 by omega)
  have h2 := Int.emod_lt_of_pos (now + 1 - rel) (show 0 < per by omega)
  have h3 := Int.emod_add_mul_ediv (now + 1 - rel) per
  have e : nextAt rel per (now + 1) = if (now + 1 - rel) % per = 0 then (now + 1, true) else (mx (wrap64 (wrap64 (now + 1 - (now + 1 - rel) % per) + per)) 0, decide (wrap64 (wrap64 (now + 1 - (now + 1 - rel) % per) + per) > now + 1)) := by
    unfold nextAt
    rw [if_neg (by omega), if_neg (by omega), hw, hm]
  unfold nextJob
  rw [e]
  clear e hm hw
  generalize (now + 1 - rel) % per = m at *
  generalize (now + 1 - rel) / per = k at *
  by_cases h0 : m = 0
  · rw [if_pos h0]
    dsimp only
    rw [if_pos ⟨rfl, by omega, by omega⟩]
    exact ⟨by omega, by omega, k, by omega⟩
  · rw [if_neg h0]
    dsimp only
    have e1 : wrap64 (now + 1 - m) = now + 1 - m := wr64 _ (by omega)
    rw [e1, wr64 (now + 1 - m + per) (by omega)]
    have e2 : mx (now + 1 - m + per) 0 = now + 1 - m + per := by unfold mx; split <;> omega
    rw [e2, if_pos ⟨decide_eq_true (by omega), by omega, by omega⟩]
    exact ⟨by omega, by omega, k + 1, by rw [Int.mul_add]; omega⟩
theorem Rl.period {per lim start now pl : Int} {x : PS} {w : WD} (h : Rl per lim start now x w) (hp : 1 ≤ per ∧ per ≤ 200) (hs : 0 ≤ start) (hn : now ≤ 549755833888) : Rl per lim start now { x.period (pdJ per lim) now with pl := pl } { w with done := true } := by
  have h0 := h.r0
  have h1 := h.r1
  have hw : wrap64 (now + 1) = now + 1 := wr64 _ (by omega)
  have hj := nextJob_is hp (rel := w.rel) (now := now) (by omega) hn
  refine ⟨h.hm, h.hr, h0, h1, h.m0, h.m1, fun _ => ⟨rfl, rfl, ?_, ?_, ?_⟩, fun h => by cases h⟩
  · show now < nextJob x.rel per (wrap64 (now + 1))
    rw [hw, h.hr]
    exact hj.1
  · show nextJob x.rel per (wrap64 (now + 1)) ≤ now + per
    rw [hw, h.hr]
    exact hj.2.1
  · show per ∣ nextJob x.rel per (wrap64 (now + 1)) - w.rel
    rw [hw, h.hr]
    exact hj.2.2
theorem Rl.first {per lim start : Int} (hp : 1 ≤ per ∧ per ≤ 200) (hl : 0 ≤ lim ∧ lim ≤ per) (hs : 0 ≤ start ∧ start ≤ 549755813888) : Rl per lim start start { ((PS.dormant 0).started (pdJ per lim) start 0 0 0).enter 1 with pl := 1 } ⟨start, 0, false, false, false⟩ := by
  refine ⟨rfl, rfl, Int.le_refl _, Int.le_refl _, Int.le_refl _, by dsimp only; omega, (fun h => by cases h), fun _ => ⟨rfl, rfl, (fun _ => by dsimp only; omega), (fun _ _ => by dsimp only; omega), (fun h => by cases h), ?_⟩⟩
  show dlOf (pdJ per lim) start = _
  rw [dlOf_J (by omega) (by omega)]
  simp
/-- The state of the law between its steps. -/
structure JX (W0 : World) (base g gw : Nat) (per lim start : Int) (k : Nat) (now : Int) (W : World) (x : PS) (w : WD) (pl : Int) : Prop where
  one : One W base g x (pdJ per lim) pl
  wd : WdAt W gw w
  rl : Rl per lim start now x w
  zr : Zr x
  p0 : 0 ≤ pl
  p1 : pl ≤ 2 + (k : Int)
  n1 : now ≤ start + (k : Int)
  bl : Below W0.heap.size W0 W
def JI (W0 : World) (base g gw : Nat) (per lim start : Int) (k : Nat) (now : Int) (W : World) : Prop := ∃ x w pl, JX W0 base g gw per lim start k now W x w pl
section
variable {W0 W w' : World} {base g gw : Nat} {per lim start : Int} {k : Nat} {now : Int} {x : PS} {w : WD} {pl : Int}
theorem JX.below (h : JX W0 base g gw per lim start k now W x w pl) (hb : Below W.heap.size W w') : JX W0 base g gw per lim start k now w' x w pl :=
  ⟨h.one.below hb, h.wd.kty (KTy.of_below hb), h.rl, h.zr, h.p0, h.p1, h.n1, h.bl.trans (hb.mono h.bl.size)⟩
theorem JX.more {k' : Nat} (h : JX W0 base g gw per lim start k now W x w pl) (hk : k ≤ k') : JX W0 base g gw per lim start k' now W x w pl :=
  ⟨h.one, h.wd, h.rl, h.zr, h.p0, by have := h.p1; omega, by have := h.n1; omega, h.bl⟩
theorem one_getJ (h : One W base g x (pdJ per lim) pl) (hz : Zr x) :
    Calls Try.prog 16 #[.pointer (some ⟨g, 0, none⟩), .int .i64 1] W fun e w' => ∃ A c, e = .returned (.tuple #[.agg #[.int .i64 x.st, .int .i64 x.pr, .int .i64 x.pl, .int .i64 0, .int .i64 0, .int .i64 0, .int .i64 0, .int .i64 0, .int .i64 0, .int .i64 0, .int .i64 0, .int .i64 0, .int .i64 0, .int .i64 0, .int .i64 0, .int .i64 0, .int .i64 0, .int .i64 0, .int .i64 0, .int .i64 x.pc, .int .i64 x.rel, .int .i64 x.dl, .int .i64 x.un, .bool x.late, .int .i64 x.ob, .int .i64 x.ad, .slice A 0 c, .int .i64 x.miss], .bool true]) ∧ Below W.heap.size W w' := by
  refine (one_get h (by rw [hz.2]; decide)).mono fun e w' hq => ?_
  obtain ⟨⟨A, n, c⟩, h1, h2, h3⟩ := hq
  have hn : n = 0 := by rw [hz.2] at h2; exact h2
  subst hn
  refine ⟨A, c, ?_, h3⟩
  rw [h1]
  unfold PS.enc
  dsimp only
  rw [hz.1]
  rfl
/-- A state as it is told. -/
def FitRow (x : PS) (AR : Array Value) : Prop := ∃ (A : Option Addr) (c : Nat), AR = #[.int .i64 x.st, .int .i64 x.pr, .int .i64 x.pl, .int .i64 0, .int .i64 0, .int .i64 0, .int .i64 0, .int .i64 0, .int .i64 0, .int .i64 0, .int .i64 0, .int .i64 0, .int .i64 0, .int .i64 0, .int .i64 0, .int .i64 0, .int .i64 0, .int .i64 0, .int .i64 0, .int .i64 x.pc, .int .i64 x.rel, .int .i64 x.dl, .int .i64 x.un, .bool x.late, .int .i64 x.ob, .int .i64 x.ad, .slice A 0 c, .int .i64 x.miss]
theorem FitRow.info {AR : Array Value} (h : FitRow x AR) : (Try.prog.info? 48).map (·.size) = some AR.size := by
  obtain ⟨A, c, rfl⟩ := h
  exact infoSz
theorem FitRow.size {AR : Array Value} (h : FitRow x AR) : AR.size = 28 := by
  obtain ⟨A, c, rfl⟩ := h
  rfl
theorem FitRow.all {AR : Array Value} (h : FitRow x AR) : AR.all (·.oneCell') = true := by
  obtain ⟨A, c, rfl⟩ := h
  kernel_rfl
/-- Behind the timers. -/
structure JM (W0 : World) (base g gw : Nat) (per lim start : Int) (k : Nat) (now : Int) (W : World) (x : PS) (w : WD) (pl : Int) : Prop where
  one : One W base g (x.tick (pdJ per lim) pl (now + 1)) (pdJ per lim) (plTick x (pdJ per lim) pl (now + 1))
  wd : WdAt W gw w
  rl : Rl per lim start now x w
  zr : Zr x
  p0 : 0 ≤ pl
  p1 : pl ≤ 2 + (k : Int)
  n1 : now ≤ start + (k : Int)
  bl : Below W0.heap.size W0 W
theorem jx_next (h : JX W0 base g gw per lim start k now W x w pl) : Calls Try.prog 13 #[.pointer (some ⟨g, 0, none⟩), .int .i64 now] W fun e w' => e = .returned (.int .i64 (nxtK now x (pdJ per lim) (-1) 3)) ∧ JX W0 base g gw per lim start k now w' x w pl :=
  (one_next h.one now).mono fun _ _ hq => ⟨hq.1, h.below hq.2⟩
theorem jx_fired (h : JX W0 base g gw per lim start k now W x w pl) (hb : W0.heap.size ≤ base) (hk : k ≤ 10000) : Calls Try.prog 18 #[.pointer (some ⟨g, 0, none⟩), .int .i64 (now + 1)] W fun e w' => e = .returned (.tuple #[.bool (rB (x.m1 (pdJ per lim) (now + 1)) (pdJ per lim) (now + 1)), .bool (mB x (pdJ per lim) (now + 1))]) ∧ JM W0 base g gw per lim start k now w' x w pl := by
  have h1 := h.p0
  have h2 := h.p1
  have h3 := h.rl.m0
  have h4 := h.rl.m1
  have h5 := h.n1
  have h6 := h.rl.hm
  exact (fired_is h.one (now + 1) (by omega) (by omega)).mono fun _ _ hq => ⟨hq.1, hq.2.1, h.wd.kty hq.2.2.kty, h.rl, h.zr, h.p0, h.p1, h.n1, h.bl.trans (hq.2.2.below.mono hb)⟩
theorem jm_at (h : JM W0 base g gw per lim start k now W x w pl) (hp : 1 ≤ per ∧ per ≤ 200) (hl : 0 ≤ lim ∧ lim ≤ per) (hs : 0 ≤ start ∧ start ≤ 549755813888) (hg : W0.heap.size ≤ gw) (hk : k ≤ 10000) : Calls Try.prog 19 #[.pointer (some ⟨gw, 0, none⟩), .int .i64 (now + 1), .int .i64 per, .int .i64 lim] W fun e w' => e = .returned (.tuple #[]) ∧
    JX W0 base g gw per lim start (k + 1) (now + 1) w' (x.tick (pdJ per lim) pl (now + 1)) (w.tick (now + 1) per lim) (plTick x (pdJ per lim) pl (now + 1)) := by
  have h1 := h.p0
  have h2 := h.p1
  have h3 := h.rl.m0
  have h4 := h.rl.m1
  have h5 := h.n1
  have h6 := h.rl.r0
  have h7 := h.rl.r1
  have hnow : now ≤ 549755823888 := by clear hp hl h1 h2 h3 h4 h6 h7; omega
  have h8 := plTick_le x (pdJ per lim) pl (now + 1)
  refine (at_is w (now + 1) per lim W gw h.wd (by omega) (by omega) (by omega) hp.1 (by omega)).mono fun _ _ hq => ⟨hq.1, h.wd.one hq.2.2 h.one, hq.2.1, h.rl.step hp hl hs.1 hnow, h.zr.tick _ _ _, by omega, by omega, by omega, ?_⟩
  exact h.bl.trans (hq.2.2.below hg (fun b hb => by cases hb) h.bl.size)
theorem jx_fits (h : JX W0 base g gw per lim start k now W x w pl) (hl : 0 ≤ lim ∧ lim ≤ 200) (hs : 0 ≤ start ∧ start ≤ 549755813888) (hk : k ≤ 10000) (AR : Array Value) (hf : FitRow x AR) :
    Calls Try.prog 20 #[.pointer (some ⟨gw, 0, none⟩), .agg AR, .int .i64 lim, .int .i64 now] W fun e w' => e = .returned (.bool true) ∧ JX W0 base g gw per lim start k now w' x w pl := by
  obtain ⟨A, c, rfl⟩ := hf
  have h5 := h.n1
  have h6 := h.rl.r0
  have h7 := h.rl.r1
  refine (fits_is w x.st x.pr x.pl x.pc x.rel x.dl x.un x.late x.ob x.ad A 0 c x.miss lim now W gw h.wd (by omega) hl h.rl.hm h.rl.hr (fun hd => (h.rl.run hd).2.1) (fun hd => ?_) (fun hd => ?_)).mono fun _ _ hq => ⟨hq.1, h.below hq.2⟩
  · have := h.rl.dn hd
    exact ⟨this.1, this.2.1, this.2.2.1⟩
  · have := h.rl.run hd
    exact ⟨this.1, this.2.2.2.2.2⟩
theorem jx_get (h : JX W0 base g gw per lim start k now W x w pl) :
    Calls Try.prog 16 #[.pointer (some ⟨g, 0, none⟩), .int .i64 1] W fun e w' => ∃ AR, e = .returned (.tuple #[.agg AR, .bool true]) ∧ FitRow x AR ∧ JX W0 base g gw per lim start k now w' x w pl := by
  refine (one_getJ h.one h.zr).mono fun e w' hq => ?_
  obtain ⟨A, c, h1, h2⟩ := hq
  exact ⟨_, h1, ⟨A, c, rfl⟩, h.below h2⟩
theorem jx_period (h : JX W0 base g gw per lim start k now W x w pl) (hb : W0.heap.size ≤ base) (hp : 1 ≤ per ∧ per ≤ 200) (hs : 0 ≤ start ∧ start ≤ 549755813888) (hk : k ≤ 10000) : Calls Try.prog 21 #[.pointer (some ⟨g, 0, none⟩), .int .i64 1, .int .i64 now] W fun e w' => e = .returned (.bool (!w.done)) ∧ WdAt w' gw w ∧
    ∀ w'', WdAt w'' gw { w with done := true } → TK w' w'' gw ⟨none, 0, 0⟩ → W0.heap.size ≤ gw → JI W0 base g gw per lim start (k + 1) now w'' := by
  have h1 := h.p0
  have h2 := h.p1
  have h5 := h.n1
  have h6 := h.rl.r0
  have h7 := h.rl.r1
  cases hd : w.done with
  | false =>
    have hr := h.rl.run hd
    refine (one_period2 h.one now hr.1 (by show per ≠ 0; omega) (by omega) (by rw [h.rl.hr]; omega) (by omega)).mono fun e w' hq => ⟨hq.1, h.wd.kty hq.2.2.kty, fun w'' hw hk2 hg => ?_⟩
    exact ⟨_, _, _, (h.wd.kty hq.2.2.kty).one hk2 hq.2.1, hw, h.rl.period hp hs.1 (by omega), h.zr.period _ _ _, by omega, by omega, by omega, (h.bl.trans (hq.2.2.below.mono hb)).trans (hk2.below hg (fun b hb => by cases hb) (Nat.le_trans h.bl.size (Nat.le_trans (by exact Nat.le_refl _) hq.2.2.below.size)))⟩
  | true =>
    have hr := h.rl.dn hd
    refine (one_period_no h.one now (by omega)).mono fun e w' hq => ?_
    obtain ⟨rfl, rfl⟩ := hq
    refine ⟨rfl, h.wd, fun w'' hw hk2 hg => ?_⟩
    have ew : { w with done := true } = w := by cases w; cases hd; rfl
    rw [ew] at hw
    exact ⟨_, _, _, h.wd.one hk2 h.one, hw, h.rl, h.zr, h.p0, by omega, by omega, h.bl.trans (hk2.below hg (fun b hb => by cases hb) h.bl.size)⟩
end
end Go.Proofs.Ytfnlankpdnkmoaa.B
