/- Proved: a table of one process: the contracts of its calls. Conditions: places and misses are not beyond a half of all numbers. -/
import Derived.Test.YtfnlankpdnkmoaaQGet
namespace Go.Proofs.Ytfnlankpdnkmoaa.B
open Go.RowKit Go.Proofs.YtfnlankpdnkmoaaW.PrintWords Go.Proofs.YtfnlankpdnkmoaaW.PrintLast Go.Proofs.YtfnlankpdnkmoaaW.PrintMore

/-- A table of one process, its lock free. -/
structure OneT (W : World) (base g : Nat) (T : Tb) (q : Nat) (x : PS) (p : PD) (pl : Int) : Prop where
  at_ : At W base g T q 0 x p
  xs : T.xs = [x]
  ps : T.ps = [p]
  handler : T.handler = 0
  lock : T.lock = 0
  place : T.place = pl
def One (W : World) (base g : Nat) (x : PS) (p : PD) (pl : Int) : Prop := ∃ T q, OneT W base g T q x p pl
section
variable {W W' : World} {base g : Nat} {x x' : PS} {p : PD} {pl : Int} {T T' : Tb} {q : Nat}
theorem OneT.below (h : OneT W base g T q x p pl) (hb : Below W.heap.size W W') : OneT W' base g T q x p pl := ⟨h.at_.below hb, h.xs, h.ps, h.handler, h.lock, h.place⟩
theorem One.below (h : One W base g x p pl) (hb : Below W.heap.size W W') : One W' base g x p pl := by
  obtain ⟨T, q, h⟩ := h
  exact ⟨T, q, h.below hb⟩
theorem OneT.post {val : Value} {e : Ending} (h : OneT W base g T q x p pl) (hp : TPost W base g T T' val e W') (h1 : T'.xs = [x']) (h2 : T'.ps = T.ps) (h3 : T'.sv = T.sv) (h4 : T'.handler = T.handler) (h5 : T'.lock = T.lock) : e = .returned val ∧ One W' base g x' p T'.place ∧ Below base W W' :=
  ⟨hp.1, ⟨T', q, ⟨hp.2.1, by rw [h3]; exact h.at_.a, by rw [h1]; rfl, by rw [h2, h.ps]; rfl, by rw [h1]; simp⟩, h1, by rw [h2, h.ps], by rw [h4, h.handler], by rw [h5, h.lock], rfl⟩, h.at_.tab.bel hp.2.2⟩
theorem one_due (h : One W base g x p pl) (k now : Int) : Calls Try.prog 12 #[.pointer (some ⟨g, 0, none⟩), .int .i64 1, .int .i64 k, .int .i64 now] W fun e w' => e = .returned (.bool (decide (now ≠ -1 ∧ dueX x p k = now))) ∧ Below W.heap.size W w' := by
  obtain ⟨T, q, h⟩ := h
  exact Due_is k now W base g T q 0 x p h.at_
theorem one_next (h : One W base g x p pl) (now : Int) : Calls Try.prog 13 #[.pointer (some ⟨g, 0, none⟩), .int .i64 now] W fun e w' => e = .returned (.int .i64 (nxtK now x p (-1) 3)) ∧ Below W.heap.size W w' := by
  obtain ⟨T, q, h⟩ := h
  have h1 := next_is now W base g T h.at_.tab h.at_.n
  rw [show T.next now = nxtK now x p (-1) 3 by unfold Tb.next nxtL; rw [h.xs, h.ps]; rfl] at h1
  exact h1
theorem one_fire_no (h : One W base g x p pl) (k now : Int) (hn : ¬ (now ≠ -1 ∧ dueX x p k = now)) : Calls Try.prog 15 #[.pointer (some ⟨g, 0, none⟩), .int .i64 1, .int .i64 k, .int .i64 now] W fun e w' => e = .returned (.bool false) ∧ Below W.heap.size W w' := by
  obtain ⟨T, q, h⟩ := h
  exact fire_no k now W base g T q 0 x p h.at_ hn
/-- The process behind a timer's firing. -/
def PS.fired (x : PS) (p : PD) (pl k now : Int) : PS := if k = 1 then x.missed else if k = 2 then (if x.st = 3 then { (x.fresh p now).enter 1 with pl := pl } else { x with late := true }) else { x.late0.enter 1 with pl := pl }
def placeFired (x : PS) (pl k : Int) : Int := if k = 1 then pl else if k = 2 then (if x.st = 3 then pl + 1 else pl) else pl + 1
theorem one_fire (h : One W base g x p pl) (k now : Int) (hn : now ≠ -1 ∧ dueX x p k = now) (hp : 0 ≤ pl ∧ pl < 4611686018427387904) (hm : 0 ≤ x.miss ∧ x.miss < 4611686018427387904) :
    Calls Try.prog 15 #[.pointer (some ⟨g, 0, none⟩), .int .i64 1, .int .i64 k, .int .i64 now] W fun e w' => e = .returned (.bool true) ∧ One w' base g (x.fired p pl k now) p (placeFired x pl k) ∧ Below base W w' := by
  obtain ⟨T, q, h⟩ := h
  refine (fire_yes k now W base g T q 0 x p h.at_ hn (by rw [h.place]; exact hp) hm).mono fun e w' hq => ?_
  unfold PS.fired placeFired
  have e0 := h.place
  unfold Tb.fire at hq
  by_cases h1 : k = 1
  · rw [if_pos h1, if_pos h1]
    rw [if_pos h1] at hq
    have := h.post hq (x' := x.missed) (by unfold Tb.put; simp [h.xs]) rfl rfl rfl rfl
    rwa [show (T.put 0 x.missed).place = pl from e0] at this
  · rw [if_neg h1, if_neg h1]
    rw [if_neg h1] at hq
    by_cases h2 : k = 2
    · rw [if_pos h2, if_pos h2]
      rw [if_pos h2] at hq
      unfold Tb.begin_ at hq
      by_cases h3 : x.st = 3
      · rw [if_pos h3, if_pos h3]
        rw [if_pos h3] at hq
        have := h.post hq (x' := { (x.fresh p now).enter 1 with pl := T.place }) (by unfold Tb.enter Tb.take Tb.put; simp [h.xs]) rfl rfl rfl rfl
        rw [show (T.enter 0 (x.fresh p now) 1).place = T.place + 1 from rfl, e0] at this
        exact this
      · rw [if_neg h3, if_neg h3]
        rw [if_neg h3] at hq
        have := h.post hq (x' := { x with late := true }) (by unfold Tb.put; simp [h.xs]) rfl rfl rfl rfl
        rwa [show (T.put 0 { x with late := true }).place = pl from e0] at this
    · rw [if_neg h2, if_neg h2]
      rw [if_neg h2] at hq
      have := h.post hq (x' := { x.late0.enter 1 with pl := T.place }) (by unfold Tb.enter Tb.take Tb.put; simp [h.xs]) rfl rfl rfl rfl
      rw [show (T.enter 0 x.late0 1).place = T.place + 1 from rfl, e0] at this
      exact this
theorem one_start (h : One W base g x p pl) (now a0 a1 a2 : Int) (hs : x.st = 0) (ht : 0 ≤ now ∧ now < 1099511627776) (hp : 0 ≤ pl ∧ pl < 4611686018427387904) :
    Calls Try.prog 10 #[.pointer (some ⟨g, 0, none⟩), .int .i64 1, .int .i64 now, .agg #[.int .i64 a0, .int .i64 a1, .int .i64 a2]] W fun e w' => e = .returned (.bool true) ∧ One w' base g { (x.started p now a0 a1 a2).enter 1 with pl := pl } p (pl + 1) ∧ Below base W w' := by
  obtain ⟨T, q, h⟩ := h
  refine (start_yes now a0 a1 a2 W base g T q 0 x p h.at_ hs ht (by rw [h.place]; exact hp)).mono fun e w' hq => ?_
  have := h.post hq (x' := { (x.started p now a0 a1 a2).enter 1 with pl := T.place }) (by unfold Tb.enter Tb.take Tb.put; simp [h.xs]) rfl rfl rfl rfl
  rw [show (T.enter 0 (x.started p now a0 a1 a2) 1).place = T.place + 1 from rfl, h.place] at this
  exact this
theorem one_wait_no (h : One W base g x p pl) (st un ob ad : Int) (v : Value) (hf : x.st = 1) (hn : ¬ (waitsP st ∧ tickP un)) :
    Calls Try.prog 11 #[.pointer (some ⟨g, 0, none⟩), .int .i64 1, .int .i64 st, .int .i64 un, .int .i64 ob, .int .i64 ad, v] W fun e w' => e = .returned (.bool false) ∧ Below W.heap.size W w' := by
  obtain ⟨T, q, h⟩ := h
  exact wait_no st un ob ad v W base g T q 0 x p h.at_ ⟨hf, by rw [h.lock]; decide⟩ hn
theorem one_wait (h : One W base g x p pl) (st un ob ad : Int) (A : Option Addr) (c : Nat) (ys : List Int) (hf : x.st = 1) (hn : waitsP st ∧ tickP un) (hp : 0 ≤ pl ∧ pl < 4611686018427387904)
    (hd : Own .i64 2 W base ⟨A, ys.length, c⟩ ys) (hne : ∀ b, (⟨A, ys.length, c⟩ : Sl).v.ownBlock = some b → b ≠ g) (hc : ys.length ≤ c) (hl : ys.length < 17592186044416) :
    Calls Try.prog 11 #[.pointer (some ⟨g, 0, none⟩), .int .i64 1, .int .i64 st, .int .i64 un, .int .i64 ob, .int .i64 ad, .slice A ys.length c] W fun e w' => e = .returned (.bool true) ∧ (∃ s : Sl, One w' base g { x.waits st un ob ad s ys with pl := pl } p (pl + 1)) ∧ Below base W w' := by
  obtain ⟨T, q, h⟩ := h
  refine (wait_yes st un ob ad A c ys W base g T q 0 x p h.at_ ⟨hf, by rw [h.lock]; decide⟩ hn.1 hn.2 (by rw [h.place]; exact hp) (fun W' hk => (hd.move fun b hb => ?_).reads) hc hl).mono fun e w' hq => ?_
  · obtain ⟨cs, hcs⟩ := hd.typed b hb
    refine hk.block b (blk_lt hcs) (hne b hb) fun e => ?_
    obtain ⟨cs2, hcs2⟩ := own_typed h.at_.tab.st b e
    exact absurd (ty_eq hcs hcs2) (by decide)
  · obtain ⟨s, hq⟩ := hq
    have := h.post hq (x' := { x.waits st un ob ad s ys with pl := T.place }) (by unfold Tb.waitT Tb.put; simp [h.xs]) rfl rfl rfl rfl
    rw [show (T.waitT 0 x st un ob ad s ys).place = T.place + 1 from rfl, h.place] at this
    exact ⟨this.1, ⟨s, this.2.1⟩, this.2.2⟩
theorem one_wake (h : One W base g x p pl) (r : Int) (hs : x.st ≠ 0 ∧ x.st ≠ 1 ∧ x.st ≠ 3) (hp : 0 ≤ pl ∧ pl < 4611686018427387904) :
    Calls Try.prog 14 #[.pointer (some ⟨g, 0, none⟩), .int .i64 1, .int .i64 r] W fun e w' => e = .returned (.bool true) ∧ One w' base g { (x.woken r).enter 1 with pl := pl } p (pl + 1) ∧ Below base W w' := by
  obtain ⟨T, q, h⟩ := h
  refine (wake_yes r W base g T q 0 x p h.at_ hs (by rw [h.place]; exact hp)).mono fun e w' hq => ?_
  have := h.post hq (x' := { (x.woken r).enter 1 with pl := T.place }) (by unfold Tb.enter Tb.take Tb.put; simp [h.xs]) rfl rfl rfl rfl
  rw [show (T.enter 0 (x.woken r) 1).place = T.place + 1 from rfl, h.place] at this
  exact this
theorem one_wake_no (h : One W base g x p pl) (r : Int) (hs : x.st = 0 ∨ x.st = 1 ∨ x.st = 3) :
    Calls Try.prog 14 #[.pointer (some ⟨g, 0, none⟩), .int .i64 1, .int .i64 r] W fun e w' => e = .returned (.bool false) ∧ W = w' := by
  obtain ⟨T, q, h⟩ := h
  exact wake_no r W base g T q 0 x p h.at_ hs
theorem one_get (h : One W base g x p pl) (hl : x.data.length < 17592186044416) :
    Calls Try.prog 16 #[.pointer (some ⟨g, 0, none⟩), .int .i64 1] W fun e w' => ∃ s : Sl, e = .returned (.tuple #[.agg ({ x with dat := s } : PS).enc.toArray, .bool true]) ∧ s.n = x.data.length ∧ Below W.heap.size W w' := by
  obtain ⟨T, q, h⟩ := h
  refine (get_is W base g T q 0 x p h.at_ hl).mono fun e w' hq => ?_
  obtain ⟨s, h1, h2, h3⟩ := hq
  exact ⟨s, h1, h2.len, h3⟩
theorem one_pick (h : One W base g x p pl) (hs : x.st = 1) : Calls Try.prog 29 #[.pointer (some ⟨g, 0, none⟩)] W fun e w' => e = .returned (.tuple #[.int .i64 1, .bool true]) ∧ Below W.heap.size W w' := by
  obtain ⟨T, q, h⟩ := h
  have h1 := pick_is W base g T h.at_.tab h.at_.n
  have h2 : T.pick = (1, true) := by
    unfold Tb.pick
    rw [if_neg (fun hr => by have := hr.1; rw [h.handler] at this; omega), if_neg (fun hl => hl h.lock), h.xs]
    have : bstL [x] 1 = 1 := by
      show bst1 [x] 0 0 = 1
      unfold bst1
      exact if_pos ⟨hs, .inl rfl⟩
    rw [show ([x] : List PS).length = 1 from rfl, this]
    rfl
  rw [h2] at h1
  exact h1
theorem one_new (p : PD) (cA : Option Addr) (cn cc b : Nat) (h : W.heap[b]? = some (.cells #[.int .i64 p.entry, .int .i64 p.prio, .int .i64 p.period, .int .i64 p.limit, .int .i64 p.cap, .bool p.auto] 28 (0, 0))) :
    Calls Try.prog 8 #[.agg #[.int .i64 0, .int .i64 0, .int .i64 0, .int .i64 0, .int .i64 0, .int .i64 0, .slice none 0 0, .slice cA cn cc, .slice (some ⟨b, 0, none⟩) 1 1, .int .i64 0,
      .int .i64 0, .int .i64 0, .int .i64 0, .int .i64 0, .int .i64 0, .int .i64 0, .int .i64 0, .int .i64 0, .slice none 0 0, .slice none 0 0, .slice none 0 0]] W fun e w' => ∃ g, e = .returned (.pointer (some ⟨g, 0, none⟩)) ∧ One w' W.heap.size g (PS.dormant 0) p 1 ∧ Below W.heap.size W w' := by
  refine (new_is ⟨0, 0, 0, 0, 0, 0, ⟨none, 0, 0⟩, ⟨cA, cn, cc⟩, ⟨some ⟨b, 0, none⟩, 1, 1⟩, 0, 0, 0, 0, 0, 0, 0, 0, 0, ⟨none, 0, 0⟩, ⟨none, 0, 0⟩, ⟨none, 0, 0⟩⟩ [p] W ?_ (by simp)).mono fun e w' hq => ?_
  · exact ⟨rfl, .inr ⟨b, 1, _, rfl, Nat.zero_le _, h, Nat.le_refl _, by decide, rfl, rfl⟩⟩
  · obtain ⟨g, pv, sv, h1, h2, h3⟩ := hq
    obtain ⟨q, hA⟩ := own_A h2.st (by simp)
    exact ⟨g, h1, ⟨_, q, ⟨h2, hA, rfl, rfl, by simp⟩, rfl, rfl, rfl, rfl, rfl⟩, h3⟩
end
end Go.Proofs.Ytfnlankpdnkmoaa.B
