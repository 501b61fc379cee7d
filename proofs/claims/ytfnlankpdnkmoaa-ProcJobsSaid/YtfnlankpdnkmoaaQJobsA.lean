/- Proved: the contracts of fired, World.at and World.fits. Conditions: numbers are not beyond a half of all numbers. -/
import Derived.Test.YtfnlankpdnkmoaaQJobs
import Derived.Test.YtfnlankpdnkmoaaQPeriod
import Derived.Sort.QuietIn
namespace Go.Proofs.Ytfnlankpdnkmoaa.B
open Go.RowKit Go.Proofs.YtfnlankpdnkmoaaW.PrintWords Go.Proofs.YtfnlankpdnkmoaaW.PrintLast Go.Proofs.YtfnlankpdnkmoaaW.PrintMore

/-- Blocks that are no table's and no state's are kept. -/
def KTy (W w' : World) : Prop := ∀ (b : Nat) (cs : Array Value) (ty : Nat), W.heap[b]? = some (.cells cs ty (0, 0)) → ty ≠ 86 → ty ≠ 48 → w'.heap[b]? = W.heap[b]?
theorem KTy.of_below {W w' : World} (h : Below W.heap.size W w') : KTy W w' := fun _ _ _ hc _ _ => h.block _ (blk_lt hc)
theorem KTy.refl {W : World} : KTy W W := fun _ _ _ _ _ _ => rfl
theorem KTy.trans {W w w' : World} (h : KTy W w) (k : KTy w w') : KTy W w' := fun b cs ty hc h1 h2 => (k b cs ty ((h b cs ty hc h1 h2).trans hc) h1 h2).trans (h b cs ty hc h1 h2)
theorem TabAt.kty {W w' : World} {base g : Nat} {T : Tb} (h : TabAt W base g T) (k : TK W w' g T.sv) : KTy W w' := fun b cs ty hc h1 h2 => k.block b (blk_lt hc) (fun e => h1 (by subst e; exact ty_eq hc h.blk)) (fun e => h2 (by
  obtain ⟨cs2, hc2⟩ := own_typed h.st b e
  exact ty_eq hc hc2))
structure Fr (base : Nat) (W w' : World) : Prop where
  below : Below base W w'
  kty : KTy W w'
theorem Fr.trans {base : Nat} {W w w' : World} (h : Fr base W w) (k : Fr base w w') : Fr base W w' := ⟨h.below.trans k.below, h.kty.trans k.kty⟩
theorem Fr.of {base : Nat} {W w' : World} (h : Below W.heap.size W w') (hb : base ≤ W.heap.size) : Fr base W w' := ⟨h.mono hb, KTy.of_below h⟩
section
variable {W W' : World} {base g : Nat} {x x' : PS} {p : PD} {pl : Int} {T T' : Tb} {q : Nat}
theorem One.lo (h : One W base g x p pl) : base ≤ W.heap.size := by
  obtain ⟨T, q, h⟩ := h
  have := h.at_.tab.low
  have := blk_lt h.at_.tab.blk
  omega
theorem OneT.post2 {val : Value} {e : Ending} (h : OneT W base g T q x p pl) (hp : TPost W base g T T' val e W') (h1 : T'.xs = [x']) (h2 : T'.ps = T.ps) (h3 : T'.sv = T.sv) (h4 : T'.handler = T.handler) (h5 : T'.lock = T.lock) : e = .returned val ∧ One W' base g x' p T'.place ∧ Fr base W W' :=
  have h8 := h.post hp h1 h2 h3 h4 h5
  ⟨h8.1, h8.2.1, h8.2.2, h.at_.tab.kty hp.2.2⟩
theorem one_fire2 (h : One W base g x p pl) (k now : Int) (hn : now ≠ -1 ∧ dueX x p k = now) (hp : 0 ≤ pl ∧ pl < 4611686018427387904) (hm : 0 ≤ x.miss ∧ x.miss < 4611686018427387904) :
    Calls Try.prog 15 #[.pointer (some ⟨g, 0, none⟩), .int .i64 1, .int .i64 k, .int .i64 now] W fun e w' => e = .returned (.bool true) ∧ One w' base g (x.fired p pl k now) p (placeFired x pl k) ∧ Fr base W w' := by
  obtain ⟨T, q, h⟩ := h
  refine (fire_yes k now W base g T q 0 x p h.at_ hn (by rw [h.place]; exact hp) hm).mono fun e w' hq => ?_
  unfold PS.fired placeFired
  have e0 := h.place
  unfold Tb.fire at hq
  by_cases h1 : k = 1
  · rw [if_pos h1, if_pos h1]
    rw [if_pos h1] at hq
    have := h.post2 hq (x' := x.missed) (by unfold Tb.put; simp [h.xs]) rfl rfl rfl rfl
    rwa [show (T.put 0 x.missed).place = pl from e0] at this
  · rw [if_neg h1, if_neg h1]
    rw [if_neg h1] at hq
    by_cases h2 : k = 2
    · rw [if_pos h2, if_pos h2]
      rw [if_pos h2] at hq
      unfold Tb.begin_ at hq
      by_cases h3 : x.st = 3
      · rw [if_pos h3, if_pos h3]
        rw [if_pos h3] at hq
        have := h.post2 hq (x' := { (x.fresh p now).enter 1 with pl := T.place }) (by unfold Tb.enter Tb.take Tb.put; simp [h.xs]) rfl rfl rfl rfl
        rw [show (T.enter 0 (x.fresh p now) 1).place = T.place + 1 from rfl, e0] at this
        exact this
      · rw [if_neg h3, if_neg h3]
        rw [if_neg h3] at hq
        have := h.post2 hq (x' := { x with late := true }) (by unfold Tb.put; simp [h.xs]) rfl rfl rfl rfl
        rwa [show (T.put 0 { x with late := true }).place = pl from e0] at this
    · rw [if_neg h2, if_neg h2]
      rw [if_neg h2] at hq
      have := h.post2 hq (x' := { x.late0.enter 1 with pl := T.place }) (by unfold Tb.enter Tb.take Tb.put; simp [h.xs]) rfl rfl rfl rfl
      rw [show (T.enter 0 x.late0 1).place = T.place + 1 from rfl, e0] at this
      exact this
theorem one_period2 (h : One W base g x p pl) (now : Int) (hs : x.st = 1) (hpp : p.period ≠ 0) (ht : 0 ≤ now ∧ now < 1099511627776) (hr : x.rel ≤ now) (hp : 0 ≤ pl ∧ pl < 4611686018427387904) :
    Calls Try.prog 21 #[.pointer (some ⟨g, 0, none⟩), .int .i64 1, .int .i64 now] W fun e w' => e = .returned (.bool true) ∧ One w' base g { x.period p now with pl := pl } p (pl + 1) ∧ Fr base W w' := by
  obtain ⟨T, q, h⟩ := h
  refine (period_yes now W base g T q 0 x p h.at_ ⟨hs, by rw [h.lock]; decide⟩ hpp ht hr (by rw [h.place]; exact hp)).mono fun e w' hq => ?_
  have := h.post2 hq (x' := { x.period p now with pl := T.place }) (by unfold Tb.periodT Tb.put; simp [h.xs]) rfl rfl rfl rfl
  rw [show (T.periodT 0 x p now).place = T.place + 1 from rfl, h.place] at this
  exact this
set_option maxHeartbeats 4000000 in
set_option maxRecDepth 100000 in
/-- The timers of a tick. -/
theorem fired_is (h : One W base g x p pl) (n : Int) (hp : 0 ≤ pl ∧ pl < 4611686018427387904) (hm : 0 ≤ x.miss ∧ x.miss < 4611686018427387903) :
    Calls Try.prog 18 #[.pointer (some ⟨g, 0, none⟩), .int .i64 n] W fun e w' => e = .returned (.tuple #[.bool (rB (x.m1 p n) p n), .bool (mB x p n)]) ∧ One w' base g (x.tick p pl n) p (plTick x p pl n) ∧ Fr base W w' := by
  have hlo := h.lo
  obtain ⟨M, hM⟩ : ∃ M, mB x p n = M := ⟨_, rfl⟩
  obtain ⟨x1, hx1⟩ : ∃ x1, x.m1 p n = x1 := ⟨_, rfl⟩
  obtain ⟨R, hR⟩ : ∃ R, rB x1 p n = R := ⟨_, rfl⟩
  have HD1 := Aside0.mk (one_due h 1 n)
  rw [show decide (n ≠ -1 ∧ dueX x p 1 = n) = M from hM] at HD1
  have HD2 := Aside0.mk (fun (w' : World) (ho : One w' base g x1 p pl) => one_due ho 2 n)
  rw [show decide (n ≠ -1 ∧ dueX x1 p 2 = n) = R from hR] at HD2
  have HF1 := Aside0.mk (show M = true → ∀ w', Below W.heap.size W w' → Calls Try.prog 15 #[.pointer (some ⟨g, 0, none⟩), .int .i64 1, .int .i64 1, .int .i64 n] w' fun e w'' => e = .returned (.bool true) ∧ One w'' base g x1 p pl ∧ Fr base W w'' from fun hm1 w' hb => by
    rw [hm1] at hM
    have h1 := of_decide_eq_true hM
    refine (one_fire2 (h.below hb) 1 n h1 hp ⟨hm.1, by omega⟩).mono fun e w'' hq => ⟨hq.1, ?_, (Fr.of hb hlo).trans hq.2.2⟩
    have e1 : x1 = x.missed := by rw [← hx1]; unfold PS.m1; rw [if_pos hM]
    rw [e1]
    exact hq.2.1)
  have HN1 := Aside0.mk (show M = false → ∀ w', Below W.heap.size W w' → One w' base g x1 p pl ∧ Fr base W w' from fun hm1 w' hb => by
    rw [hm1] at hM
    have e1 : x1 = x := by rw [← hx1]; unfold PS.m1; rw [if_neg (by rw [hM]; decide)]
    rw [e1]
    exact ⟨h.below hb, Fr.of hb hlo⟩)
  have hm1 : 0 ≤ x1.miss ∧ x1.miss < 4611686018427387904 := by
    rw [← hx1]
    unfold PS.m1 PS.missed
    split
    · dsimp only; omega
    · omega
  have HF2 := Aside0.mk (show R = true → ∀ w', One w' base g x1 p pl → Calls Try.prog 15 #[.pointer (some ⟨g, 0, none⟩), .int .i64 1, .int .i64 2, .int .i64 n] w' fun e w'' => e = .returned (.bool true) ∧ One w'' base g (x1.fired p pl 2 n) p (placeFired x1 pl 2) ∧ Fr base w' w'' from fun hr1 w' ho => by
    rw [hr1] at hR
    exact one_fire2 ho 2 n (of_decide_eq_true hR) hp hm1)
  obtain ⟨X, hX⟩ : ∃ X, x.tick p pl n = X := ⟨_, rfl⟩
  obtain ⟨P, hP⟩ : ∃ P, plTick x p pl n = P := ⟨_, rfl⟩
  have HX := Aside0.mk hX
  have HP := Aside0.mk hP
  unfold PS.tick at HX
  unfold plTick at HP
  rw [hx1, hR] at HX HP
  rw [hM, hX, hP]
  rw [hx1, hR]
  clear h hM hx1 hR hX hP hp hm hm1
  cases M with
  | false =>
    have HN := Aside0.mk (HN1.out rfl)
    cases R with
    | false =>
      go_enter Try.func18, Try.ntmps18
      go_wp2_with (first
        | (go_at_call 12; (with_reducible refine HD1.out.mono ?_); rintro e w1 ⟨rfl, hb⟩; have H1 := Aside0.mk (HN.out w1 hb); clear hb)
        | (go_at_call 12; (with_reducible refine (HD2.out _ H1.out.1).mono ?_); rintro e w2 ⟨rfl, hb⟩; have H2 := Aside0.mk (And.intro (H1.out.1.below hb) (H1.out.2.trans (Fr.of hb H1.out.1.lo))); clear hb))
      go_ret2
      have e1 := HX.out
      have e2 := HP.out
      rw [if_neg (by decide)] at e1 e2
      subst e1
      subst e2
      exact ⟨rfl, H2.out⟩
    | true =>
      have HF := Aside0.mk (HF2.out rfl)
      go_enter Try.func18, Try.ntmps18
      go_wp2_with (first
        | (go_at_call 12; (with_reducible refine HD1.out.mono ?_); rintro e w1 ⟨rfl, hb⟩; have H1 := Aside0.mk (HN.out w1 hb); clear hb)
        | (go_at_call 12; (with_reducible refine (HD2.out _ H1.out.1).mono ?_); rintro e w2 ⟨rfl, hb⟩; have H2 := Aside0.mk (And.intro (H1.out.1.below hb) (H1.out.2.trans (Fr.of hb H1.out.1.lo))); clear hb)
        | (go_at_call 15; (with_reducible refine (HF.out _ H2.out.1).mono ?_); rintro e w3 ⟨rfl, ho, hf⟩; have H3 := Aside0.mk (And.intro ho (H2.out.2.trans hf)); clear ho hf))
      go_ret2
      have e1 := HX.out
      have e2 := HP.out
      rw [if_pos trivial] at e1 e2
      subst e1
      subst e2
      exact ⟨rfl, H3.out⟩
  | true =>
    have HG := Aside0.mk (HF1.out rfl)
    cases R with
    | false =>
      go_enter Try.func18, Try.ntmps18
      go_wp2_with (first
        | (go_at_call 12; (with_reducible refine HD1.out.mono ?_); rintro e w0 ⟨rfl, hb⟩; have H0 := Aside0.mk hb; clear hb)
        | (go_at_call 15; (with_reducible refine (HG.out _ H0.out).mono ?_); rintro e w1 ⟨rfl, hq⟩; have H1 := Aside0.mk hq; clear hq)
        | (go_at_call 12; (with_reducible refine (HD2.out _ H1.out.1).mono ?_); rintro e w2 ⟨rfl, hb⟩; have H2 := Aside0.mk (And.intro (H1.out.1.below hb) (H1.out.2.trans (Fr.of hb H1.out.1.lo))); clear hb))
      go_ret2
      have e1 := HX.out
      have e2 := HP.out
      rw [if_neg (by decide)] at e1 e2
      subst e1
      subst e2
      exact ⟨rfl, H2.out⟩
    | true =>
      have HF := Aside0.mk (HF2.out rfl)
      go_enter Try.func18, Try.ntmps18
      go_wp2_with (first
        | (go_at_call 12; (with_reducible refine HD1.out.mono ?_); rintro e w0 ⟨rfl, hb⟩; have H0 := Aside0.mk hb; clear hb)
        | (go_at_call 15; (with_reducible refine (HG.out _ H0.out).mono ?_); rintro e w1 ⟨rfl, hq⟩; have H1 := Aside0.mk hq; clear hq)
        | (go_at_call 12; (with_reducible refine (HD2.out _ H1.out.1).mono ?_); rintro e w2 ⟨rfl, hb⟩; have H2 := Aside0.mk (And.intro (H1.out.1.below hb) (H1.out.2.trans (Fr.of hb H1.out.1.lo))); clear hb)
        | (go_at_call 15; (with_reducible refine (HF.out _ H2.out.1).mono ?_); rintro e w3 ⟨rfl, ho, hf⟩; have H3 := Aside0.mk (And.intro ho (H2.out.2.trans hf)); clear ho hf))
      go_ret2
      have e1 := HX.out
      have e2 := HP.out
      rw [if_pos trivial] at e1 e2
      subst e1
      subst e2
      exact ⟨rfl, H3.out⟩
end
/-- A job by the rule, in memory. -/
def WdAt (W : World) (gw : Nat) (w : WD) : Prop := W.heap[gw]? = some (.cells #[.int .i64 w.rel, .int .i64 w.miss, .bool w.done, .bool w.late, .bool w.over] 55 (0, 0))
theorem WdAt.one {W w' : World} {gw base g : Nat} {w : WD} {x : PS} {p : PD} {pl : Int} (h : WdAt W gw w) (k : TK W w' gw ⟨none, 0, 0⟩) (ho : One W base g x p pl) : One w' base g x p pl := by
  obtain ⟨T, q, h0⟩ := ho
  refine ⟨T, q, ⟨⟨h0.at_.tab.move fun b cs ty hc _ ht => ?_, h0.at_.a, h0.at_.x, h0.at_.p, h0.at_.n⟩, h0.xs, h0.ps, h0.handler, h0.lock, h0.place⟩⟩
  refine k.block b (blk_lt hc) (fun e => ?_) (fun e => by cases e)
  rw [e] at hc
  have := ty_eq hc h
  subst this
  rcases ht with h | h | h | h <;> exact absurd h (by decide)
theorem WdAt.kty {W w' : World} {gw : Nat} {w : WD} (h : WdAt W gw w) (k : KTy W w') : WdAt w' gw w := (k gw _ _ h (by decide) (by decide)).trans h
set_option maxHeartbeats 8000000 in
set_option maxRecDepth 100000 in
/-- The world behind the timers of a tick. -/
theorem at_is (w : WD) (now per lim : Int) (W : World) (gw : Nat) (h : WdAt W gw w) (hr : 0 ≤ w.rel ∧ w.rel ≤ now) (hn : now ≤ 1099511627776) (hl : 0 ≤ lim ∧ lim ≤ 200) (hp : 1 ≤ per) (hm : 0 ≤ w.miss ∧ w.miss < 4611686018427387904) :
    Calls Try.prog 19 #[.pointer (some ⟨gw, 0, none⟩), .int .i64 now, .int .i64 per, .int .i64 lim] W fun e w' => e = .returned (.tuple #[]) ∧ WdAt w' gw (w.tick now per lim) ∧ TK W w' gw ⟨none, 0, 0⟩ := by
  have hu55 := Try.underlying55
  obtain ⟨rel, miss, done, late, over⟩ := w
  dsimp only at hr hm
  obtain ⟨w1, hw1⟩ : ∃ w1, WD.t1 ⟨rel, miss, done, late, over⟩ now lim = w1 := ⟨_, rfl⟩
  have hT : WD.tick ⟨rel, miss, done, late, over⟩ now per lim = w1.t2 now per := by unfold WD.tick; rw [hw1]
  rw [hT]
  have HW1 := Aside0.mk hw1
  unfold WdAt at h
  dsimp only at h
  have c0 := (blk_cell h 0).trans rfl
  have c1 := (blk_cell h 1).trans rfl
  have c2 := (blk_cell h 2).trans rfl
  have f1 := blk_frozen h 1
  have f4 := blk_frozen h 4
  have c4 := (blk_cell h 4).trans rfl
  have HB := Aside0.mk h
  have hwr : wrap64 (rel + lim) = rel + lim := wr64 _ (by omega)
  have hwr2 : IntKind.i64.wrap (rel + lim) = rel + lim := IntWalk.i64_in _ (by omega)
  have hwm : IntKind.i64.wrap (miss + 1) = miss + 1 := IntWalk.i64_in _ (by omega)
  have hwm2 : wrap64 (miss + 1) = miss + 1 := wr64 _ (by omega)
  obtain ⟨hr0, hr1⟩ := hr
  obtain ⟨hl0, hl1⟩ := hl
  clear h hT hw1 hm
  go_enter Try.func19, Try.ntmps19
  obtain ⟨C1, hC1⟩ : ∃ C1, decide (done = false ∧ 0 < lim ∧ now = rel + lim) = C1 := ⟨_, rfl⟩
  have HC1 := Aside0.mk hC1
  clear hC1
  go_upto_region 0 with (fail)
  go_cut [26] (fun v w' => v = .bool C1 ∧ w' = W)
  case first =>
    cases done with
    | true =>
      have e := HC1.out
      rw [decide_eq_false (fun h => by cases h.1)] at e
      subst e
      go_wp2
      go_meet
      exact ⟨rfl, rfl⟩
    | false =>
      by_cases h1 : 0 < lim
      · by_cases h2 : now = rel + lim
        · have e := HC1.out
          rw [decide_eq_true ⟨rfl, h1, h2⟩] at e
          subst e
          have q : (now == rel + lim) = true := by rw [beq_iff_eq]; exact h2
          clear h2
          go_wp2
          go_meet
          exact ⟨rfl, rfl⟩
        · have e := HC1.out
          rw [decide_eq_false (fun h => h2 h.2.2)] at e
          subst e
          have q : (now == rel + lim) = false := by rw [beq_eq_false_iff_ne]; exact h2
          clear h2
          go_wp2
          go_meet
          exact ⟨rfl, rfl⟩
      · have e := HC1.out
        rw [decide_eq_false (fun h => h1 h.2.1)] at e
        subst e
        go_wp2
        go_meet
        exact ⟨rfl, rfl⟩
  case rest =>
    obtain ⟨rfl, rfl⟩ := hcut
    go_upto_if 26 with (fail)
    go_cut [] (fun w' => Aside0 (WdAt w' gw w1) ∧ Aside0 (TK wc w' gw ⟨none, 0, 0⟩))
    case first =>
      cases C1 with
      | true =>
        have e := HW1.out
        have hc := of_decide_eq_true HC1.out
        unfold WD.t1 at e
        rw [if_pos hc] at e
        have E := Aside0.mk e
        clear e hc HW1 HC1
        go_wp2
        go_meet
        rw [← E.out]
        exact ⟨⟨blk_put (blk_put HB.out 1 _ rfl) 4 _ rfl⟩, ⟨(TK.refl.setG _ _).setG _ _⟩⟩
      | false =>
        have e := HW1.out
        have hc := of_decide_eq_false HC1.out
        unfold WD.t1 at e
        rw [if_neg hc] at e
        have E := Aside0.mk e
        clear e hc HW1 HC1
        go_wp2
        go_meet
        rw [← E.out]
        exact ⟨⟨HB.out⟩, ⟨TK.refl⟩⟩
    case rest =>
      clear c0 c1 c2 c4 f1 f4 HB hwr hwr2 hwm hwm2
      obtain ⟨HB, HK⟩ := hcut
      have hrel : w1.rel = rel := by rw [← HW1.out]; unfold WD.t1; split <;> rfl
      clear HW1
      obtain ⟨rel1, miss1, done1, late1, over1⟩ := w1
      dsimp only at hrel
      subst hrel
      have h := HB.out
      unfold WdAt at h
      dsimp only at h
      have c0 := (blk_cell h 0).trans rfl
      have c2 := (blk_cell h 2).trans rfl
      have c3 := (blk_cell h 3).trans rfl
      have c4 := (blk_cell h 4).trans rfl
      have f0 := blk_frozen h 0
      have f2 := blk_frozen h 2
      have f3 := blk_frozen h 3
      have f4 := blk_frozen h 4
      have hwd : wrap64 (now - rel1) = now - rel1 := wr64 _ (by omega)
      have hwd2 : IntKind.i64.wrap (now - rel1) = now - rel1 := IntWalk.i64_in _ (by omega)
      obtain ⟨C2, hC2⟩ : ∃ C2, decide (rel1 < now ∧ (now - rel1).tmod per = 0) = C2 := ⟨_, rfl⟩
      have HC2 := Aside0.mk hC2
      clear hC2 h
      have hpn : per ≠ 0 := by omega
      go_upto_region 3 with (fail)
      go_cut [53] (fun v w' => v = .bool C2 ∧ w' = wc)
      case first =>
        by_cases h1 : rel1 < now
        · by_cases h2 : (now - rel1).tmod per = 0
          · have e := HC2.out
            rw [decide_eq_true ⟨h1, h2⟩] at e
            subst e
            have q : ((now - rel1) % per == 0) = true := by rw [beq_iff_eq, ← Int.tmod_eq_emod_of_nonneg (by omega)]; exact h2
            clear h2
            go_wp2
            go_meet
            exact ⟨rfl, rfl⟩
          · have e := HC2.out
            rw [decide_eq_false (fun h => h2 h.2)] at e
            subst e
            have q : ((now - rel1) % per == 0) = false := by rw [beq_eq_false_iff_ne, ← Int.tmod_eq_emod_of_nonneg (by omega)]; exact h2
            clear h2
            go_wp2
            go_meet
            exact ⟨rfl, rfl⟩
        · have e := HC2.out
          rw [decide_eq_false (fun h => h1 h.1)] at e
          subst e
          go_wp2
          go_meet
          exact ⟨rfl, rfl⟩
      case rest =>
        obtain ⟨rfl, rfl⟩ := hcut
        clear hwd hwd2
        cases C2 with
        | true =>
          have hc := of_decide_eq_true HC2.out
          cases done1 with
          | true =>
            have E := Aside0.mk (show WD.t2 ⟨rel1, miss1, true, late1, over1⟩ now per = ⟨now, miss1, false, false, false⟩ by unfold WD.t2; rw [if_pos hc]; rfl)
            clear hc HC2
            go_wp2
            go_end0
            rw [E.out]
            exact ⟨rfl, blk_put (blk_put (blk_put (blk_put HB.out 0 _ rfl) 2 _ rfl) 3 _ rfl) 4 _ rfl, (((HK.out.setG _ _).setG _ _).setG _ _).setG _ _⟩
          | false =>
            have E := Aside0.mk (show WD.t2 ⟨rel1, miss1, false, late1, over1⟩ now per = ⟨rel1, miss1, false, true, over1⟩ by unfold WD.t2; rw [if_pos hc]; rfl)
            clear hc HC2
            go_wp2
            go_end0
            rw [E.out]
            exact ⟨rfl, blk_put HB.out 3 _ rfl, HK.out.setG _ _⟩
        | false =>
          have hc := of_decide_eq_false HC2.out
          have E := Aside0.mk (show WD.t2 ⟨rel1, miss1, done1, late1, over1⟩ now per = ⟨rel1, miss1, done1, late1, over1⟩ by unfold WD.t2; rw [if_neg hc])
          clear hc HC2
          go_wp2
          go_end0
          rw [E.out]
          exact ⟨rfl, HB.out, HK.out⟩
/-- Is the process as the world says? -/
def fitP (x : PS) (w : WD) (lim now : Int) : Prop := x.miss = w.miss ∧ x.rel = w.rel ∧ (w.done = false → x.late = w.late) ∧ (w.done = true → x.st = 3 ∧ x.dl = -1 ∧ now < x.un) ∧ (w.done = false → x.st = 1 ∧ x.dl = if 0 < lim ∧ w.over = false then w.rel + lim else -1)
set_option maxHeartbeats 8000000 in
set_option maxRecDepth 100000 in
theorem fits_is (w : WD) (st pr pl pc rel dl un : Int) (late : Bool) (ob ad : Int) (A : Option Addr) (n c : Nat) (miss : Int) (lim now : Int) (W : World) (gw : Nat) (h : WdAt W gw w) (hr : 0 ≤ w.rel ∧ w.rel ≤ 1099511627776) (hl : 0 ≤ lim ∧ lim ≤ 200)
    (h1 : miss = w.miss) (h2 : rel = w.rel) (h3 : w.done = false → late = w.late) (h4 : w.done = true → st = 3 ∧ dl = -1 ∧ now < un) (h5 : w.done = false → st = 1 ∧ dl = if 0 < lim ∧ w.over = false then w.rel + lim else -1) :
    Calls Try.prog 20 #[.pointer (some ⟨gw, 0, none⟩), .agg #[.int .i64 st, .int .i64 pr, .int .i64 pl, .int .i64 0, .int .i64 0, .int .i64 0, .int .i64 0, .int .i64 0, .int .i64 0, .int .i64 0, .int .i64 0, .int .i64 0, .int .i64 0, .int .i64 0, .int .i64 0, .int .i64 0, .int .i64 0, .int .i64 0, .int .i64 0, .int .i64 pc, .int .i64 rel, .int .i64 dl, .int .i64 un, .bool late, .int .i64 ob, .int .i64 ad, .slice A n c, .int .i64 miss], .int .i64 lim, .int .i64 now] W fun e w' => e = .returned (.bool true) ∧ Below W.heap.size W w' := by
  have hu55 := Try.underlying55
  have hu48 := Try.underlying48
  obtain ⟨wrel, wmiss, done, wlate, over⟩ := w
  dsimp only at hr h1 h2 h3 h4 h5
  subst h1
  subst h2
  unfold WdAt at h
  dsimp only at h
  have c0 := (blk_cell h 0).trans rfl
  have c1 := (blk_cell h 1).trans rfl
  have c2 := (blk_cell h 2).trans rfl
  have c3 := (blk_cell h 3).trans rfl
  have c4 := (blk_cell h 4).trans rfl
  have hlt : gw < W.heap.size := blk_lt h
  have hne : gw ≠ W.heap.size := by omega
  have hne2 : W.heap.size ≠ gw := by omega
  have hwr : wrap64 (rel + lim) = rel + lim := wr64 _ (by omega)
  have hwr2 : IntKind.i64.wrap (rel + lim) = rel + lim := IntWalk.i64_in _ (by omega)
  obtain ⟨hr0, hr1⟩ := hr
  obtain ⟨hl0, hl1⟩ := hl
  clear h
  cases done with
  | true =>
    obtain ⟨rfl, rfl, h6⟩ := h4 rfl
    clear h3 h4 h5
    go_enter Try.func20, Try.ntmps20
    go_wp2
    go_quiet (fail)
    go_wp2
    go_ret
    exact ⟨rfl, pw_below_drewN ((Below.refl _ _).alloc (Nat.le_refl _) _) _⟩
  | false =>
    obtain ⟨rfl, h6⟩ := h5 rfl
    obtain rfl := h3 rfl
    clear h3 h4 h5
    by_cases hc : 0 < lim
    · cases over with
      | true =>
        rw [if_neg (by rintro ⟨_, h⟩; cases h)] at h6
        subst h6
        go_enter Try.func20, Try.ntmps20
        go_wp2
        go_quiet (fail)
        go_wp2
        go_ret
        exact ⟨rfl, pw_below_drewN ((Below.refl _ _).alloc (Nat.le_refl _) _) _⟩
      | false =>
        rw [if_pos ⟨hc, rfl⟩] at h6
        subst h6
        go_enter Try.func20, Try.ntmps20
        go_wp2
        go_quiet (fail)
        go_wp2
        go_ret
        exact ⟨rfl, pw_below_drewN ((Below.refl _ _).alloc (Nat.le_refl _) _) _⟩
    · rw [if_neg (fun h => hc h.1)] at h6
      subst h6
      go_enter Try.func20, Try.ntmps20
      go_wp2
      go_quiet (fail)
      go_wp2
      go_ret
      exact ⟨rfl, pw_below_drewN ((Below.refl _ _).alloc (Nat.le_refl _) _) _⟩
end Go.Proofs.Ytfnlankpdnkmoaa.B
