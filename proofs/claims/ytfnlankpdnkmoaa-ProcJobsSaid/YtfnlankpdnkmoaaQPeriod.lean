/- Proved: the contracts of NextAt, of a job's end (Period) and of a table of one process there. Conditions: the table's length is that of a list; places are not beyond a half of all numbers. -/
import Derived.Test.YtfnlankpdnkmoaaQOne
namespace Go.Proofs.Ytfnlankpdnkmoaa.B
open Go.RowKit Go.Proofs.YtfnlankpdnkmoaaW.PrintWords Go.Proofs.YtfnlankpdnkmoaaW.PrintLast Go.Proofs.YtfnlankpdnkmoaaW.PrintMore

def nextAt (o p f : Int) : Int × Bool := if p < 1 ∨ o < 0 then (0, false) else if f ≤ o then (o, true) else if Int.tmod (wrap64 (f - o)) p = 0 then (f, true) else (mx (wrap64 ((wrap64 (f - (Int.tmod (wrap64 (f - o)) p))) + p)) 0, decide ((wrap64 ((wrap64 (f - (Int.tmod (wrap64 (f - o)) p))) + p)) > f))
theorem nextAt_is (o p f : Int) (W : World) : Calls Try.prog 45 #[.int .i64 o, .int .i64 p, .int .i64 f] W fun e w' => e = .returned (.tuple #[.int .i64 (nextAt o p f).1, .bool (nextAt o p f).2]) ∧ Below W.heap.size W w' := by
  refine num_NextAt.calls 1 o p f _ _ W ?_
  unfold num_NextAt.f nextAt
  by_cases h1 : p < 1
  · rw [if_pos h1, if_pos (.inl h1)]
    rfl
  · by_cases h2 : o < 0
    · rw [if_neg h1, if_pos (.inr h2), decide_eq_true h2]
      rfl
    · rw [if_neg h1, if_neg (by omega), decide_eq_false h2]
      simp only [num_NextAt.j0]
      rw [if_neg (by decide)]
      split
      · rfl
      · rw [if_neg (by omega)]
        split <;> rfl
/-- The tick of the next job. -/
def nextJob (o p f : Int) : Int := if (nextAt o p f).2 = true ∧ (0 ≤ (nextAt o p f).1 ∧ (nextAt o p f).1 < 1099511627776) then (nextAt o p f).1 else -1
def PS.period (x : PS) (p : PD) (now : Int) : PS := { x.enter 3 with dl := -1, un := nextJob x.rel p.period (wrap64 (now + 1)) }
def Tb.periodT (T : Tb) (i : Nat) (x : PS) (p : PD) (now : Int) : Tb := { T.put i { x.period p now with pl := T.place } with place := T.place + 1 }
set_option maxHeartbeats 4000000 in
set_option maxRecDepth 100000 in
theorem period_no (now : Int) (W : World) (base g : Nat) (T : Tb) (q i : Nat) (x : PS) (p : PD) (h : At W base g T q i x p) (hf : x.st ≠ 1) :
    Calls Try.prog 21 #[.pointer (some ⟨g, 0, none⟩), .int .i64 ((i : Int) + 1), .int .i64 now] W fun e w' => e = .returned (.bool false) ∧ W = w' := by
  have hu48 := Try.underlying48
  have HF := Aside0.mk (free_is W base g T q i x p h)
  rw [if_neg (fun h => hf h.1)] at HF
  clear h hf
  go_enter Try.func21, Try.ntmps21
  go_wp2_with (go_at_call 39; refine HF.out.mono ?_; rintro e w' ⟨rfl, rfl⟩)
  go_ret
  exact ⟨rfl, rfl⟩
set_option maxHeartbeats 8000000 in
set_option maxRecDepth 100000 in
theorem period_yes (now : Int) (W : World) (base g : Nat) (T : Tb) (q i : Nat) (x : PS) (p : PD) (h : At W base g T q i x p) (hf : x.st = 1 ∧ T.lock ≠ (i : Int) + 1) (hpp : p.period ≠ 0) (ht : 0 ≤ now ∧ now < 1099511627776) (hrel : x.rel ≤ now) (hp : 0 ≤ T.place ∧ T.place < 4611686018427387904) :
    Calls Try.prog 21 #[.pointer (some ⟨g, 0, none⟩), .int .i64 ((i : Int) + 1), .int .i64 now] W (TPost W base g T (T.periodT i x p now) (.bool true)) := by
  have hu48 := Try.underlying48
  have hu86 := Try.underlying86
  have hu28 := Try.underlying28
  have HF := Aside0.mk (free_is W base g T q i x p h)
  rw [if_pos hf] at HF
  have HT := Aside0.mk (fun (w' : World) => tick_is now w')
  rw [decide_eq_true ht] at HT
  have HP := Aside0.mk hp
  have HH := Aside0.mk h
  have hn := h.n
  have hi := h.hi
  obtain ⟨r, hrA, c0, -, -, c2, -⟩ := h.pcells
  have y20 := h.tab.r_rel h.a h.x
  have hne : q ≠ g := h.tab.ne h.a
  have hqr : q ≠ r := fun e => by
    obtain ⟨cs, hc⟩ := own_typed h.tab.st q (by unfold Sl.v; rw [h.a]; rfl)
    obtain ⟨cs2, hc2⟩ := own_typed h.tab.pr r (by unfold Sl.v; rw [hrA]; rfl)
    rw [← e] at hc2
    exact absurd (ty_eq hc hc2) (by decide)
  have HS := Aside0.mk (show ∀ w', Below W.heap.size W w' → w'.cell? ⟨g, 0, none⟩ = some (.slice (some ⟨r, 0, none⟩) T.xs.length T.pv.c) ∧ w'.cell? ⟨r, i * 6 + 2, none⟩ = some (.int .i64 p.period) ∧ w'.cell? ⟨q, i * 28 + 20, none⟩ = some (.int .i64 x.rel) from fun w' hb => by
    have h' := h.below hb
    obtain ⟨r', hrA', c0', -, -, c2', -⟩ := h'.pcells
    have : r' = r := by rw [hrA] at hrA'; injection hrA' with e; injection e with e; exact e.symm
    subst this
    exact ⟨c0', c2', h'.tab.r_rel h'.a h'.x⟩)
  have HE := Aside0.mk (fun (w' : World) (hb : Below W.heap.size W w') => enter_is w' base g T (h.below hb).tab q i x 3 h.a h.x hp)
  have hx1 : (T.enter i x 3).xs[i]? = some { x.enter 3 with pl := T.place } := by unfold Tb.enter Tb.take; exact T.put_at i _ h.hi
  have hA1 : (T.enter i x 3).sv.A = some ⟨q, 0, none⟩ := h.a
  have hp1 : (T.enter i x 3).ps[i]? = some p := h.p
  have hl1 : (T.enter i x 3).xs.length = T.xs.length := by unfold Tb.enter Tb.take; exact T.put_len i _
  have HX := Aside0.mk (show ∀ w1, TabAt w1 base g (T.enter i x 3) → TK W w1 g T.sv →
      (w1.cell? ⟨q, i * 28 + 21, none⟩ = some (.int .i64 x.dl) ∧ w1.frozen? ⟨q, i * 28 + 21, none⟩ = false) ∧
      ∀ w4, w1.setCell ⟨q, i * 28 + 21, none⟩ (.int .i64 (-1)) = w4 → ∀ w2, Below w4.heap.size w4 w2 → Below w4.heap.size w4 w2 ∧
        (w2.cell? ⟨g, 0, none⟩ = some (.slice (some ⟨r, 0, none⟩) T.xs.length T.pv.c) ∧ w2.cell? ⟨r, i * 6 + 2, none⟩ = some (.int .i64 p.period) ∧ w2.cell? ⟨q, i * 28 + 20, none⟩ = some (.int .i64 x.rel)) ∧
        (w2.cell? ⟨q, i * 28 + 22, none⟩ = some (.int .i64 (-1)) ∧ w2.frozen? ⟨q, i * 28 + 22, none⟩ = false) ∧
        (∀ u, TabAt (w2.setCell ⟨q, i * 28 + 22, none⟩ (.int .i64 u)) base g { T.put i { { x.enter 3 with dl := -1, un := u } with pl := T.place } with place := T.place + 1 } ∧ TK W (w2.setCell ⟨q, i * 28 + 22, none⟩ (.int .i64 u)) g T.sv) ∧
        TabAt w2 base g { T.put i { { x.enter 3 with dl := -1, un := -1 } with pl := T.place } with place := T.place + 1 } ∧ TK W w2 g T.sv from fun w1 h1 k1 => by
    have ha : At w1 base g (T.enter i x 3) q i { x.enter 3 with pl := T.place } p := ⟨h1, hA1, hx1, hp1, by rw [hl1]; exact h.n⟩
    have hi2 : i < (T.enter i x 3).xs.length := ha.hi
    have g1 := h1.r_dl hA1 hx1
    refine ⟨⟨g1, h1.frz hA1 _⟩, fun w4 hw4 w2 hb => ?_⟩
    subst hw4
    have t1 := h1.w_dl hA1 hx1 (-1)
    have t2 := t1.below hb
    have hx2 := Tb.put_at (T.enter i x 3) i { { x.enter 3 with pl := T.place } with dl := -1 } hi2
    have hb2 : At w2 base g ((T.enter i x 3).put i { { x.enter 3 with pl := T.place } with dl := -1 }) q i { { x.enter 3 with pl := T.place } with dl := -1 } p := ⟨t2, hA1, hx2, hp1, by rw [Tb.put_len, hl1]; exact h.n⟩
    obtain ⟨r', hrA', c0', -, -, c2', -⟩ := hb2.pcells
    have hrA2 : T.pv.A = some ⟨r', 0, none⟩ := hrA'
    have : r' = r := by rw [hrA] at hrA2; injection hrA2 with e; injection e with e; exact e.symm
    subst this
    rw [Tb.put_len, hl1] at c0'
    have k2 : TK W w2 g T.sv := (k1.setS h.a (i * 28 + 21) (.int .i64 (-1))).trans (TK.of_below hb)
    have e1 : ∀ u, (T.enter i x 3).put i { { { x.enter 3 with pl := T.place } with dl := -1 } with un := u } = { T.put i { { x.enter 3 with dl := -1, un := u } with pl := T.place } with place := T.place + 1 } := fun u => by
      unfold Tb.enter Tb.take Tb.put
      simp
    have g2 := t2.r_rel hA1 hx2
    refine ⟨hb, ⟨c0', c2', g2⟩, ⟨t2.r_un hA1 hx2, t2.frz hA1 _⟩, fun u => ?_, ?_, k2⟩
    · have t3 := t2.w_un hA1 hx2 u
      rw [Tb.put_put, e1] at t3
      exact ⟨t3, k2.setS h.a (i * 28 + 22) (.int .i64 u)⟩
    · rw [← e1]
      exact t2)
  have HNA := Aside0.mk (fun (w' : World) => nextAt_is x.rel p.period (wrap64 (now + 1)) w')
  obtain ⟨J, hJ⟩ : ∃ J, nextJob x.rel p.period (wrap64 (now + 1)) = J := ⟨_, rfl⟩
  have hV : T.periodT i x p now = { T.put i { { x.enter 3 with dl := -1, un := J } with pl := T.place } with place := T.place + 1 } := by rw [← hJ]; rfl
  rw [hV]
  have HJ := Aside0.mk hJ
  clear hV hx1 hA1 hp1 hl1 h hp hrA hJ
  unfold nextJob at HJ
  generalize nextAt x.rel p.period (wrap64 (now + 1)) = na at *
  obtain ⟨N, ok⟩ := na
  obtain ⟨fT, hfT⟩ : ∃ fT : Int → Tb, (fun u => { T.put i { { x.enter 3 with dl := -1, un := u } with pl := T.place } with place := T.place + 1 }) = fT := ⟨_, rfl⟩
  have hfT2 : ∀ u, { T.put i { { x.enter 3 with dl := -1, un := u } with pl := T.place } with place := T.place + 1 } = fT u := fun u => by rw [← hfT]
  rw [hfT2 J]
  simp only [hfT2] at HX
  have HT2 := Aside0.mk (fun (w' : World) => tick_is N w')
  obtain ⟨B, hB⟩ : ∃ B, decide (0 ≤ N ∧ N < 1099511627776) = B := ⟨_, rfl⟩
  rw [hB] at HT2
  have HBB := Aside0.mk hB
  generalize x.rel = R at *
  generalize p.period = P at *
  generalize T.xs.length = n at *
  have qp : (P == 0) = false := by rw [beq_eq_false_iff_ne]; exact hpp
  obtain ⟨ht0, ht1⟩ := ht
  have hw1 : wrap64 (now + 1) = now + 1 := by unfold wrap64; omega
  rw [hw1] at HNA
  clear hf hw1 hfT hfT2 hB
  go_enter Try.func21, Try.ntmps21
  go_wp2_with (first
    | (go_at_call 39; refine HF.out.mono ?_; rintro e w' ⟨rfl, rfl⟩)
    | (go_at_call 36; refine (HT.out _).mono ?_; rintro e w1 ⟨rfl, hd⟩; have HB1 := Aside0.mk (Drawn0.below hd); obtain ⟨d0, d1, d2⟩ := HS.out w1 HB1.out; clear hd)
    | (go_at_call 38; refine (HE.out _ HB1.out).mono ?_; rintro e w3 ⟨rfl, ht3, hk3⟩; obtain ⟨⟨z1, z2⟩, hx⟩ := HX.out w3 ht3 ((TK.of_below HB1.out).trans hk3); have HX3 := Aside0.mk hx; clear ht3 hk3 hx))
  generalize hw4 : w3.setCell ⟨q, i * 28 + 21, none⟩ (.int .i64 (-1)) = w4
  have HY := Aside0.mk (HX3.out w4 hw4)
  have HSS := Aside0.mk (show ∀ w', Below w4.heap.size w4 w' → Below w4.heap.size w4 w' ∧ w'.cell? ⟨g, 0, none⟩ = some (.slice (some ⟨r, 0, none⟩) n T.pv.c) ∧ w'.cell? ⟨r, i * 6 + 2, none⟩ = some (.int .i64 P) ∧ w'.cell? ⟨q, i * 28 + 20, none⟩ = some (.int .i64 R) from fun w' hb => ⟨hb, (HY.out w' hb).2.1⟩)
  clear hw4 HX3 z1 z2 d0 d1 d2 HB1 HS HE HX c0 c2 y20 HF HH HP
  have hD := HSS.out _ (Below.refl _ w4)
  have hw1 : IntKind.i64.wrap ((i : Int) + 1 - 1) = (i : Int) := by rw [show (i : Int) + 1 - 1 = i by omega]; exact IntWalk.i64_in _ (by omega)
  have hw2 : IntKind.i64.wrap (i : Int) = (i : Int) := IntWalk.i64_in _ (by omega)
  have hw3 : (i : Int) + 1 - 1 = (i : Int) := by omega
  have hi0 : 0 ≤ (i : Int) := by omega
  have hi1 : (i : Int) < (n : Int) := by omega
  have hw5 : IntKind.i64.wrap (now + 1) = now + 1 := IntWalk.i64_in _ (by omega)
  go_region_held3 (fun w' => Below w4.heap.size w4 w' ∧ w'.cell? ⟨g, 0, none⟩ = some (.slice (some ⟨r, 0, none⟩) n T.pv.c) ∧ w'.cell? ⟨r, i * 6 + 2, none⟩ = some (.int .i64 P) ∧ w'.cell? ⟨q, i * 28 + 20, none⟩ = some (.int .i64 R))
    (first | exact HSS.out _ (below_drew1 (Below.refl _ _)) | exact HSS.out _ (And.left (by assumption)) | exact HSS.out _ ((below_drew1 (Below.refl _ _)).trans (HB5.out.mono (Nat.le_refl _))))
    (first | (go_at_call 45; refine (HNA.out _).mono ?_; rintro e w5 ⟨rfl, hb⟩; have HB5 := Aside0.mk hb; clear hb))
  have HB := Aside0.mk ((below_drew1 (Below.refl w4.heap.size w4)).trans (HB5.out.mono (Nat.le_refl _)))
  clear HSS HNA HB5 hD hw1 hw2 hw3 hw5 HT
  cases ok with
  | false =>
    have HE := Aside0.mk (show J = -1 by rw [← HJ.out]; rfl)
    go_wp2
    go_ret
    obtain ⟨-, -, -, -, h1, h2⟩ := HY.out w5 HB.out
    exact ⟨rfl, by rw [HE.out]; exact h1, h2⟩
  | true =>
    cases B with
    | false =>
      have HE := Aside0.mk (show J = -1 by rw [← HJ.out, if_neg (fun h => of_decide_eq_false HBB.out h.2)])
      go_wp2_with (go_at_call 36; refine (HT2.out _).mono ?_; rintro e w6 ⟨rfl, hd⟩; have HB6 := Aside0.mk (HB.out.trans ((Drawn0.below hd).mono HB.out.size)); clear hd)
      go_ret
      obtain ⟨-, -, -, -, h1, h2⟩ := HY.out w6 HB6.out
      exact ⟨rfl, by rw [HE.out]; exact h1, h2⟩
    | true =>
      have HE := Aside0.mk (show J = N by rw [← HJ.out, if_pos ⟨rfl, of_decide_eq_true HBB.out⟩])
      go_wp2_with (go_at_call 36; refine (HT2.out _).mono ?_; rintro e w6 ⟨rfl, hd⟩; have HB6 := Aside0.mk (HB.out.trans ((Drawn0.below hd).mono HB.out.size)); obtain ⟨-, -, ⟨z1, z2⟩, hfin, -⟩ := HY.out w6 HB6.out; have HFIN := Aside0.mk hfin; clear hd hfin)
      go_ret
      exact ⟨rfl, by rw [HE.out]; exact (HFIN.out N).1, (HFIN.out N).2⟩
section
variable {W : World} {base g : Nat} {x : PS} {p : PD} {pl : Int}
theorem one_period_no (h : One W base g x p pl) (now : Int) (hs : x.st ≠ 1) :
    Calls Try.prog 21 #[.pointer (some ⟨g, 0, none⟩), .int .i64 1, .int .i64 now] W fun e w' => e = .returned (.bool false) ∧ W = w' := by
  obtain ⟨T, q, h⟩ := h
  exact period_no now W base g T q 0 x p h.at_ hs
theorem one_period (h : One W base g x p pl) (now : Int) (hs : x.st = 1) (hpp : p.period ≠ 0) (ht : 0 ≤ now ∧ now < 1099511627776) (hr : x.rel ≤ now) (hp : 0 ≤ pl ∧ pl < 4611686018427387904) :
    Calls Try.prog 21 #[.pointer (some ⟨g, 0, none⟩), .int .i64 1, .int .i64 now] W fun e w' => e = .returned (.bool true) ∧ One w' base g { x.period p now with pl := pl } p (pl + 1) ∧ Below base W w' := by
  obtain ⟨T, q, h⟩ := h
  refine (period_yes now W base g T q 0 x p h.at_ ⟨hs, by rw [h.lock]; decide⟩ hpp ht hr (by rw [h.place]; exact hp)).mono fun e w' hq => ?_
  have := h.post hq (x' := { x.period p now with pl := T.place }) (by unfold Tb.periodT Tb.put; simp [h.xs]) rfl rfl rfl rfl
  rw [show (T.periodT 0 x p now).place = T.place + 1 from rfl, h.place] at this
  exact this
end
end Go.Proofs.Ytfnlankpdnkmoaa.B
