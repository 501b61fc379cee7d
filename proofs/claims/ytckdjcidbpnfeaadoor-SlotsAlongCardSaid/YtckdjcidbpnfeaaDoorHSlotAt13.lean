/- Proved: slots.find and slots.At at a table that goes tell the occupant of the tick and the slot's end. Conditions: the table goes (its parts' slots have ticks, occupants that may be, no two beside one another alike; both parts have the same length). -/
import Derived.Test.YtckdjcidbpnfeaaDoorHMake13
import Derived.Test.YtckdjcidbpnfeaaDoorBx2
import Derived.Deep.RegionHeld3
namespace Go.Proofs.YtckdjcidbpnfeaaDoor.B
open Go.RowKit Go.Shelf Go.Proofs.YtckdjcidbpnfeaaDoorW.PrintWords Go.Proofs.YtckdjcidbpnfeaaDoorW.PrintLast Go.Proofs.YtckdjcidbpnfeaaDoorW.PrintMore

theorem rdS (P : List (Nat × Nat)) (i : Nat) (h : i < P.length) : rd_T72 (P.map toS) (i : Int) = toS (P[i]) := by
  unfold rd_T72
  rw [Int.toNat_natCast, List.getD_eq_getElem?_getD, List.getElem?_map, List.getElem?_eq_getElem h]; rfl
theorem tot_take_succ (l : List (Nat × Nat)) (i : Nat) (h : i < l.length) : tot (l.take (i + 1)) = tot (l.take i) + (l[i]).1 := by
  rw [List.take_succ_eq_append_getElem h, tot_append]; simp [tot]
theorem tot_take_le (l : List (Nat × Nat)) (i : Nat) : tot (l.take i) ≤ tot l := by
  have := tot_append (l.take i) (l.drop i)
  rw [List.take_append_drop] at this
  omega
theorem add_plain (a b : Nat) (hb : 1 ≤ b) (h : a + b ≤ 4194304) : num_Add.f (a : Int) (b : Int) = some (((a + b : Nat) : Int), true) := by
  have e : wrap64 ((a : Int) + (b : Int)) = ((a + b : Nat) : Int) := by unfold wrap64; omega
  unfold num_Add.f
  rw [e, decide_eq_true (show ((a + b : Nat) : Int) > (a : Int) by omega), decide_eq_true (show (b : Int) > 0 by omega)]
  rfl
theorem length_from (P : List (Nat × Nat)) (hG : Goes 32 P) (ht : tot P ≤ 1048576) (hl : P.length ≤ 1048576) : ∀ (d i k : Nat), i + d = P.length → 2 * d < k → slots_length.l0 k (P.map toS) ((tot (P.take i) : Nat) : Int) (P.map toS) ((P.length : Nat) : Int) (i : Int) = some ((tot P : Nat) : Int) := by
  intro d
  induction d with
  | zero =>
    intro i k hi hk
    obtain ⟨k, rfl⟩ : ∃ m, k = m + 1 := ⟨k - 1, by omega⟩
    simp only [slots_length.l0]
    rw [if_neg (by omega), List.take_of_length_le (by omega)]
  | succ d ih =>
    intro i k hi hk
    obtain ⟨k, rfl⟩ : ∃ m, k = m + 1 + 1 := ⟨k - 2, by omega⟩
    have hil : i < P.length := by omega
    obtain ⟨g1, g2, g3⟩ := goes_at 32 P i (P[i]) hG (List.getElem?_eq_getElem hil)
    have hts := tot_take_succ P i hil
    have htl := tot_take_le P (i + 1)
    have f0 : (toS (P[i])).f0 = ((P[i]).1 : Int) := rfl
    have f1 : (toS (P[i])).f1 = ((P[i]).2 : Int) := rfl
    have fin : ∀ b : Bool, b = false → slots_length.j1 (k + 1) (P.map toS) ((tot (P.take i) : Nat) : Int) (P.map toS) ((P.length : Nat) : Int) (i : Int) b ((P[i]).1 : Int) ((P[i]).2 : Int) = some ((tot P : Nat) : Int) := by
      intro b hb
      subst hb
      simp only [slots_length.j1]
      rw [if_neg (by decide), add_plain _ _ g1 (by omega)]
      simp only [Option.bind_some]
      rw [if_pos trivial, if_neg (by omega), show wrap64 ((i : Int) + 1) = ((i + 1 : Nat) : Int) by unfold wrap64; omega, ← hts]
      exact ih (i + 1) k (by omega) (by omega)
    rw [slots_length.l0]
    rw [if_pos (by omega), if_pos (by omega), if_pos (by simp; omega), rdS P i hil, f0, f1, if_neg (by omega), if_neg (by omega), if_neg (by omega)]
    by_cases h0 : (i : Int) > 0
    · have e : wrap64 ((i : Int) - 1) = ((i - 1 : Nat) : Int) := by unfold wrap64; omega
      rw [if_pos h0, e, if_pos (by omega), if_pos (by simp; omega), rdS P (i - 1) (by omega)]
      refine fin _ ?_
      rw [beq_eq_false_iff_ne]
      intro hq
      have hq' : ((P[i - 1]'(by omega)).2 : Int) = ((P[i]).2 : Int) := hq
      obtain ⟨_, _, g4⟩ := goes_at 32 P (i - 1) (P[i - 1]'(by omega)) hG (List.getElem?_eq_getElem (by omega))
      refine g4 (P[i]) ?_ (by omega)
      rw [show i - 1 + 1 = i by omega]; exact List.getElem?_eq_getElem hil
    · rw [if_neg h0]
      exact fin _ rfl
theorem length_goes (P : List (Nat × Nat)) (hG : Goes 32 P) (ht : tot P ≤ 1048576) (hl : P.length ≤ 1048576) (k : Nat) (hk : 2 * P.length < k) : slots_length.f k (P.map toS) = some ((tot P : Nat) : Int) := by
  unfold slots_length.f
  rw [List.length_map]
  exact length_from P hG ht hl P.length 0 k (by omega) hk
theorem goes_len (n : Nat) : ∀ P, Goes n P → P.length ≤ tot P
  | [], _ => Nat.le_refl _
  | p :: l, ⟨h1, _, _, h4⟩ => by
    have := goes_len n l h4
    show l.length + 1 ≤ p.1 + tot l
    omega

/-- A table that goes. -/
structure Table (P C : List (Nat × Nat)) (h : Nat) : Prop where
  gp : Goes 32 P
  gc : Goes 32 C
  tp : tot P = h
  tc : tot C = h
  h1 : 1 ≤ h
  h2 : h ≤ 1048576
theorem Table.lp {P C : List (Nat × Nat)} {h : Nat} (t : Table P C h) : P.length ≤ 1048576 := Nat.le_trans (goes_len 32 P t.gp) (by have := t.tp; have := t.h2; omega)
theorem Table.lc {P C : List (Nat × Nat)} {h : Nat} (t : Table P C h) : C.length ≤ 1048576 := Nat.le_trans (goes_len 32 C t.gc) (by have := t.tc; have := t.h2; omega)
theorem valid_goes {P C : List (Nat × Nat)} {h : Nat} (t : Table P C h) : slots_Valid.f 4194304 (P.map toS) (C.map toS) = some 0 := by
  unfold slots_Valid.f
  have h1 := t.lp
  have h2 := t.lc
  rw [length_goes P t.gp (by rw [t.tp]; exact t.h2) t.lp 4194304 (by omega), length_goes C t.gc (by rw [t.tc]; exact t.h2) t.lc 4194304 (by omega)]
  simp only [Option.bind_some]
  have := t.tp
  have := t.tc
  have := t.h1
  rw [if_neg (by omega), if_pos (by omega)]

/-- Where the slot of an offset ends. -/
def endAt : List (Nat × Nat) → Nat → Nat
  | [], _ => 0
  | p :: l, j => if j < p.1 then p.1 else p.1 + endAt l (j - p.1)
theorem endAt_drop : ∀ (l : List (Nat × Nat)) (i : Nat) (p : Nat × Nat) (j : Nat), l[i]? = some p → tot (l.take i) ≤ j → j < tot (l.take i) + p.1 → endAt l j = tot (l.take i) + p.1
  | [], i, p, j, h, _, _ => by simp at h
  | q :: l, 0, p, j, h, h1, h2 => by
    simp at h; subst h
    simp [tot] at h2
    show (if j < q.1 then q.1 else _) = _
    rw [if_pos h2]; simp [tot]
  | q :: l, i + 1, p, j, h, h1, h2 => by
    have e : tot ((q :: l).take (i + 1)) = q.1 + tot (l.take i) := rfl
    rw [e] at h1 h2 ⊢
    show (if j < q.1 then q.1 else q.1 + endAt l (j - q.1)) = _
    rw [if_neg (by omega), endAt_drop l i p (j - q.1) (by simpa using h) (by omega) (by omega), Nat.add_assoc]

/-- find's own box. -/
structure FdAt (w : World) (b : Nat) (V0 V1 : Value) (W : World) : Prop where
  tb : W.heap[b]? = some (.cells #[V0, V1] 27 (0, 0))
  bel : Below w.heap.size w W
  zb : w.heap.size ≤ b
section
variable {w W W' : World} {b : Nat} {V0 V1 : Value}
theorem FdAt.all (h : FdAt w b V0 V1 W) : FdAt w b V0 V1 W ∧ W.cell? ⟨b, 0, none⟩ = some V0 ∧ W.cell? ⟨b, 1, none⟩ = some V1 := ⟨h, (blk_cell h.tb 0).trans rfl, (blk_cell h.tb 1).trans rfl⟩
theorem FdAt.below (h : FdAt w b V0 V1 W) (hb : Below W.heap.size W W') : FdAt w b V0 V1 W' := ⟨(hb.block b (blk_lt h.tb)).trans h.tb, h.bel.trans (hb.mono h.bel.size), h.zb⟩
theorem FdAt.drew (h : FdAt w b V0 V1 W) : FdAt w b V0 V1 W.drew := h.below (below_drew (Below.refl _ _))
theorem FdAt.drewN (h : FdAt w b V0 V1 W) (n : Nat) : FdAt w b V0 V1 (W.drewN n) := h.below (pw_below_drewN (Below.refl _ _) n)
end

attribute [local go_sem] Oper.semAt_some min2_mn min_two
set_option maxHeartbeats 8000000 in
set_option maxRecDepth 100000 in
theorem find_is (A1 : Option Addr) (c1 : Nat) (A2 : Option Addr) (c2 : Nat) (P C : List (Nat × Nat)) (h T : Nat) (w : World) (ht : Table P C h) (hT : T < 1099511627776) (hr1 : Kd.C k72 w A1 (P.map toS).length (P.map toS)) (hc1 : (P.map toS).length ≤ c1) (hr2 : Kd.C k72 w A2 (C.map toS).length (C.map toS)) (hc2 : (C.map toS).length ≤ c2) :
    Calls Tryd.prog 48 #[.agg #[.slice A1 (P.map toS).length c1, .slice A2 (C.map toS).length c2], .int .i64 (T : Nat)] w fun e w' =>
      e = .returned (.tuple #[.int .i64 (partAt (if T < h then P else C) (if T < h then T else T % h) : Nat), .int .i64 (min (T + endAt (if T < h then P else C) (if T < h then T else T % h) - (if T < h then T else T % h)) 1099511627776 : Nat), .int .i64 0]) ∧ Below w.heap.size w w' := by
  have hu55 := Tryd.underlying72
  have hu27 := Tryd.underlying27
  have HT := Aside0.mk ht
  have HR1 := Aside0.mk hr1
  have HR2 := Aside0.mk hr2
  have HV := Aside0.mk (fun W (hb : Below w.heap.size w W) => slots_Valid.calls 4194304 A1 c1 (P.map toS) A2 c2 (C.map toS) 0 W (Kd.C_below hr1 hb) hc1 (Kd.C_below hr2 hb) hc2 (valid_goes ht))
  have HL := Aside0.mk (fun W (hb : Below w.heap.size w W) => slots_length.calls 4194304 A1 c1 (P.map toS) (tot P : Nat) W (Kd.C_below hr1 hb) hc1 (length_goes P ht.gp (by rw [ht.tp]; exact ht.h2) ht.lp 4194304 (by have := ht.lp; omega)))
  rw [ht.tp] at HL
  have hh1 := ht.h1
  have hh2 := ht.h2
  clear ht hr1 hr2 hc1 hc2
  obtain ⟨n1, hn1⟩ : ∃ n, (P.map toS).length = n := ⟨_, rfl⟩
  obtain ⟨n2, hn2⟩ : ∃ n, (C.map toS).length = n := ⟨_, rfl⟩
  have HN1 := Aside0.mk (show P.length = n1 by rw [← hn1, List.length_map])
  have HN2 := Aside0.mk (show C.length = n2 by rw [← hn2, List.length_map])
  have hn1b : n1 ≤ 1048576 := by rw [← HN1.out]; exact HT.out.lp
  have hn2b : n2 ≤ 1048576 := by rw [← HN2.out]; exact HT.out.lc
  rw [hn1] at HR1 HL
  rw [hn2] at HR2
  rw [hn1, hn2] at HV
  rw [hn1, hn2]
  clear hn1 hn2
  obtain ⟨W1, hW1⟩ : ∃ W1, w.alloc (.cells #[.slice A1 n1 c1, .slice A2 n2 c2] 27) = W1 := ⟨_, rfl⟩
  have hF1 : FdAt w w.heap.size (.slice A1 n1 c1) (.slice A2 n2 c2) W1 := ⟨by rw [← hW1]; exact heap_alloc_new _ _, by rw [← hW1]; exact (Below.refl _ _).alloc (Nat.le_refl _) _, Nat.le_refl _⟩
  have HF1 := Aside0.mk hF1
  clear hF1
  have d0 : decide ((T : Int) < 0) = false := decide_eq_false (by omega)
  have d1 : decide (1099511627776 ≤ (T : Int)) = false := decide_eq_false (by omega)
  have d2 : decide (1099511627776 ≤ T) = false := decide_eq_false (by omega)
  have d3 : ¬ (1099511627776 ≤ T) := by omega
  have hT2 : T ≤ 1099511627776 := by omega
  subst hW1
  obtain ⟨PV, hPV⟩ : ∃ PV : Nat, partAt (if T < h then P else C) (if T < h then T else T % h) = PV := ⟨_, rfl⟩
  obtain ⟨EV, hEV⟩ : ∃ EV : Nat, min (T + endAt (if T < h then P else C) (if T < h then T else T % h) - (if T < h then T else T % h)) 1099511627776 = EV := ⟨_, rfl⟩
  rw [hPV, hEV]
  have HPV := Aside0.mk hPV
  have HEV := Aside0.mk hEV
  clear hPV hEV hT
  go_enter Tryd.func48, Tryd.ntmps48
  go_wp2_with (go_at_call 13; refine (HV.out _ HF1.out.bel).mono ?_; rintro e w2 ⟨rfl, hb2⟩; have HF2 := Aside0.mk (HF1.out.below hb2); clear hb2)
  obtain ⟨hF2, q0, q1⟩ := HF2.out.all
  go_region_held3 (fun w' => FdAt w w.heap.size (.slice A1 n1 c1) (.slice A2 n2 c2) w' ∧ w'.cell? ⟨w.heap.size, 0, none⟩ = some (.slice A1 n1 c1) ∧ w'.cell? ⟨w.heap.size, 1, none⟩ = some (.slice A2 n2 c2))
    (first | exact FdAt.all (FdAt.drew (by assumption)) | exact FdAt.all (FdAt.drew (And.left (by assumption))) | exact FdAt.all (FdAt.below (And.left (by assumption)) (by assumption)) | exact FdAt.all (FdAt.below (by assumption) (by assumption)))
    (first | (go_at_call 45; refine (HL.out _ ?hbb).mono ?_; (case hbb => (first | exact FdAt.bel (And.left (by assumption)) | exact FdAt.bel (by assumption))); rintro e w' ⟨rfl, hb⟩))
  obtain ⟨hF3, -, y1⟩ := ‹FdAt w w.heap.size (.slice A1 n1 c1) (.slice A2 n2 c2) _ ∧ _ ∧ _›
  have HF3 := Aside0.mk hF3
  clear hF3 hF2 HF2 HL HV q0 q1
  by_cases hth : T < h
  · have e1 : ¬ (h ≤ T) := by omega
    have e2 : decide (h ≤ T) = false := decide_eq_false e1
    rw [if_pos hth, if_pos hth] at HPV HEV
    go_wp2
    go_loopw [4, 5, 6, 11, 41] (fun v4 v5 v6 ve vi wr => v4 = .int .i64 0 ∧ v5 = .int .i64 0 ∧ v6 = .int .i64 0 ∧ ∃ i : Nat, vi = .int .i64 (i : Nat) ∧ i ≤ n1 ∧ ve = .int .i64 (tot (P.take i) : Nat) ∧ Aside0 (tot (P.take i) ≤ T) ∧ Aside0 (Below w.heap.size w wr)) (fun _ _ _ _ vi _ => n1 - (intOf vi).toNat)
    case atStart => exact ⟨rfl, rfl, rfl, 0, rfl, Nat.zero_le _, rfl, ⟨by simp [tot]⟩, ⟨by first | exact HF3.out.bel | exact (HF3.out.drewN _).bel | exact HF3.out.drew.bel⟩⟩
    case round =>
      clear y1
      obtain ⟨rfl, rfl, rfl, i, rfl, hi, rfl, HTj, HB⟩ := hrel
      by_cases hil : i < n1
      · have hl := HN1.out
        have hpl : i < P.length := by omega
        obtain ⟨ad, e, x0, x1⟩ := at_T72 (Kd.C_below HR1.out HB.out) (i : Int) (by omega) (by omega)
        cases e
        rw [rdS P i hpl] at x0 x1
        simp only [Int.toNat_natCast] at x0 x1
        have hts := tot_take_succ P i hpl
        have htl := tot_take_le P (i + 1)
        have htt := HT.out.tp
        have HPa := Aside0.mk (fun j h1 h2 => partAt_drop P i (P[i]'hpl) j (List.getElem?_eq_getElem hpl) h1 h2)
        have HEn := Aside0.mk (fun j h1 h2 => endAt_drop P i (P[i]'hpl) j (List.getElem?_eq_getElem hpl) h1 h2)
        generalize (P[i]'hpl) = q at *
        obtain ⟨ql, qp⟩ := q
        have x0' : World.cell? wr (ad.add (i * 2)) = some (.int .i64 (ql : Nat)) := x0
        have x1' : World.cell? wr ⟨(ad.add (i * 2)).block, (ad.add (i * 2)).off + 1, none⟩ = some (.int .i64 (qp : Nat)) := x1
        dsimp only at hts HPa HEn
        clear x0 x1
        obtain ⟨TE, hTE⟩ : ∃ TE, tot (P.take (i + 1)) = TE := ⟨_, rfl⟩
        obtain ⟨T0, hT0⟩ : ∃ T0, tot (P.take i) = T0 := ⟨_, rfl⟩
        rw [hTE, hT0] at hts
        rw [hTE] at htl
        rw [hT0] at HPa HEn HTj ⊢
        have hTb : TE ≤ 1048576 := by omega
        have HTE := Aside0.mk hTE
        have hsum : (T0 : Int) + (ql : Int) = (TE : Int) := by omega
        have hql : ql ≤ 1048576 := by omega
        have hT0b : T0 ≤ 1048576 := by omega
        have HTS := Aside0.mk hts
        have HSum := Aside0.mk hsum
        clear hTE hT0 htl htt hts hsum hl hpl
        have hji : T0 ≤ T := HTj.out
        have hii : (i : Int) < (n1 : Int) := by omega
        by_cases hlt : T < T0 + ql
        · have h1 : (T : Int) < (T0 : Int) + (ql : Int) := by omega
          have h2 : decide (T < T0 + ql) = true := decide_eq_true hlt
          have hmn : mnI ((T : Int) + ((T0 : Int) + (ql : Int)) - (T : Int)) 1099511627776 = (EV : Int) := by
            have := HEn.out T hji hlt
            have e := HEV.out
            rw [this] at e
            unfold mnI
            split <;> omega
          have HV1 := Aside0.mk ((HPa.out T hji hlt).symm.trans HPV.out)
          have HMn := Aside0.mk hmn
          go_wp2
          go_ret3
          refine ⟨?_, HB.out.alloc HB.out.size _⟩
          rw [← HV1.out]
          rfl
        · have h1 : ¬ ((T : Int) < (T0 : Int) + (ql : Int)) := by omega
          have h2 : decide (T < T0 + ql) = false := decide_eq_false hlt
          go_wp2
          go_roundw
          case rel => exact ⟨rfl, rfl, rfl, i + 1, by go_num, by omega, by rw [HTE.out, ← HSum.out], ⟨by rw [HTE.out]; have := HTS.out; omega⟩, ⟨HB.out.alloc HB.out.size _⟩⟩
          case measure => simp [intOf]; omega
      · obtain rfl : i = n1 := by omega
        have h1 := HTj.out
        rw [List.take_of_length_le (by have := HN1.out; omega), HT.out.tp] at h1
        omega
  · have e1 : h ≤ T := by omega
    have e2 : decide (h ≤ T) = true := decide_eq_true e1
    rw [if_neg hth, if_neg hth] at HPV HEV
    have hM : Int.tmod (T : Int) (h : Int) = ((T % h : Nat) : Int) := (Int.ofNat_tmod T h).symm
    have hz : ¬ ((h : Int) = 0) := by omega
    have hz2 : ((h : Int) == 0) = false := by rw [beq_eq_false_iff_ne]; omega
    have hJb := Nat.mod_lt T (show h > 0 by omega)
    obtain ⟨J, hJ⟩ : ∃ J, T % h = J := ⟨_, rfl⟩
    rw [hJ] at hM hJb HPV HEV
    clear hJ
    go_wp2
    go_quiet (fail)
    go_wp2
    clear hM
    go_loopw [4, 5, 6, 11, 41] (fun v4 v5 v6 ve vi wr => v4 = .int .i64 0 ∧ v5 = .int .i64 0 ∧ v6 = .int .i64 0 ∧ ∃ i : Nat, vi = .int .i64 (i : Nat) ∧ i ≤ n2 ∧ ve = .int .i64 (tot (C.take i) : Nat) ∧ Aside0 (tot (C.take i) ≤ J) ∧ Aside0 (Below w.heap.size w wr)) (fun _ _ _ _ vi _ => n2 - (intOf vi).toNat)
    case atStart => exact ⟨rfl, rfl, rfl, 0, rfl, Nat.zero_le _, rfl, ⟨by simp [tot]⟩, ⟨by first | exact HF3.out.bel | exact (HF3.out.drewN _).bel | exact HF3.out.drew.bel⟩⟩
    case round =>
      clear y1
      obtain ⟨rfl, rfl, rfl, i, rfl, hi, rfl, HTj, HB⟩ := hrel
      by_cases hil : i < n2
      · have hl := HN2.out
        have hpl : i < C.length := by omega
        obtain ⟨ad, e, x0, x1⟩ := at_T72 (Kd.C_below HR2.out HB.out) (i : Int) (by omega) (by omega)
        cases e
        rw [rdS C i hpl] at x0 x1
        simp only [Int.toNat_natCast] at x0 x1
        have hts := tot_take_succ C i hpl
        have htl := tot_take_le C (i + 1)
        have htt := HT.out.tc
        have HPa := Aside0.mk (fun j h1 h2 => partAt_drop C i (C[i]'hpl) j (List.getElem?_eq_getElem hpl) h1 h2)
        have HEn := Aside0.mk (fun j h1 h2 => endAt_drop C i (C[i]'hpl) j (List.getElem?_eq_getElem hpl) h1 h2)
        generalize (C[i]'hpl) = q at *
        obtain ⟨ql, qp⟩ := q
        have x0' : World.cell? wr (ad.add (i * 2)) = some (.int .i64 (ql : Nat)) := x0
        have x1' : World.cell? wr ⟨(ad.add (i * 2)).block, (ad.add (i * 2)).off + 1, none⟩ = some (.int .i64 (qp : Nat)) := x1
        dsimp only at hts HPa HEn
        clear x0 x1
        obtain ⟨TE, hTE⟩ : ∃ TE, tot (C.take (i + 1)) = TE := ⟨_, rfl⟩
        obtain ⟨T0, hT0⟩ : ∃ T0, tot (C.take i) = T0 := ⟨_, rfl⟩
        rw [hTE, hT0] at hts
        rw [hTE] at htl
        rw [hT0] at HPa HEn HTj ⊢
        have hTb : TE ≤ 1048576 := by omega
        have HTE := Aside0.mk hTE
        have hsum : (T0 : Int) + (ql : Int) = (TE : Int) := by omega
        have hql : ql ≤ 1048576 := by omega
        have hT0b : T0 ≤ 1048576 := by omega
        have HTS := Aside0.mk hts
        have HSum := Aside0.mk hsum
        clear hTE hT0 htl htt hts hsum hl hpl
        have hji : T0 ≤ J := HTj.out
        have hii : (i : Int) < (n2 : Int) := by omega
        by_cases hlt : J < T0 + ql
        · have h1 : (J : Int) < (T0 : Int) + (ql : Int) := by omega
          have h2 : decide (J < T0 + ql) = true := decide_eq_true hlt
          have hmn : mnI ((T : Int) + ((T0 : Int) + (ql : Int)) - (J : Int)) 1099511627776 = (EV : Int) := by
            have := HEn.out J hji hlt
            have e := HEV.out
            rw [this] at e
            unfold mnI
            split <;> omega
          have HV1 := Aside0.mk ((HPa.out J hji hlt).symm.trans HPV.out)
          have HMn := Aside0.mk hmn
          go_wp2
          go_ret3
          refine ⟨?_, HB.out.alloc HB.out.size _⟩
          rw [← HV1.out]
          rfl
        · have h1 : ¬ ((J : Int) < (T0 : Int) + (ql : Int)) := by omega
          have h2 : decide (J < T0 + ql) = false := decide_eq_false hlt
          go_wp2
          go_roundw
          case rel => exact ⟨rfl, rfl, rfl, i + 1, by go_num, by omega, by rw [HTE.out, ← HSum.out], ⟨by rw [HTE.out]; have := HTS.out; omega⟩, ⟨HB.out.alloc HB.out.size _⟩⟩
          case measure => simp [intOf]; omega
      · obtain rfl : i = n2 := by omega
        have h1 := HTj.out
        rw [List.take_of_length_le (by have := HN2.out; omega), HT.out.tc] at h1
        omega

set_option maxHeartbeats 8000000 in
set_option maxRecDepth 100000 in
theorem find_no (A1 : Option Addr) (c1 : Nat) (A2 : Option Addr) (c2 : Nat) (P C : List (Nat × Nat)) (h : Nat) (t : Int) (w : World) (ht : Table P C h) (hT : t < 0 ∨ 1099511627776 ≤ t) (hr1 : Kd.C k72 w A1 (P.map toS).length (P.map toS)) (hc1 : (P.map toS).length ≤ c1) (hr2 : Kd.C k72 w A2 (C.map toS).length (C.map toS)) (hc2 : (C.map toS).length ≤ c2) :
    Calls Tryd.prog 48 #[.agg #[.slice A1 (P.map toS).length c1, .slice A2 (C.map toS).length c2], .int .i64 t] w fun e w' => e = .returned (.tuple #[.int .i64 0, .int .i64 0, .int .i64 2]) ∧ Below w.heap.size w w' := by
  have hu27 := Tryd.underlying27
  have HV := Aside0.mk (fun W (hb : Below w.heap.size w W) => slots_Valid.calls 4194304 A1 c1 (P.map toS) A2 c2 (C.map toS) 0 W (Kd.C_below hr1 hb) hc1 (Kd.C_below hr2 hb) hc2 (valid_goes ht))
  clear ht hr1 hr2 hc1 hc2
  obtain ⟨n1, hn1⟩ : ∃ n, (P.map toS).length = n := ⟨_, rfl⟩
  obtain ⟨n2, hn2⟩ : ∃ n, (C.map toS).length = n := ⟨_, rfl⟩
  rw [hn1, hn2] at HV
  rw [hn1, hn2]
  clear hn1 hn2
  have HB := Aside0.mk ((Below.refl _ w).alloc (Nat.le_refl _) (.cells #[.slice A1 n1 c1, .slice A2 n2 c2] 27))
  by_cases h0 : t < 0
  · have d0 : decide (t < 0) = true := decide_eq_true h0
    clear hT
    go_enter Tryd.func48, Tryd.ntmps48
    go_wp2_with (go_at_call 13; refine (HV.out _ HB.out).mono ?_; rintro e w2 ⟨rfl, hb2⟩; have HB2 := Aside0.mk (HB.out.trans (hb2.mono HB.out.size)); clear hb2)
    go_ret3
    exact ⟨rfl, HB2.out⟩
  · have d0 : decide (t < 0) = false := decide_eq_false h0
    have h1 : 1099511627776 ≤ t := by omega
    have d1 : decide (1099511627776 ≤ t) = true := decide_eq_true h1
    clear hT
    go_enter Tryd.func48, Tryd.ntmps48
    go_wp2_with (go_at_call 13; refine (HV.out _ HB.out).mono ?_; rintro e w2 ⟨rfl, hb2⟩; have HB2 := Aside0.mk (HB.out.trans (hb2.mono HB.out.size)); clear hb2)
    go_ret3
    exact ⟨rfl, HB2.out⟩

def natL (l : List S72) : List (Nat × Nat) := l.map fun s => (s.f0.toNat, s.f1.toNat)
theorem natL_toS (P : List (Nat × Nat)) : natL (P.map toS) = P := by
  unfold natL
  rw [List.map_map]
  have e : ((fun s : S72 => (s.f0.toNat, s.f1.toNat)) ∘ toS) = id := by funext p; simp [toS]
  rw [e, List.map_id]
def okS (s : S72) : Bool := decide (1 ≤ s.f0) && (decide (0 ≤ s.f1) && decide (s.f1 ≤ 32))
def goesS : List S72 → Bool
  | [] => true
  | s :: l => okS s && ((match l.head? with | some q => !(q.f1 == s.f1) | none => true) && goesS l)
theorem goesS_yes : ∀ l, goesS l = true → l = (natL l).map toS ∧ Goes 32 (natL l)
  | [], _ => ⟨rfl, trivial⟩
  | s :: l, h => by
    unfold goesS at h
    simp only [Bool.and_eq_true] at h
    obtain ⟨h1, h2, h3⟩ := h
    obtain ⟨e, g⟩ := goesS_yes l h3
    unfold okS at h1
    simp only [Bool.and_eq_true, decide_eq_true_eq] at h1
    obtain ⟨a1, a2, a3⟩ := h1
    have es : toS (s.f0.toNat, s.f1.toNat) = s := by
      obtain ⟨x, y⟩ := s
      simp only [toS] at *
      rw [show ((x.toNat : Nat) : Int) = x by omega, show ((y.toNat : Nat) : Int) = y by omega]
    refine ⟨?_, ?_⟩
    · show s :: l = toS (s.f0.toNat, s.f1.toNat) :: (natL l).map toS
      rw [es, ← e]
    · refine ⟨by show 1 ≤ s.f0.toNat; omega, by show s.f1.toNat ≤ 32; omega, ?_, g⟩
      intro q hq
      cases l with
      | nil => cases hq
      | cons r l =>
        have hq' : (r.f0.toNat, r.f1.toNat) = q := Option.some.inj hq
        subst hq'
        simp only [List.head?_cons, Bool.not_eq_true', beq_eq_false_iff_ne] at h2
        have hr := h3
        unfold goesS okS at hr
        simp only [Bool.and_eq_true, decide_eq_true_eq] at hr
        show r.f1.toNat ≠ s.f1.toNat
        omega
theorem goesS_of : ∀ P : List (Nat × Nat), Goes 32 P → goesS (P.map toS) = true
  | [], _ => rfl
  | p :: l, ⟨h1, h2, h3, h4⟩ => by
    unfold goesS
    simp only [List.map_cons, Bool.and_eq_true]
    refine ⟨?_, ?_, goesS_of l h4⟩
    · unfold okS toS
      simp only [Bool.and_eq_true, decide_eq_true_eq]
      omega
    · cases l with
      | nil => rfl
      | cons q l =>
        have := h3 q rfl
        simp only [List.map_cons, List.head?_cons, Bool.not_eq_true', beq_eq_false_iff_ne]
        show ((q.2 : Nat) : Int) ≠ ((p.2 : Nat) : Int)
        omega
/-- A table that goes, of slots as they lie. -/
def goodT (P C : List S72) : Bool := goesS P && (goesS C && (decide (tot (natL P) = tot (natL C)) && (decide (1 ≤ tot (natL P)) && decide (tot (natL P) ≤ 1048576))))
theorem goodT_iff (P C : List S72) : goodT P C = true ↔ P = (natL P).map toS ∧ C = (natL C).map toS ∧ ∃ h, Table (natL P) (natL C) h := by
  unfold goodT
  simp only [Bool.and_eq_true, decide_eq_true_eq]
  constructor
  · rintro ⟨a, b, c, d, e⟩
    obtain ⟨a1, a2⟩ := goesS_yes P a
    obtain ⟨b1, b2⟩ := goesS_yes C b
    exact ⟨a1, b1, tot (natL P), a2, b2, rfl, c.symm, d, e⟩
  · rintro ⟨a, b, h, t⟩
    refine ⟨by rw [a]; exact goesS_of _ t.gp, by rw [b]; exact goesS_of _ t.gc, by rw [t.tp, t.tc], by rw [t.tp]; exact t.h1, by rw [t.tp]; exact t.h2⟩
/-- What slots.At tells, at a table that goes. -/
def slots_At.f (P C : List S72) (t : Int) : Option (Int × Int) := if goodT P C = true then some (if t < 0 ∨ 1099511627776 ≤ t then (0, 2) else
    (((partAt (if t.toNat < tot (natL P) then natL P else natL C) (if t.toNat < tot (natL P) then t.toNat else t.toNat % tot (natL P)) : Nat) : Int), 0)) else none
theorem slots_At.good {P C : List (Nat × Nat)} {h : Nat} (ht : Table P C h) (t : Int) : slots_At.f (P.map toS) (C.map toS) t = some (if t < 0 ∨ 1099511627776 ≤ t then (0, 2) else (((partAt (if t.toNat < h then P else C) (if t.toNat < h then t.toNat else t.toNat % h) : Nat) : Int), 0)) := by
  unfold slots_At.f
  rw [if_pos ((goodT_iff _ _).2 ⟨by rw [natL_toS], by rw [natL_toS], h, by rw [natL_toS, natL_toS]; exact ht⟩), natL_toS, natL_toS, ht.tp]

set_option maxHeartbeats 8000000 in
set_option maxRecDepth 100000 in
theorem slots_At.calls (A1 : Option Addr) (c1 : Nat) (l1 : List S72) (A2 : Option Addr) (c2 : Nat) (l2 : List S72) (t : Int) (r1 r2 : Int) (w : World) (hr1 : Kd.C k72 w A1 l1.length l1) (hc1 : l1.length ≤ c1) (hr2 : Kd.C k72 w A2 l2.length l2) (hc2 : l2.length ≤ c2) (h : slots_At.f l1 l2 t = some (r1, r2)) :
    Calls Tryd.prog 18 #[.agg #[.slice A1 l1.length c1, .slice A2 l2.length c2], .int .i64 t] w fun e w' => e = .returned (.tuple #[.int .i64 r1, .int .i64 r2]) ∧ Below w.heap.size w w' := by
  have hg : goodT l1 l2 = true := by
    unfold slots_At.f at h
    by_cases c : goodT l1 l2 = true
    · exact c
    · rw [if_neg c] at h; cases h
  obtain ⟨e1, e2, hh, ht⟩ := (goodT_iff _ _).1 hg
  obtain ⟨P, hP⟩ : ∃ P, natL l1 = P := ⟨_, rfl⟩
  obtain ⟨C, hC⟩ : ∃ C, natL l2 = C := ⟨_, rfl⟩
  rw [hP] at e1 ht
  rw [hC] at e2 ht
  subst e1 e2
  rw [slots_At.good ht] at h
  have hu27 := Tryd.underlying27
  have hB1 := (Below.refl _ w).alloc (Nat.le_refl _) (.cells #[.slice A1 (P.map toS).length c1, .slice A2 (C.map toS).length c2] 27)
  by_cases hb : t < 0 ∨ 1099511627776 ≤ t
  · rw [if_pos hb] at h
    simp only [Option.some.injEq, Prod.mk.injEq] at h
    obtain ⟨rfl, rfl⟩ := h
    have HF := Aside0.mk (find_no A1 c1 A2 c2 P C hh t _ ht hb (Kd.C_below hr1 hB1) hc1 (Kd.C_below hr2 hB1) hc2)
    have HB := Aside0.mk hB1
    clear hB1 hr1 hr2 hb ht hP hC hc1 hc2 hg
    obtain ⟨n1, hn1⟩ : ∃ n, (P.map toS).length = n := ⟨_, rfl⟩
    obtain ⟨n2, hn2⟩ : ∃ n, (C.map toS).length = n := ⟨_, rfl⟩
    rw [hn1, hn2] at HF HB
    rw [hn1, hn2]
    clear hn1 hn2
    go_enter Tryd.func18, Tryd.ntmps18
    go_wp2_with (go_at_call 48; refine HF.out.mono ?_; rintro e w2 ⟨rfl, hb2⟩; have HB2 := Aside0.mk (HB.out.trans (hb2.mono HB.out.size)); clear hb2)
    go_ret2
    exact ⟨rfl, HB2.out⟩
  · rw [if_neg hb] at h
    simp only [Option.some.injEq, Prod.mk.injEq] at h
    obtain ⟨rfl, rfl⟩ := h
    obtain ⟨T, rfl⟩ : ∃ T : Nat, t = (T : Int) := ⟨t.toNat, by omega⟩
    rw [Int.toNat_natCast]
    have HF := Aside0.mk (find_is A1 c1 A2 c2 P C hh T _ ht (by omega) (Kd.C_below hr1 hB1) hc1 (Kd.C_below hr2 hB1) hc2)
    have HB := Aside0.mk hB1
    generalize (partAt (if T < hh then P else C) (if T < hh then T else T % hh)) = X at *
    generalize (min (T + endAt (if T < hh then P else C) (if T < hh then T else T % hh) - (if T < hh then T else T % hh)) 1099511627776) = Y at *
    clear hB1 hr1 hr2 hb ht hP hC hc1 hc2 hg
    obtain ⟨n1, hn1⟩ : ∃ n, (P.map toS).length = n := ⟨_, rfl⟩
    obtain ⟨n2, hn2⟩ : ∃ n, (C.map toS).length = n := ⟨_, rfl⟩
    rw [hn1, hn2] at HF HB
    rw [hn1, hn2]
    clear hn1 hn2
    go_enter Tryd.func18, Tryd.ntmps18
    go_wp2_with (go_at_call 48; refine HF.out.mono ?_; rintro e w2 ⟨rfl, hb2⟩; have HB2 := Aside0.mk (HB.out.trans (hb2.mono HB.out.size)); clear hb2)
    go_ret2
    exact ⟨rfl, HB2.out⟩
end Go.Proofs.YtckdjcidbpnfeaaDoor.B
