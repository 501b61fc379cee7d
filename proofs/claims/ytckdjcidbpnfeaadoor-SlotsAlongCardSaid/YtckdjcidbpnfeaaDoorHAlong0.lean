/- Proved: the law SlotsAlong answers true of any table, any tick, any number of steps and any probe. Conditions: the slots' lengths are int64; the variable errors.errorType holds what the program's text lays (GH). -/
import Derived.Test.YtckdjcidbpnfeaaDoorHWalk3
import Derived.Test.YtckdjcidbpnfeaaDoorHValid13
import Derived.Test.YtckdjcidbpnfeaaDoorLx2
import Derived.Test.YtckdjcidbpnfeaaDoorBx2
namespace Go.Proofs.YtckdjcidbpnfeaaDoor.B
open Go.RowKit Go.Proofs.YtckdjcidbpnfeaaDoorW.PrintWords Go.Proofs.YtckdjcidbpnfeaaDoorW.PrintLast Go.Proofs.YtckdjcidbpnfeaaDoorW.PrintMore

theorem lives20 : bulkheadlaw13_lives.f 20 = some true := by decide +kernel
theorem lives_ok (w W : World) (hG : GH w) (hb : Below w.heap.size w W) : Calls Tryd.prog 12 #[] W fun e w' => e = .returned (.bool true) ∧ Below W.heap.size W w' := bulkheadlaw13_lives.calls 20 true W (GH_below hG hb) lives20
theorem total_from2 (P : List (Nat × Nat)) (ht : tot P ≤ 4194304) (hl : P.length ≤ 4194304) : ∀ (d i k : Nat), i + d = P.length → d < k → bulkheadlaw13_total.l0 k (P.map toS) ((tot (P.take i) : Nat) : Int) (i : Int) = some ((tot P : Nat) : Int) := by
  intro d
  induction d with
  | zero =>
    intro i k hi hk
    obtain ⟨k, rfl⟩ : ∃ m, k = m + 1 := ⟨k - 1, by omega⟩
    simp only [bulkheadlaw13_total.l0]
    rw [if_neg (by simp; omega), List.take_of_length_le (by omega)]
  | succ d ih =>
    intro i k hi hk
    obtain ⟨k, rfl⟩ : ∃ m, k = m + 1 := ⟨k - 1, by omega⟩
    have hil : i < P.length := by omega
    have hts := tot_take_succ P i hil
    have htl := tot_take_le P (i + 1)
    have f0 : (toS (P[i])).f0 = ((P[i]).1 : Int) := rfl
    simp only [bulkheadlaw13_total.l0]
    rw [if_pos (by simp; omega), if_pos (by omega), rdS P i hil, f0, show wrap64 (((tot (P.take i) : Nat) : Int) + ((P[i]).1 : Int)) = ((tot (P.take (i + 1)) : Nat) : Int) by unfold wrap64; omega,
      show wrap64 ((i : Int) + 1) = ((i + 1 : Nat) : Int) by unfold wrap64; omega]
    exact ih (i + 1) k (by omega) (by omega)
theorem total_is2 (P : List (Nat × Nat)) (ht : tot P ≤ 4194304) (hl : P.length ≤ 4194304) (k : Nat) (hk : P.length < k) : bulkheadlaw13_total.f k (P.map toS) = some ((tot P : Nat) : Int) :=
  total_from2 P ht hl P.length 0 k (by omega) hk
theorem WkAt.weak {W : World} {base base' g : Nat} {V0 V1 : Value} {P C : List (Nat × Nat)} {h now : Nat} {c : Bool} {pl u : Nat} (k : WkAt W base g V0 V1 P C h now c pl u) (hb : base' ≤ base) : WkAt W base' g V0 V1 P C h now c pl u := ⟨Nat.le_trans hb k.low, k.blk, k.r0, k.r1⟩
/-- The law's memory: its own box of the table, and the walker. -/
structure AlAt (w : World) (g : Nat) (B0 B1 V0 V1 : Value) (P C : List (Nat × Nat)) (h now : Nat) (c : Bool) (pl u : Nat) (W : World) : Prop where
  wk : WkAt W (w.heap.size + 1) g V0 V1 P C h now c pl u
  fd : FdAt w w.heap.size B0 B1 W
section
variable {w W W' : World} {g : Nat} {B0 B1 V0 V1 : Value} {P C : List (Nat × Nat)} {h now : Nat} {c : Bool} {pl u : Nat}
theorem AlAt.below (k : AlAt w g B0 B1 V0 V1 P C h now c pl u W) (hb : Below W.heap.size W W') : AlAt w g B0 B1 V0 V1 P C h now c pl u W' := ⟨k.wk.below hb, k.fd.below hb⟩
theorem AlAt.drew (k : AlAt w g B0 B1 V0 V1 P C h now c pl u W) : AlAt w g B0 B1 V0 V1 P C h now c pl u W.drew := ⟨k.wk.drew, k.fd.drew⟩
theorem AlAt.drewN (k : AlAt w g B0 B1 V0 V1 P C h now c pl u W) (n : Nat) : AlAt w g B0 B1 V0 V1 P C h now c pl u (W.drewN n) := ⟨k.wk.below (pw_below_drewN (Below.refl _ _) n), k.fd.drewN n⟩
theorem AlAt.y0 (k : AlAt w g B0 B1 V0 V1 P C h now c pl u W) : W.cell? ⟨w.heap.size, 0, none⟩ = some B0 := k.fd.all.2.1
theorem AlAt.y1 (k : AlAt w g B0 B1 V0 V1 P C h now c pl u W) : W.cell? ⟨w.heap.size, 1, none⟩ = some B1 := k.fd.all.2.2
theorem AlAt.adv {now' : Nat} {c' : Bool} {pl' u' : Nat} (k : AlAt w g B0 B1 V0 V1 P C h now c pl u W) (hk : WkAt W' (w.heap.size + 1) g V0 V1 P C h now' c' pl' u') (hb : Below (w.heap.size + 1) W W') : AlAt w g B0 B1 V0 V1 P C h now' c' pl' u' W' :=
  ⟨hk, ⟨(hb.block _ (Nat.lt_succ_self _)).trans k.fd.tb, k.fd.bel.trans (hb.mono (Nat.le_succ _)), k.fd.zb⟩⟩
end
theorem advance_t {W : World} {base g : Nat} {V0 V1 : Value} {P C : List (Nat × Nat)} {h now : Nat} {c : Bool} {pl u s tk : Nat} {t : Int} (ht : Table P C h) (k : WkAt W base g V0 V1 P C h now c pl u) (st : Stands P C h c pl u s) (hti : (tk : Int) = t) (h1 : now ≤ tk) (h2 : tk < 1099511627776) (h3 : s ≤ now) :
    Calls Tryd.prog 17 #[.pointer (some ⟨g, 0, none⟩), .int .i64 t] W (AdvPost W base g V0 V1 P C h tk) := by
  rw [← hti]
  exact advance_is W base g V0 V1 P C h now c pl u s tk ht k st h1 h2 h3 (by have := (st.len ht).2.2.2.2; have := ht.h2; omega)
theorem along_steps {t : Int} (T s u : Nat) (h1 : s ≤ T) (h2 : T < u) (hT : T < 1099511627776) (hti : (T : Int) = t) (pb : Int) (hp : 0 ≤ pb) :
    ∃ (U : Nat) (a m : Int) (M : Nat), min u 1099511627776 = U ∧ U ≤ 1099511627776 ∧ IntKind.i64.wrap ((U : Int) - t) = a ∧ (a == 0) = false ∧ a ≠ 0 ∧ Int.tmod pb a = m ∧ IntKind.i64.wrap (t + m) = (M : Int) ∧ s ≤ M ∧ M < u ∧ M < 1099511627776 ∧ ¬ ((U : Int) ≤ t) ∧ ¬ (1099511627776 < U) ∧ t < (U : Int) := by
  have e1 : IntKind.i64.wrap (((min u 1099511627776 : Nat) : Int) - t) = ((min u 1099511627776 - T : Nat) : Int) := by
    rw [IntWalk.i64_in _ (by omega)]; omega
  have hpos : 0 < min u 1099511627776 - T := by omega
  obtain ⟨p, rfl⟩ : ∃ p : Nat, pb = (p : Int) := ⟨pb.toNat, by omega⟩
  have hlt := Nat.mod_lt p hpos
  have e2 : Int.tmod (p : Int) ((min u 1099511627776 - T : Nat) : Int) = ((p % (min u 1099511627776 - T) : Nat) : Int) := (Int.ofNat_tmod _ _).symm
  generalize p % (min u 1099511627776 - T) = m at *
  refine ⟨min u 1099511627776, _, _, T + m, rfl, by omega, e1, ?_, ?_, e2, ?_, by omega, by omega, by omega, by omega, by omega, by omega⟩
  · rw [beq_eq_false_iff_ne]; omega
  · omega
  · rw [IntWalk.i64_in _ (by omega)]; omega
theorem until_lt (U : Nat) (h : ((U : Int) == 1099511627776) = false) (h2 : U ≤ 1099511627776) : U < 1099511627776 := by
  have := ne_of_beq_false h
  omega
/-- The occupant of the slot ahead, or none yet. -/
def Ahead (P C : List (Nat × Nat)) (h T : Nat) (last : Int) : Prop := last = -1 ∨ ∃ (c : Bool) (pl s : Nat), ∃ k : Stands P C h c pl T s, last = (((lst P C c)[pl]'k.lt).2 : Nat)
theorem Ahead.wrap {P C : List (Nat × Nat)} {h T : Nat} {last : Int} (a : Ahead P C h T last) {c : Bool} {pl u s : Nat} (k : Stands P C h c pl u s) (ht : Table P C h) (h1 : s ≤ T) (h2 : T < u) (e : ((((lst P C c)[pl]'k.lt).2 : Nat) : Int) = last) : T % h = 0 := by
  rcases a with a | ⟨c', pl', s', k', a⟩
  · omega
  · by_cases z : T % h = 0
    · exact z
    · exact absurd (by omega) (Stands.beside k' k ht h1 h2 z)
set_option maxHeartbeats 16000000 in
set_option maxRecDepth 100000 in
theorem along_bad (A1 : Option Addr) (c1 : Nat) (l1 : List S72) (A2 : Option Addr) (c2 : Nat) (l2 : List S72) (t0 st pb r : Int) (w : World) (hr1 : Kd.C k72 w A1 l1.length l1) (hc1 : l1.length ≤ c1) (hr2 : Kd.C k72 w A2 l2.length l2) (hc2 : l2.length ≤ c2) (hG : GH w)
    (hv : slots_Valid.f 4194304 l1 l2 = some r) (hbad : ¬ (r = 0 ∧ l1.length ≤ 300000 ∧ l2.length ≤ 300000 ∧ 0 ≤ t0 ∧ t0 < 1099511627776 ∧ 0 ≤ st ∧ st ≤ 100 ∧ 0 ≤ pb)) :
    Calls Tryd.prog 4 #[.agg #[.slice A1 l1.length c1, .slice A2 l2.length c2], .int .i64 t0, .int .i64 st, .int .i64 pb] w fun e w' => e = .returned (.bool true) ∧ Below w.heap.size w w' := by
  have hu27 := Tryd.underlying27
  have HLV := Aside0.mk (fun (W : World) (hb : Below w.heap.size w W) => lives_ok w W hG hb)
  have hB1 := (Below.refl _ w).alloc (Nat.le_refl _) (.cells #[.slice A1 l1.length c1, .slice A2 l2.length c2] 27)
  have HV := Aside0.mk (slots_Valid.calls 4194304 A1 c1 l1 A2 c2 l2 r _ (Kd.C_below hr1 hB1) hc1 (Kd.C_below hr2 hB1) hc2 hv)
  obtain ⟨n1, hn1⟩ : ∃ n, l1.length = n := ⟨_, rfl⟩
  obtain ⟨n2, hn2⟩ : ∃ n, l2.length = n := ⟨_, rfl⟩
  rw [hn1, hn2] at HV hbad
  rw [hn1, hn2]
  have HF1 := Aside0.mk (show FdAt w w.heap.size (.slice A1 n1 c1) (.slice A2 n2 c2) (w.alloc (.cells #[.slice A1 n1 c1, .slice A2 n2 c2] 27)) from ⟨heap_alloc_new _ _, (Below.refl _ _).alloc (Nat.le_refl _) _, Nat.le_refl _⟩)
  clear hB1 hr1 hr2 hc1 hc2 hv hG hn1 hn2
  by_cases g : ¬ (r = 0)
  · have b0 : (r != 0) = true := bne_iff_ne.2 g
    clear g
    clear hbad
    go_enter Tryd.func4, Tryd.ntmps4
    go_wp2_with (first
      | (go_at_call 13; refine HV.out.mono ?_; rintro e w2 ⟨rfl, hb2⟩; have HF2 := Aside0.mk (HF1.out.below hb2); have y0 := HF2.out.all.2.1; have y1 := HF2.out.all.2.2; clear hb2)
      | (go_at_call 12; refine (HLV.out _ HF2.out.bel).mono ?_; rintro e w3 ⟨rfl, hb3⟩; have HB3 := Aside0.mk (HF2.out.bel.trans (hb3.mono HF2.out.bel.size)); clear hb3))
    go_ret
    exact ⟨rfl, HB3.out⟩
  replace g := Decidable.not_not.1 g
  subst g
  by_cases g : ¬ (n1 ≤ 300000)
  · have b1 : (n1 : Int) > 300000 := by omega
    have b1b : decide (300000 < n1) = true := decide_eq_true (by omega)
    clear g
    clear hbad
    go_enter Tryd.func4, Tryd.ntmps4
    go_wp2_with (first
      | (go_at_call 13; refine HV.out.mono ?_; rintro e w2 ⟨rfl, hb2⟩; have HF2 := Aside0.mk (HF1.out.below hb2); have y0 := HF2.out.all.2.1; have y1 := HF2.out.all.2.2; clear hb2)
      | (go_at_call 12; refine (HLV.out _ HF2.out.bel).mono ?_; rintro e w3 ⟨rfl, hb3⟩; have HB3 := Aside0.mk (HF2.out.bel.trans (hb3.mono HF2.out.bel.size)); clear hb3))
    go_ret
    exact ⟨rfl, HB3.out⟩
  replace g := Decidable.not_not.1 g
  have b1 : ¬ ((n1 : Int) > 300000) := by omega
  have b1b : decide (300000 < n1) = false := decide_eq_false (by omega)
  have g1 := g
  clear g
  by_cases g : ¬ (n2 ≤ 300000)
  · have b2 : (n2 : Int) > 300000 := by omega
    have b2b : decide (300000 < n2) = true := decide_eq_true (by omega)
    clear g
    clear hbad
    go_enter Tryd.func4, Tryd.ntmps4
    go_wp2_with (first
      | (go_at_call 13; refine HV.out.mono ?_; rintro e w2 ⟨rfl, hb2⟩; have HF2 := Aside0.mk (HF1.out.below hb2); have y0 := HF2.out.all.2.1; have y1 := HF2.out.all.2.2; clear hb2)
      | (go_at_call 12; refine (HLV.out _ HF2.out.bel).mono ?_; rintro e w3 ⟨rfl, hb3⟩; have HB3 := Aside0.mk (HF2.out.bel.trans (hb3.mono HF2.out.bel.size)); clear hb3))
    go_ret
    exact ⟨rfl, HB3.out⟩
  replace g := Decidable.not_not.1 g
  have b2 : ¬ ((n2 : Int) > 300000) := by omega
  have b2b : decide (300000 < n2) = false := decide_eq_false (by omega)
  have g2 := g
  clear g
  by_cases g : ¬ (0 ≤ t0)
  · have b3 : t0 < 0 := by omega
    have b3b : decide (t0 < 0) = true := decide_eq_true b3
    clear g
    clear hbad
    go_enter Tryd.func4, Tryd.ntmps4
    go_wp2_with (first
      | (go_at_call 13; refine HV.out.mono ?_; rintro e w2 ⟨rfl, hb2⟩; have HF2 := Aside0.mk (HF1.out.below hb2); have y0 := HF2.out.all.2.1; have y1 := HF2.out.all.2.2; clear hb2)
      | (go_at_call 12; refine (HLV.out _ HF2.out.bel).mono ?_; rintro e w3 ⟨rfl, hb3⟩; have HB3 := Aside0.mk (HF2.out.bel.trans (hb3.mono HF2.out.bel.size)); clear hb3))
    go_ret
    exact ⟨rfl, HB3.out⟩
  replace g := Decidable.not_not.1 g
  have b3 : ¬ (t0 < 0) := by omega
  have b3b : decide (t0 < 0) = false := decide_eq_false b3
  have g3 := g
  clear g
  by_cases g : ¬ (t0 < 1099511627776)
  · have b4 : 1099511627776 ≤ t0 := by omega
    have b4b : decide (1099511627776 ≤ t0) = true := decide_eq_true b4
    clear g
    clear hbad
    go_enter Tryd.func4, Tryd.ntmps4
    go_wp2_with (first
      | (go_at_call 13; refine HV.out.mono ?_; rintro e w2 ⟨rfl, hb2⟩; have HF2 := Aside0.mk (HF1.out.below hb2); have y0 := HF2.out.all.2.1; have y1 := HF2.out.all.2.2; clear hb2)
      | (go_at_call 12; refine (HLV.out _ HF2.out.bel).mono ?_; rintro e w3 ⟨rfl, hb3⟩; have HB3 := Aside0.mk (HF2.out.bel.trans (hb3.mono HF2.out.bel.size)); clear hb3))
    go_ret
    exact ⟨rfl, HB3.out⟩
  replace g := Decidable.not_not.1 g
  have b4 : ¬ (1099511627776 ≤ t0) := by omega
  have b4b : decide (1099511627776 ≤ t0) = false := decide_eq_false b4
  have g4 := g
  clear g
  by_cases g : ¬ (0 ≤ st)
  · have b5 : st < 0 := by omega
    have b5b : decide (st < 0) = true := decide_eq_true b5
    clear g
    clear hbad
    go_enter Tryd.func4, Tryd.ntmps4
    go_wp2_with (first
      | (go_at_call 13; refine HV.out.mono ?_; rintro e w2 ⟨rfl, hb2⟩; have HF2 := Aside0.mk (HF1.out.below hb2); have y0 := HF2.out.all.2.1; have y1 := HF2.out.all.2.2; clear hb2)
      | (go_at_call 12; refine (HLV.out _ HF2.out.bel).mono ?_; rintro e w3 ⟨rfl, hb3⟩; have HB3 := Aside0.mk (HF2.out.bel.trans (hb3.mono HF2.out.bel.size)); clear hb3))
    go_ret
    exact ⟨rfl, HB3.out⟩
  replace g := Decidable.not_not.1 g
  have b5 : ¬ (st < 0) := by omega
  have b5b : decide (st < 0) = false := decide_eq_false b5
  have g5 := g
  clear g
  by_cases g : ¬ (st ≤ 100)
  · have b6 : 100 < st := by omega
    have b6b : decide (100 < st) = true := decide_eq_true b6
    clear g
    clear hbad
    go_enter Tryd.func4, Tryd.ntmps4
    go_wp2_with (first
      | (go_at_call 13; refine HV.out.mono ?_; rintro e w2 ⟨rfl, hb2⟩; have HF2 := Aside0.mk (HF1.out.below hb2); have y0 := HF2.out.all.2.1; have y1 := HF2.out.all.2.2; clear hb2)
      | (go_at_call 12; refine (HLV.out _ HF2.out.bel).mono ?_; rintro e w3 ⟨rfl, hb3⟩; have HB3 := Aside0.mk (HF2.out.bel.trans (hb3.mono HF2.out.bel.size)); clear hb3))
    go_ret
    exact ⟨rfl, HB3.out⟩
  replace g := Decidable.not_not.1 g
  have b6 : ¬ (100 < st) := by omega
  have b6b : decide (100 < st) = false := decide_eq_false b6
  have g6 := g
  clear g
  by_cases g : ¬ (0 ≤ pb)
  · have b7 : pb < 0 := by omega
    have b7b : decide (pb < 0) = true := decide_eq_true b7
    clear g
    clear hbad
    go_enter Tryd.func4, Tryd.ntmps4
    go_wp2_with (first
      | (go_at_call 13; refine HV.out.mono ?_; rintro e w2 ⟨rfl, hb2⟩; have HF2 := Aside0.mk (HF1.out.below hb2); have y0 := HF2.out.all.2.1; have y1 := HF2.out.all.2.2; clear hb2)
      | (go_at_call 12; refine (HLV.out _ HF2.out.bel).mono ?_; rintro e w3 ⟨rfl, hb3⟩; have HB3 := Aside0.mk (HF2.out.bel.trans (hb3.mono HF2.out.bel.size)); clear hb3))
    go_ret
    exact ⟨rfl, HB3.out⟩
  replace g := Decidable.not_not.1 g
  exact absurd ⟨rfl, g1, g2, g3, g4, g5, g6, g⟩ hbad
end Go.Proofs.YtckdjcidbpnfeaaDoor.B
