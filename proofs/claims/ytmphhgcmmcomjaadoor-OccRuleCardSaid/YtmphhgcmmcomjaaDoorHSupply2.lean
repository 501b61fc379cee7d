/- Proved: the contract of occ.Supply, in the form that printed texts cite. Condition: the variable errors.errorType holds what the program's text lays (GH). -/
import Derived.Test.YtmphhgcmmcomjaaDoorHSupply
import Derived.Test.YtmphhgcmmcomjaaDoorBx1
import Derived.Deep.RegionHeld3
namespace Go.Proofs.YtmphhgcmmcomjaaDoor.B
open Go.RowKit Go.Proofs.YtmphhgcmmcomjaaDoorW.PrintWords Go.Proofs.YtmphhgcmmcomjaaDoorW.PrintLast Go.Proofs.YtmphhgcmmcomjaaDoorW.PrintMore

/-- A counter's cells, at a world. -/
structure CtAt (w : World) (b : Nat) (h p c : Int) (v : Value) (q : Int) (w' : World) : Prop where
  sup : w'.heap[b]? = some (.cells #[.int .i64 h, .int .i64 p, .int .i64 c, v, .int .i64 q] 69 (0, 0))
  bel : Below w.heap.size w w'
theorem CtAt.below {w : World} {b : Nat} {h p c q : Int} {v : Value} {w1 w2 : World} (hs : CtAt w b h p c v q w1) (hb : Below w1.heap.size w1 w2) : CtAt w b h p c v q w2 :=
  ⟨(hb.block _ (blk_lt hs.sup)).trans hs.sup, hs.bel.trans (hb.mono hs.bel.size)⟩
theorem CtAt.drew {w : World} {b : Nat} {h p c q : Int} {v : Value} {w1 : World} (hs : CtAt w b h p c v q w1) : CtAt w b h p c v q w1.drew := ⟨hs.sup, below_drew1 hs.bel⟩
theorem CtAt.all {w : World} {b : Nat} {h p c q : Int} {v : Value} {w1 : World} (hs : CtAt w b h p c v q w1) :
    CtAt w b h p c v q w1 ∧ w1.cell? ⟨b, 0, none⟩ = some (.int .i64 h) ∧ w1.cell? ⟨b, 1, none⟩ = some (.int .i64 p) ∧ w1.cell? ⟨b, 2, none⟩ = some (.int .i64 c) ∧ w1.cell? ⟨b, 3, none⟩ = some v ∧ w1.cell? ⟨b, 4, none⟩ = some (.int .i64 q) :=
  ⟨hs, (blk_cell hs.sup 0).trans rfl, (blk_cell hs.sup 1).trans rfl, (blk_cell hs.sup 2).trans rfl, (blk_cell hs.sup 3).trans rfl, (blk_cell hs.sup 4).trans rfl⟩

def spanB (a b : Int) : Bool := decide (0 ≤ a) && decide (a ≤ b) && decide (b ≤ 1099511627776)
theorem span_plain (a b : Int) : occ_span.f a b = some (spanB a b) := by
  unfold occ_span.f spanB
  by_cases c : 0 ≤ a
  · by_cases d : a ≤ b
    · simp [c, d]
    · simp [c, d]
  · simp [c]

/-- What Supply tells. -/
def occ_Supply.f (l : List S30) (q a b : Int) : Option (Int × Int) :=
  some (if (hypS lcmF l).2 = 0 then (if q < 1 ∨ (l.length : Int) < q then (0, 220) else if spanB a b = false then (0, 2) else ((((sv l).count q.toNat 0 b.toNat : Nat) : Int) - (((sv l).count q.toNat 0 a.toNat : Nat) : Int), 0)) else (0, (hypS lcmF l).2))

set_option maxHeartbeats 4000000 in
set_option maxRecDepth 100000 in
theorem occ_Supply.calls (A0 : Option Addr) (c0 : Nat) (l0 : List S30) (a1 a2 a3 : Int) (r1 : Int) (r2 : Int) (w : World) (hr0 : Kd.C k30 w A0 l0.length l0) (_hc0 : l0.length ≤ c0) (hG : GH w) (h : occ_Supply.f l0 a1 a2 a3 = some (r1, r2)) :
    Calls Tryd.prog 13 #[.slice A0 l0.length c0, .int .i64 a1, .int .i64 a2, .int .i64 a3] w fun e w' => e = .returned (.tuple #[.int .i64 r1, .int .i64 r2]) ∧ Below w.heap.size w w' := by
  have HH := Aside0.mk (check_Hyper.calls A0 c0 l0 (hypS lcmF l0).1 (hypS lcmF l0).2 w hr0 _hc0 hG rfl)
  have HR := Aside0.mk hr0
  clear hr0 hG
  unfold occ_Supply.f at h
  have HSp := Aside0.mk (fun w => occ_span.calls a2 a3 (spanB a2 a3) w (span_plain a2 a3))
  by_cases he : (hypS lcmF l0).2 = 0
  · rw [if_pos he] at h
    by_cases hq : a1 < 1 ∨ (l0.length : Int) < a1
    · rw [if_pos hq] at h
      obtain ⟨rfl, rfl⟩ : 0 = r1 ∧ 220 = r2 := by simpa using h
      rw [he] at HH
      clear h he
      by_cases hq1 : a1 < 1
      · clear hq
        go_enter Tryd.func13, Tryd.ntmps13
        go_wp2_with (go_at_call 10; refine HH.out.mono ?_; rintro e w' ⟨rfl, hb⟩)
        go_ret2
        exact ⟨rfl, by assumption⟩
      · have hq2 : (l0.length : Int) < a1 := by omega
        clear hq
        go_enter Tryd.func13, Tryd.ntmps13
        go_wp2_with (go_at_call 10; refine HH.out.mono ?_; rintro e w' ⟨rfl, hb⟩)
        go_ret2
        exact ⟨rfl, by assumption⟩
    · rw [if_neg hq] at h
      have hq1 : ¬ a1 < 1 := by omega
      have hq2 : ¬ (l0.length : Int) < a1 := by omega
      obtain ⟨sp, hsp⟩ : ∃ sp, spanB a2 a3 = sp := ⟨_, rfl⟩
      rw [hsp] at h HSp
      cases sp with
      | false =>
        rw [if_pos rfl] at h
        obtain ⟨rfl, rfl⟩ : 0 = r1 ∧ 2 = r2 := by simpa using h
        rw [he] at HH
        clear h he hq hsp
        go_enter Tryd.func13, Tryd.ntmps13
        go_wp2_with (first | (go_at_call 10; refine HH.out.mono ?_; rintro e w' ⟨rfl, hb⟩) | (go_at_call 36; refine (HSp.out _).mono ?_; rintro e w' ⟨rfl, hd⟩))
        go_ret2
        exact ⟨rfl, (by assumption : Below w.heap.size w _).trans ((Drawn0.below (by assumption)).mono (Below.size (by assumption)))⟩
      | true =>
        rw [if_neg (by simp)] at h
        obtain ⟨hbd, hok, hH1, hH2, hHe, hOk⟩ := ok_of_hyp l0 he
        have hb3 : 0 ≤ a2 ∧ a2 ≤ a3 ∧ a3 ≤ 1099511627776 := by unfold spanB at hsp; simp only [Bool.and_eq_true, decide_eq_true_eq] at hsp; omega
        obtain ⟨F, rfl⟩ : ∃ F : Nat, a2 = (F : Int) := ⟨a2.toNat, by omega⟩
        obtain ⟨E, rfl⟩ : ∃ E : Nat, a3 = (E : Int) := ⟨a3.toNat, by omega⟩
        obtain ⟨q, rfl⟩ : ∃ q : Nat, a1 = (q : Int) := ⟨a1.toNat, by omega⟩
        simp only [Int.toNat_natCast, Option.some.injEq, Prod.mk.injEq] at h
        obtain ⟨rfl, rfl⟩ := h
        rw [he, hHe] at HH
        obtain ⟨H, hH⟩ : ∃ H, hyp l0 = H := ⟨_, rfl⟩
        rw [hH] at hH1 hH2 HH hOk
        have hokL : okL l0 = true := (okL_iff _).2 ⟨hbd.1, hok⟩
        have HSu := Aside0.mk (fun (w1 : World) (hb : Below w.heap.size w w1) => supply_is A0 c0 l0 H q w1 (Kd.C_below HR.out hb) ((okL_iff _).1 hokL) hH2)
        have HBF := Aside0.mk (fun (w1 : World) (hb : Below w.heap.size w w1) => occ_supplier_below.calls _ _ _ A0 c0 l0 _ _ _ w1 (Kd.C_below HR.out hb) _hc0 (below_plain hokL hOk hH2 q F (by omega)))
        have HBE := Aside0.mk (fun (w1 : World) (hb : Below w.heap.size w w1) => occ_supplier_below.calls _ _ _ A0 c0 l0 _ _ _ w1 (Kd.C_below HR.out hb) _hc0 (below_plain hokL hOk hH2 q E (by omega)))
        obtain ⟨P, hP⟩ : ∃ P, (sv l0).count q 0 H = P := ⟨_, rfl⟩
        obtain ⟨C, hC⟩ : ∃ C, (sv l0).count q H H = C := ⟨_, rfl⟩
        have kF := count_le (sv l0) q 0 F
        have kE := count_le (sv l0) q 0 E
        obtain ⟨X, hX⟩ : ∃ X, (sv l0).count q 0 F = X := ⟨_, rfl⟩
        obtain ⟨Y, hY⟩ : ∃ Y, (sv l0).count q 0 E = Y := ⟨_, rfl⟩
        rw [hP, hC] at HSu HBF HBE
        rw [hX] at HBF kF ⊢
        rw [hY] at HBE kE ⊢
        have hw := Aside0.mk (show IntKind.i64.wrap ((Y : Int) - (X : Int)) = (Y : Int) - (X : Int) from IntWalk.i64_in _ (by omega))
        have hu69 := Tryd.underlying69
        clear hX hY hP hC hH hHe hOk hbd hok hokL hsp he hb3 kF kE hq
        go_enter Tryd.func13, Tryd.ntmps13
        go_wp2_with (first | (go_at_call 10; refine HH.out.mono ?_; rintro e w1 ⟨rfl, hb1⟩) | (go_at_call 36; refine (HSp.out _).mono ?_; rintro e w2 ⟨rfl, hd⟩; have hb2 := hb1.trans (hd.below.mono hb1.size); clear hd) | (go_at_call 37; refine (HSu.out _ hb2).mono ?_; rintro e w3 ⟨rfl, hb3⟩; replace hb3 := hb2.trans (hb3.mono hb2.size)))
        obtain ⟨w4, hw4⟩ : ∃ w4, w3.alloc (.cells #[.int .i64 (H : Nat), .int .i64 (P : Nat), .int .i64 (C : Nat), .slice A0 l0.length c0, .int .i64 (q : Nat)] 69) = w4 := ⟨_, rfl⟩
        have hS : CtAt w w3.heap.size (H : Nat) (P : Nat) (C : Nat) (.slice A0 l0.length c0) (q : Nat) w4 := ⟨by rw [← hw4]; exact heap_alloc_new _ _, by rw [← hw4]; exact hb3.alloc hb3.size _⟩
        rw [hw4]
        clear hw4 hb1 hb2 hb3 HH HSp HSu
        replace hw := hw.out
        obtain ⟨hS, c0', c1', c2', c3', c4'⟩ := hS.all
        go_region_held3 (fun w' => CtAt w w3.heap.size (H : Nat) (P : Nat) (C : Nat) (.slice A0 l0.length c0) (q : Nat) w' ∧ w'.cell? ⟨w3.heap.size, 0, none⟩ = some (.int .i64 (H : Nat)) ∧ w'.cell? ⟨w3.heap.size, 1, none⟩ = some (.int .i64 (P : Nat)) ∧ w'.cell? ⟨w3.heap.size, 2, none⟩ = some (.int .i64 (C : Nat)) ∧ w'.cell? ⟨w3.heap.size, 3, none⟩ = some (.slice A0 l0.length c0) ∧ w'.cell? ⟨w3.heap.size, 4, none⟩ = some (.int .i64 (q : Nat)))
          (first | exact CtAt.all (CtAt.drew (by assumption)) | exact CtAt.all (CtAt.below (And.left (by assumption)) (by assumption)) | exact CtAt.all (CtAt.below (by assumption) (by assumption)))
          (first
            | (go_at_call_of 38 (Value.int .i64 (E : Int)); refine (HBE.out _ ?hbb).mono ?_; (case hbb => (first | exact CtAt.bel (And.left (by assumption)) | exact CtAt.bel (by assumption))); rintro e w' ⟨rfl, hb⟩)
            | (go_at_call_of 38 (Value.int .i64 (F : Int)); refine (HBF.out _ ?hbb).mono ?_; (case hbb => (first | exact CtAt.bel (And.left (by assumption)) | exact CtAt.bel (by assumption))); rintro e w' ⟨rfl, hb⟩))
        go_wp2
        go_ret2
        exact ⟨rfl, CtAt.bel (And.left (by assumption))⟩
  · rw [if_neg he] at h
    obtain ⟨rfl, rfl⟩ : 0 = r1 ∧ (hypS lcmF l0).2 = r2 := by simpa using h
    clear HSp
    go_enter Tryd.func13, Tryd.ntmps13
    go_wp2_with (go_at_call 10; refine HH.out.mono ?_; rintro e w' ⟨rfl, hb⟩)
    go_ret2
    exact ⟨rfl, by assumption⟩
end Go.Proofs.YtmphhgcmmcomjaaDoor.B
