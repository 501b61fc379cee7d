/- The law SlotsTell, plainly: the table's parts are tight, of H ticks each, and tell the occupant of every tick. -/
import Derived.Test.YtckdjcidbpnfeaaDoorLx3
import Derived.Test.YtckdjcidbpnfeaaDoorLx2
import Derived.Test.YtckdjcidbpnfeaaDoorHSlotAt13
import Derived.Test.YtckdjcidbpnfeaaDoorHOpen
namespace Go.Proofs.YtckdjcidbpnfeaaDoor.Pure
open Go.Proofs.YtckdjcidbpnfeaaDoor.B
open Go.RowKit Go.Proofs.YtckdjcidbpnfeaaDoorW.PrintWords Go.Proofs.YtckdjcidbpnfeaaDoorW.PrintLast Go.Proofs.YtckdjcidbpnfeaaDoorW.PrintMore

theorem lives_20 : bulkheadlaw13_lives.f 20 = some true := by decide +kernel
theorem lives_true : ∀ k, bulkheadlaw13_lives.f (k + 20) = some true
  | 0 => by rw [Nat.zero_add]; exact lives_20
  | k + 1 => by
    rw [show k + 1 + 20 = k + 20 + 1 by omega]
    exact bulkheadlaw13_lives.mono (k + 20) true (lives_true k)

theorem total_from (P : List (Nat × Nat)) (ht : tot P ≤ 4194304) (hl : P.length ≤ 4194304) : ∀ (d i k : Nat), i + d = P.length → d < k → bulkheadlaw13_total.l0 k (P.map toS) ((tot (P.take i) : Nat) : Int) (i : Int) = some ((tot P : Nat) : Int) := by
  intro d
  induction d with
  | zero =>
    intro i k hi hk
    obtain ⟨k, rfl⟩ : ∃ m, k = m + 1 := ⟨k - 1, by omega⟩
    simp only [bulkheadlaw13_total.l0]
    rw [if_neg (by simp; omega), List.take_of_length_le (by omega)]
  | succ d ih =>
    intro i k hi hk
    obtain ⟨k, rfl⟩ : ∃ m, k = m + 1 := ⟨k - 1, by omega⟩
    have hil : i < P.length := by omega
    have hts := tot_take_succ P i hil
    have htl := tot_take_le P (i + 1)
    have f0 : (toS (P[i])).f0 = ((P[i]).1 : Int) := rfl
    simp only [bulkheadlaw13_total.l0]
    rw [if_pos (by simp; omega), if_pos (by omega), rdS P i hil, f0, show wrap64 (((tot (P.take i) : Nat) : Int) + ((P[i]).1 : Int)) = ((tot (P.take (i + 1)) : Nat) : Int) by unfold wrap64; omega,
      show wrap64 ((i : Int) + 1) = ((i + 1 : Nat) : Int) by unfold wrap64; omega]
    exact ih (i + 1) k (by omega) (by omega)
theorem total_is (P : List (Nat × Nat)) (ht : tot P ≤ 4194304) (hl : P.length ≤ 4194304) (k : Nat) (hk : P.length < k) : bulkheadlaw13_total.f k (P.map toS) = some ((tot P : Nat) : Int) :=
  total_from P ht hl P.length 0 k (by omega) hk
theorem tight_from (n : Nat) (P : List (Nat × Nat)) (hG : Goes n P) (h0 : 0 < P.length) (hl : P.length ≤ 4194304) : ∀ (d i k : Nat), i + d = P.length → d < k → bulkheadlaw13_tight.l0 k (P.map toS) (n : Int) (i : Int) = some true := by
  intro d
  induction d with
  | zero =>
    intro i k hi hk
    obtain ⟨k, rfl⟩ : ∃ m, k = m + 1 := ⟨k - 1, by omega⟩
    simp only [bulkheadlaw13_tight.l0]
    rw [if_neg (by simp; omega), decide_eq_true (by simp; omega)]
  | succ d ih =>
    intro i k hi hk
    obtain ⟨k, rfl⟩ : ∃ m, k = m + 1 := ⟨k - 1, by omega⟩
    have hil : i < P.length := by omega
    obtain ⟨g1, g2, g3⟩ := goes_at n P i (P[i]) hG (List.getElem?_eq_getElem hil)
    have f0 : (toS (P[i])).f0 = ((P[i]).1 : Int) := rfl
    have f1 : (toS (P[i])).f1 = ((P[i]).2 : Int) := rfl
    have nx := ih (i + 1) k (by omega) (by omega)
    simp only [bulkheadlaw13_tight.l0]
    rw [if_pos (by simp; omega), if_pos (by omega), rdS P i hil, f0, f1, if_neg (by omega), if_neg (by omega), if_neg (by omega), show wrap64 ((i : Int) + 1) = ((i + 1 : Nat) : Int) by unfold wrap64; omega, nx]
    by_cases c : (i : Int) > 0
    · have e : wrap64 ((i : Int) - 1) = ((i - 1 : Nat) : Int) := by unfold wrap64; omega
      rw [if_pos c, e, if_pos (by omega), if_pos (by simp; omega), rdS P (i - 1) (by omega)]
      rw [if_neg]
      intro hq
      have hq' : ((P[i]).2 : Int) = ((P[i - 1]'(by omega)).2 : Int) := hq
      obtain ⟨_, _, g4⟩ := goes_at n P (i - 1) (P[i - 1]'(by omega)) hG (List.getElem?_eq_getElem (by omega))
      refine g4 (P[i]) ?_ (by omega)
      rw [show i - 1 + 1 = i by omega]; exact List.getElem?_eq_getElem hil
    · rw [if_neg c]
theorem tight_is (n : Nat) (P : List (Nat × Nat)) (hG : Goes n P) (h0 : 0 < P.length) (hl : P.length ≤ 4194304) (k : Nat) (hk : P.length < k) : bulkheadlaw13_tight.f k (P.map toS) (n : Int) = some true :=
  tight_from n P hG h0 hl P.length 0 k (by omega) hk

theorem occ_le (l : List S24) (t : Nat) : (sv l).occ t ≤ l.length := OccMath.chosen_le _ _ _
theorem at_ok {l : List S24} (h : (hypS lcmF l).2 = 0) (t : Nat) (ht : (t : Int) < 1099511627776) : occ_At.f l (t : Int) = some ((((sv l).occ t : Nat) : Int), 0) := by
  unfold occ_At.f
  rw [if_pos h, if_neg (by omega), Int.toNat_natCast]
theorem at_no {l : List S24} (h : (hypS lcmF l).2 = 0) (t : Int) (ht : t < 0 ∨ 1099511627776 ≤ t) : occ_At.f l t = some (0, 2) := by
  unfold occ_At.f
  rw [if_pos h, if_pos ht]

/-- The table of servers that may be goes, and tells. -/
theorem table_of (l : List S24) (he : (hypS lcmF l).2 = 0) : Table (rle (sv l).occ 0 (hyp l)) (rle (sv l).occ (hyp l) (hyp l)) (hyp l) := by
  obtain ⟨hbd, hok, hH1, hH2, hHe, hO⟩ := ok_of_hyp l he
  have h32 : l.length ≤ 32 := hbd.1
  exact ⟨goes_of_lies _ 32 (fun t => Nat.le_trans (occ_le l t) h32) _ _ (rle_lies _ _ _).1, goes_of_lies _ 32 (fun t => Nat.le_trans (occ_le l t) h32) _ _ (rle_lies _ _ _).1, (rle_lies _ _ _).2, (rle_lies _ _ _).2, hH1, hH2⟩
theorem tells (l : List S24) (he : (hypS lcmF l).2 = 0) (t : Int) : slots_At.f ((rle (sv l).occ 0 (hyp l)).map toS) ((rle (sv l).occ (hyp l) (hyp l)).map toS) t = occ_At.f l t := by
  obtain ⟨hbd, hok, hH1, hH2, hHe, hO⟩ := ok_of_hyp l he
  rw [slots_At.good (table_of l he)]
  by_cases c : t < 0 ∨ 1099511627776 ≤ t
  · rw [if_pos c, at_no he t c]
  · rw [if_neg c]
    obtain ⟨T, rfl⟩ : ∃ T : Nat, t = (T : Int) := ⟨t.toNat, by omega⟩
    rw [at_ok he T (by omega), Int.toNat_natCast]
    generalize hyp l = H at *
    obtain ⟨a1, a2⟩ := rle_lies (sv l).occ 0 H
    obtain ⟨b1, b2⟩ := rle_lies (sv l).occ H H
    by_cases d : T < H
    · rw [if_pos d, if_pos d, partAt_lies _ _ 0 T a1 (by omega), Nat.zero_add]
    · rw [if_neg d, if_neg d]
      have hm := Nat.mod_lt T (show H > 0 by omega)
      rw [partAt_lies _ _ H (T % H) b1 (by omega)]
      have h1 := Nat.div_add_mod T H
      have h2 : 1 ≤ T / H := (Nat.le_div_iff_mul_le (by omega)).2 (by omega)
      have h3 := occ_turns hO (T / H - 1) (H + T % H) (by omega)
      have h4 : (T / H - 1) * H = T / H * H - H := by rw [Nat.sub_mul, Nat.one_mul]
      have h5 : H ≤ T / H * H := Nat.le_mul_of_pos_left H (by omega)
      rw [Nat.mul_comm] at h1
      rw [show H + T % H + (T / H - 1) * H = T by omega] at h3
      rw [h3]

theorem tell_loop (l : List S24) (ts : List Int) (he : (hypS lcmF l).2 = 0) (hl : ts.length ≤ 1000) : ∀ (d i k : Nat), i + d = ts.length → d < k →
    bulkheadlaw13_SlotsTell.l0 k l ts (i : Int) ((rle (sv l).occ 0 (hyp l)).map toS) ((rle (sv l).occ (hyp l) (hyp l)).map toS) = some true := by
  intro d
  induction d with
  | zero =>
    intro i k hi hk
    obtain ⟨k, rfl⟩ : ∃ m, k = m + 1 := ⟨k - 1, by omega⟩
    simp only [bulkheadlaw13_SlotsTell.l0]
    rw [if_neg (by omega)]
  | succ d ih =>
    intro i k hi hk
    obtain ⟨k, rfl⟩ : ∃ m, k = m + 1 := ⟨k - 1, by omega⟩
    have nx := ih (i + 1) k (by omega) (by omega)
    simp only [bulkheadlaw13_SlotsTell.l0]
    rw [if_pos (by omega), if_pos (by omega), tells l he]
    obtain ⟨r, hr⟩ : ∃ r, occ_At.f l (rd ts (i : Int)) = some r := by unfold occ_At.f; exact ⟨_, rfl⟩
    rw [hr]
    simp only [Option.bind_some]
    rw [if_pos trivial, if_pos trivial, show wrap64 ((i : Int) + 1) = ((i + 1 : Nat) : Int) by unfold wrap64; omega]
    exact nx

theorem SlotsTell (l : List S24) (ts : List Int) (_hl : l.length * 32 ≤ 140737488351232) (_hw : ∀ s ∈ l, WfS s) (_hl1 : ts.length * 8 ≤ 140737488351232) (_hw1 : ∀ x ∈ ts, (Lit.int .i64 x).wf = true) : ∃ k, bulkheadlaw13_SlotsTell.f k l ts = some true := by
  obtain ⟨K, hK⟩ : ∃ K : Nat, 4194304 ≤ K := ⟨_, Nat.le_refl _⟩
  refine ⟨K + 1 + 1, ?_⟩
  have hlv : bulkheadlaw13_lives.f (K + 1) = some true := by
    have := lives_true (K + 1 - 20)
    rw [show K + 1 - 20 + 20 = K + 1 by omega] at this
    exact this
  unfold bulkheadlaw13_SlotsTell.f check_Hyper.f slots_Make.f
  simp only [Option.bind_some]
  by_cases he : (hypS lcmF l).2 = 0
  · rw [if_pos he, if_pos he]
    dsimp only
    by_cases c : (ts.length : Int) > 1000
    · rw [decide_eq_true c, bulkheadlaw13_SlotsTell.j0, if_pos rfl, if_pos he.symm, hlv]; rfl
    · rw [decide_eq_false c]
      obtain ⟨hbd, hok, hH1, hH2, hHe, hO⟩ := ok_of_hyp l he
      have h32 : l.length ≤ 32 := hbd.1
      have tb := table_of l he
      have few := slots_few l he
      have lp := tell_loop l ts he (by omega) ts.length 0 K (by omega) (by omega)
      have gp := goes_of_lies (sv l).occ l.length (occ_le l) _ _ (rle_lies (sv l).occ 0 (hyp l)).1
      have gc := goes_of_lies (sv l).occ l.length (occ_le l) _ _ (rle_lies (sv l).occ (hyp l) (hyp l)).1
      rw [hHe, bulkheadlaw13_SlotsTell.j0]
      generalize rle (sv l).occ 0 (hyp l) = P at *
      generalize rle (sv l).occ (hyp l) (hyp l) = C at *
      have l1 := tb.lp
      have l2 := tb.lc
      have t1 := tb.tp
      have t2 := tb.tc
      have h1 := tb.h1
      have h2 := tb.h2
      have p1 : 0 < P.length := by
        cases P with
        | nil => simp [tot] at t1; omega
        | cons p P => simp
      have p2 : 0 < C.length := by
        cases C with
        | nil => simp [tot] at t2; omega
        | cons p P => simp
      rw [if_neg (by decide), if_pos rfl, total_is P (by omega) (by omega) _ (by omega), Option.bind_some, t1, if_pos rfl, total_is C (by omega) (by omega) _ (by omega), Option.bind_some, t2, if_pos rfl,
        tight_is l.length P gp p1 (by omega) _ (by omega), Option.bind_some, if_pos rfl, tight_is l.length C gc p2 (by omega) _ (by omega), Option.bind_some, if_pos rfl]
      rw [List.length_map, List.length_map, show wrap64 ((P.length : Int) + (C.length : Int)) = ((P.length + C.length : Nat) : Int) by unfold wrap64; omega, if_neg (by omega), hlv, Option.bind_some, bulkheadlaw13_SlotsTell.j1, if_neg (by decide)]
      exact lp
  · rw [if_neg he, if_neg he]
    dsimp only
    rw [bulkheadlaw13_SlotsTell.j0, if_pos rfl, if_pos rfl, hlv]; rfl
end Go.Proofs.YtckdjcidbpnfeaaDoor.Pure
