/- Proved: the contracts of ahead and Pick. Conditions: the table's length is that of a list. -/
import Derived.Test.YtfnlankpdnkmoaaQNew
namespace Go.Proofs.Ytfnlankpdnkmoaa.B
open Go.RowKit Go.Proofs.YtfnlankpdnkmoaaW.PrintWords Go.Proofs.YtfnlankpdnkmoaaW.PrintLast Go.Proofs.YtfnlankpdnkmoaaW.PrintMore

def PS.ahead (x y : PS) : Bool := if x.pr = y.pr then decide (x.pl < y.pl) else decide (y.pr < x.pr)
set_option maxHeartbeats 4000000 in
set_option maxRecDepth 100000 in
theorem ahead_is (W : World) (base g : Nat) (T : Tb) (h : TabAt W base g T) (q i j : Nat) (x y : PS) (hA : T.sv.A = some ⟨q, 0, none⟩) (hx : T.xs[i]? = some x) (hy : T.xs[j]? = some y) :
    Calls Try.prog 58 #[.pointer (some ⟨q, i * 28, none⟩), .pointer (some ⟨q, j * 28, none⟩)] W fun e w' => e = .returned (.bool (x.ahead y)) ∧ Below W.heap.size W w' := by
  have hu48 := Try.underlying48
  have x1 := h.r_pr hA hx
  have x2 := h.r_pl hA hx
  have y1 := h.r_pr hA hy
  have y2 := h.r_pl hA hy
  unfold PS.ahead
  generalize x.pr = a1 at *
  generalize x.pl = a2 at *
  generalize y.pr = b1 at *
  generalize y.pl = b2 at *
  clear h hA hx hy
  by_cases h1 : a1 = b1
  · rw [if_pos h1]
    subst h1
    have q1 : (a1 != a1) = false := by simp
    obtain ⟨d, hd⟩ : ∃ d, decide (a2 < b2) = d := ⟨_, rfl⟩
    rw [hd]
    go_enter Try.func58, Try.ntmps58
    go_wp2
    go_quiet (fail)
    go_wp2
    go_quiet (fail)
    go_wp2
    go_ret
    exact ⟨rfl, by repeat (first | exact Below.refl _ _ | apply pw_below_drewN | apply below_drew1)⟩
  · rw [if_neg h1]
    have q1 : (a1 != b1) = true := by rw [bne_iff_ne]; exact h1
    have q2 : (a1 == b1) = false := by rw [beq_eq_false_iff_ne]; exact h1
    go_enter Try.func58, Try.ntmps58
    go_wp2
    go_quiet (fail)
    go_wp2
    go_quiet (fail)
    go_wp2
    go_ret
    exact ⟨rfl, by repeat (first | exact Below.refl _ _ | apply pw_below_drewN | apply below_drew1)⟩
/-- Whether a process is ready. -/
def Tb.rdy (T : Tb) (p : Int) : Prop := 1 ≤ p ∧ ∃ x, T.xs[(p - 1).toNat]? = some x ∧ x.st = 1
set_option maxHeartbeats 4000000 in
set_option maxRecDepth 100000 in
theorem ready_any (W : World) (base g : Nat) (T : Tb) (h : TabAt W base g T) (hn : T.xs.length ≤ 4294967296) (p : Int) :
    ∃ o : Option Addr, (o.isSome = true ↔ T.rdy p) ∧ Calls Try.prog 57 #[.pointer (some ⟨g, 0, none⟩), .int .i64 p] W fun e w' => e = .returned (.pointer o) ∧ W = w' := by
  by_cases hp : p < 1 ∨ (T.xs.length : Int) < p
  · refine ⟨none, ⟨fun h => by simp at h, fun ⟨h1, x, h2, _⟩ => ?_⟩, ?_⟩
    · obtain ⟨h3, _⟩ := List.getElem?_eq_some_iff.1 h2
      omega
    · have HA := Aside0.mk (at_out W base g T h p hp)
      clear h hp
      go_enter Try.func57, Try.ntmps57
      go_wp2_with (go_at_call 35; refine HA.out.mono ?_; rintro e w' ⟨rfl, rfl⟩)
      go_ret
      exact ⟨rfl, rfl⟩
  · obtain ⟨i, hi⟩ : ∃ i : Nat, p = (i : Int) + 1 := ⟨(p - 1).toNat, by omega⟩
    subst hi
    have hil : i < T.xs.length := by omega
    obtain ⟨x, hx⟩ : ∃ x, T.xs[i]? = some x := ⟨_, List.getElem?_eq_getElem hil⟩
    obtain ⟨pd, hpd⟩ : ∃ p, T.ps[i]? = some p := ⟨_, List.getElem?_eq_getElem (by have := h.len; omega)⟩
    obtain ⟨q, hA⟩ := h.A hx
    refine ⟨_, ?_, ready_is W base g T q i x pd ⟨h, hA, hx, hpd, hn⟩⟩
    have e : ((i : Int) + 1 - 1).toNat = i := by omega
    unfold Tb.rdy
    rw [e, hx]
    by_cases h1 : x.st = 1
    · rw [if_pos h1]
      exact ⟨fun _ => ⟨by omega, x, rfl, h1⟩, fun _ => rfl⟩
    · rw [if_neg h1]
      exact ⟨fun h => by simp at h, fun ⟨_, y, hy, h2⟩ => by cases hy; exact absurd h2 h1⟩
/-- The best of the first ones. -/
def bst1 (xs : List PS) (best i : Nat) : Nat :=
  match xs[i]? with
  | none => best
  | some x => if x.st = 1 ∧ (best = 0 ∨ ∃ y, xs[best - 1]? = some y ∧ x.ahead y = true) then i + 1 else best
def bstL (xs : List PS) : Nat → Nat
  | 0 => 0
  | i + 1 => bst1 xs (bstL xs i) i
open Classical in
noncomputable def Tb.pick (T : Tb) : Int × Bool := if T.rdy T.handler then (T.handler, true) else if T.lock ≠ 0 then (T.lock, true) else (((bstL T.xs T.xs.length : Nat) : Int), (((bstL T.xs T.xs.length : Nat) : Int) != 0))
theorem bst1_le {xs : List PS} {b i : Nat} (h : b ≤ i) : bst1 xs b i ≤ i + 1 := by
  unfold bst1
  split
  · omega
  · split <;> omega
theorem bstL_le (xs : List PS) : ∀ i, bstL xs i ≤ i
  | 0 => Nat.le_refl _
  | i + 1 => bst1_le (bstL_le xs i)
set_option maxHeartbeats 8000000 in
set_option maxRecDepth 100000 in
theorem pick_is (W : World) (base g : Nat) (T : Tb) (h : TabAt W base g T) (hn : T.xs.length ≤ 4294967296) :
    Calls Try.prog 29 #[.pointer (some ⟨g, 0, none⟩)] W fun e w' => e = .returned (.tuple #[.int .i64 T.pick.1, .bool T.pick.2]) ∧ Below W.heap.size W w' := by
  have hu86 := Try.underlying86
  have hu48 := Try.underlying48
  obtain ⟨o, ho, hR⟩ := ready_any W base g T h hn T.handler
  have HR := Aside0.mk hR
  have c2 := h.c2
  have c4 := h.c4
  have j3 : W.cell? ⟨g, 3, none⟩ = some (.slice T.sv.A T.xs.length T.sv.c) := by rw [← h.sn]; exact h.c3
  by_cases hh : T.rdy T.handler
  · have hpk : T.pick = (T.handler, true) := by unfold Tb.pick; rw [if_pos hh]
    rw [hpk]
    have hos := ho.2 hh
    obtain ⟨ad, rfl⟩ := Option.isSome_iff_exists.1 hos
    generalize T.handler = H at *
    clear h hh hpk ho hR hos
    go_enter Try.func29, Try.ntmps29
    go_wp2_with (go_at_call 57; refine HR.out.mono ?_; rintro e w' ⟨rfl, rfl⟩)
    go_ret2
    exact ⟨rfl, Below.refl _ _⟩
  · have hon : o = none := by
      cases o with
      | none => rfl
      | some a => exact absurd (ho.1 rfl) hh
    subst hon
    by_cases hl : T.lock = 0
    · have hpk : T.pick = (((bstL T.xs T.xs.length : Nat) : Int), (((bstL T.xs T.xs.length : Nat) : Int) != 0)) := by unfold Tb.pick; rw [if_neg hh, if_neg (fun h => h hl)]
      rw [hpk]
      have H := Aside0.mk h
      obtain ⟨n, hN⟩ : ∃ n, T.xs.length = n := ⟨_, rfl⟩
      rw [hN] at j3 hn ⊢
      have HN := Aside0.mk hN
      rw [hl] at c4
      generalize T.handler = HD at *
      clear h hh hpk ho hR hN hl
      go_enter Try.func29, Try.ntmps29
      go_wp2_with (go_at_call 57; refine HR.out.mono ?_; rintro e w' ⟨rfl, rfl⟩)
      go_loopw [4, 32] (fun v4 v32 wr => ∃ i : Nat, v32 = .int .i64 (i : Nat) ∧ i ≤ n ∧ v4 = .int .i64 (bstL T.xs i : Nat) ∧ Aside0 (Below W.heap.size W wr)) (fun _ vi _ => n - (intOf vi).toNat)
      case atStart => exact ⟨0, rfl, Nat.zero_le _, rfl, ⟨Below.refl _ _⟩⟩
      case round =>
        obtain ⟨i, rfl, hi, rfl, HB⟩ := hrel
        by_cases hlt : i < n
        · have hii : (i : Int) < (n : Int) := by omega
          obtain ⟨x, hx⟩ : ∃ x, T.xs[i]? = some x := ⟨_, List.getElem?_eq_getElem (by have := HN.out; omega)⟩
          obtain ⟨p, hp⟩ : ∃ p, T.ps[i]? = some p := ⟨_, List.getElem?_eq_getElem (by have := HN.out; have := H.out.len; omega)⟩
          obtain ⟨q, hA⟩ := H.out.A hx
          have hAt : At W base g T q i x p := ⟨H.out, hA, hx, hp, by have := HN.out; omega⟩
          have HRD := Aside0.mk (fun (w' : World) (hb : Below W.heap.size W w') => ready_is w' base g T q i x p (hAt.below hb))
          have hbi := bstL_le T.xs i
          by_cases h1 : x.st = 1
          · rw [if_pos h1] at HRD
            by_cases h2 : bstL T.xs i = 0
            · have HS := Aside0.mk (show bstL T.xs (i + 1) = i + 1 by
                show bst1 T.xs (bstL T.xs i) i = i + 1
                unfold bst1
                rw [hx]
                exact if_pos ⟨h1, .inl h2⟩)
              rw [h2]
              clear hx hp hA hAt h1 h2 hbi
              go_wp2_with (go_at_call 57; refine (HRD.out _ HB.out).mono ?_; rintro e w' ⟨rfl, rfl⟩)
              go_roundw
              case rel => exact ⟨i + 1, by go_num, by omega, by rw [HS.out]; go_num, HB⟩
              case measure => simp [intOf]; omega
            · obtain ⟨b, hb⟩ : ∃ b : Nat, bstL T.xs i = b + 1 := ⟨bstL T.xs i - 1, by omega⟩
              obtain ⟨y, hy⟩ : ∃ y, T.xs[b]? = some y := ⟨_, List.getElem?_eq_getElem (by have := HN.out; omega)⟩
              obtain ⟨p2, hp2⟩ : ∃ p, T.ps[b]? = some p := ⟨_, List.getElem?_eq_getElem (by have := HN.out; have := H.out.len; omega)⟩
              have hAt2 : At W base g T q b y p2 := ⟨H.out, hA, hy, hp2, by have := HN.out; omega⟩
              have HAT := Aside0.mk (fun (w' : World) (hb : Below W.heap.size W w') => (hAt2.below hb).at_)
              have HAH := Aside0.mk (fun (w' : World) (hb : Below W.heap.size W w') => ahead_is w' base g T (H.out.below hb) q i b x y hA hx hy)
              have HS := Aside0.mk (show bstL T.xs (i + 1) = if x.ahead y = true then i + 1 else b + 1 by
                show bst1 T.xs (bstL T.xs i) i = _
                unfold bst1
                rw [hx, hb]
                by_cases h3 : x.ahead y = true
                · rw [if_pos h3]
                  exact if_pos ⟨h1, .inr ⟨y, by simpa using hy, h3⟩⟩
                · rw [if_neg h3]
                  refine if_neg fun h4 => ?_
                  rcases h4.2 with h5 | ⟨z, hz, h5⟩
                  · omega
                  · simp only [Nat.add_sub_cancel] at hz
                    rw [hy] at hz
                    cases hz
                    exact h3 h5)
              rw [hb]
              have q3 : (((b : Int) + 1) == 0) = false := by rw [beq_eq_false_iff_ne]; omega
              have hcb : ((b + 1 : Nat) : Int) = (b : Int) + 1 := by omega
              rw [hcb]
              clear hx hp hA hAt h1 h2 hy hp2 hAt2 hb
              cases hz : x.ahead y
              · rw [hz] at HAH HS
                clear hz
                go_wp2_with (first
                  | (go_at_call 57; refine (HRD.out _ HB.out).mono ?_; rintro e w' ⟨rfl, rfl⟩)
                  | (go_at_call 35; refine (HAT.out _ HB.out).mono ?_; rintro e w' ⟨rfl, rfl⟩)
                  | (go_at_call 58; refine (HAH.out _ HB.out).mono ?_; rintro e w1 ⟨rfl, hb⟩; have HB1 := Aside0.mk (HB.out.trans (hb.mono HB.out.size)); clear hb))
                go_roundw
                case rel => exact ⟨i + 1, by go_num, by omega, by rw [HS.out, if_neg (by decide)]; go_num, HB1⟩
                case measure => simp [intOf]; omega
              · rw [hz] at HAH HS
                clear hz
                go_wp2_with (first
                  | (go_at_call 57; refine (HRD.out _ HB.out).mono ?_; rintro e w' ⟨rfl, rfl⟩)
                  | (go_at_call 35; refine (HAT.out _ HB.out).mono ?_; rintro e w' ⟨rfl, rfl⟩)
                  | (go_at_call 58; refine (HAH.out _ HB.out).mono ?_; rintro e w1 ⟨rfl, hb⟩; have HB1 := Aside0.mk (HB.out.trans (hb.mono HB.out.size)); clear hb))
                go_roundw
                case rel => exact ⟨i + 1, by go_num, by omega, by rw [HS.out, if_pos trivial]; go_num, HB1⟩
                case measure => simp [intOf]; omega
          · rw [if_neg h1] at HRD
            have HS := Aside0.mk (show bstL T.xs (i + 1) = bstL T.xs i by
              show bst1 T.xs (bstL T.xs i) i = _
              unfold bst1
              rw [hx]
              exact if_neg fun h => h1 h.1)
            generalize bstL T.xs i = b at *
            clear hx hp hA hAt h1
            go_wp2_with (go_at_call 57; refine (HRD.out _ HB.out).mono ?_; rintro e w' ⟨rfl, rfl⟩)
            go_roundw
            case rel => exact ⟨i + 1, by go_num, by omega, by rw [HS.out], HB⟩
            case measure => simp [intOf]; omega
        · have hii : ¬ ((i : Int) < (n : Int)) := by omega
          have him : i = n := by omega
          subst him
          go_wp2
          go_ret2
          exact ⟨rfl, HB.out⟩
    · have hpk : T.pick = (T.lock, true) := by unfold Tb.pick; rw [if_neg hh, if_pos hl]
      rw [hpk]
      have q1 : (T.lock != 0) = true := by rw [bne_iff_ne]; exact hl
      have q2 : (T.lock == 0) = false := by rw [beq_eq_false_iff_ne]; exact hl
      generalize T.handler = HD at *
      generalize T.lock = L at *
      clear h hh hpk ho hR
      go_enter Try.func29, Try.ntmps29
      go_wp2_with (go_at_call 57; refine HR.out.mono ?_; rintro e w' ⟨rfl, rfl⟩)
      go_ret2
      exact ⟨rfl, Below.refl _ _⟩
end Go.Proofs.Ytfnlankpdnkmoaa.B
