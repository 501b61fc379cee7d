/- Proved: the contracts of check.Hyper and check.Servers, in the form that printed texts cite. Condition: the variable errors.errorType holds what the program's text lays (GH). -/
import Derived.Test.YtepidpcdbdbemaaDoorHCheck
import Derived.Test.YtepidpcdbdbemaaDoorHLcm
namespace Go.Proofs.YtepidpcdbdbemaaDoor.B
open Go.RowKit Go.Proofs.YtepidpcdbdbemaaDoorW.PrintWords Go.Proofs.YtepidpcdbdbemaaDoorW.PrintLast Go.Proofs.YtepidpcdbdbemaaDoorW.PrintMore

/-- errors.errorType holds what the program's text lays. -/
def GH (w : World) : Prop := w.cell? ⟨0, 0, none⟩ = some (.iface 118 (.agg #[.pointer (some ⟨1, 55, none⟩)]))
theorem GH_below {w w1 : World} (h : GH w) (hb : Below w.heap.size w w1) : GH w1 := (hb.cell (p := ⟨0, 0, none⟩) (World.block_lt_of_cell? w _ h)).trans h
theorem GH_alloc {w : World} (h : GH w) (o : Obj) : GH (w.alloc o) := GH_below h ((Below.refl _ _).alloc (Nat.le_refl _) o)
theorem GH_drewN {w : World} (h : GH w) (n : Nat) : GH (w.drewN n) := h
theorem GH_drew {w : World} (h : GH w) : GH w.drew := h

def check_Hyper.f (l : List S25) : Option (Int × Int) := some (hypS lcmF l)
theorem check_Hyper.calls (A0 : Option Addr) (c0 : Nat) (l0 : List S25) (r1 : Int) (r2 : Int) (w : World) (hr0 : Kd.C k25 w A0 l0.length l0) (_hc0 : l0.length ≤ c0) (hG : GH w) (h : check_Hyper.f l0 = some (r1, r2)) :
    Calls Tryd.prog 8 #[.slice A0 l0.length c0] w fun e w' => e = .returned (.tuple #[.int .i64 r1, .int .i64 r2]) ∧ Below w.heap.size w w' := by
  obtain ⟨K, hK⟩ := lcmF_is
  have e : hypS lcmF l0 = (r1, r2) := Option.some.inj h
  have := Hyper_is A0 c0 l0 w hr0 lcmF K hK hG
  rw [e] at this
  exact this

/-- The place of the first server that may not be. -/
def badFrom (l : List S25) : Nat → Nat → Nat
  | i, 0 => i
  | i, d + 1 => if okAt l i = true then badFrom l (i + 1) d else i
theorem badFrom_none (l : List S25) : ∀ d i, (∀ j, i ≤ j → j < i + d → okAt l j = true) → badFrom l i d = i + d
  | 0, _, _ => rfl
  | d + 1, i, h => by
    unfold badFrom
    rw [if_pos (h i (by omega) (by omega)), badFrom_none l d (i + 1) (fun j h1 h2 => h j (by omega) (by omega))]; omega
theorem badFrom_some (l : List S25) (n : Nat) (hn : okAt l n = false) : ∀ d i, i ≤ n → n < i + d → (∀ j, i ≤ j → j < n → okAt l j = true) → badFrom l i d = n
  | 0, _, h1, h2, _ => by omega
  | d + 1, i, h1, h2, h => by
    unfold badFrom
    by_cases e : i = n
    · subst e; rw [if_neg (by rw [hn]; simp)]
    · rw [if_pos (h i (by omega) (by omega)), badFrom_some l n hn d (i + 1) (by omega) (by omega) (fun j h3 h4 => h j (by omega) h4)]
def servS (l : List S25) : Int × Int := if 32 < l.length then (100, 0) else if badFrom l 0 l.length < l.length then (101, (badFrom l 0 l.length : Int) + 1) else (0, 0)
def check_Servers.f (l : List S25) : Option (Int × Int) := some (servS l)
set_option maxHeartbeats 4000000 in
theorem check_Servers.calls (A0 : Option Addr) (c0 : Nat) (l0 : List S25) (r1 : Int) (r2 : Int) (w : World) (hr0 : Kd.C k25 w A0 l0.length l0) (_hc0 : l0.length ≤ c0) (hG : GH w) (h : check_Servers.f l0 = some (r1, r2)) :
    Calls Tryd.prog 6 #[.slice A0 l0.length c0] w fun e w' => e = .returned (.tuple #[.int .i64 r1, .int .i64 r2]) ∧ Below w.heap.size w w' := by
  have HR := Aside0.mk hr0
  have HG := Aside0.mk hG
  have HH : Aside0 (servS l0 = (r1, r2)) := ⟨Option.some.inj h⟩
  clear hr0 hG h
  go_enter Tryd.func6, Tryd.ntmps6
  go_wp2_with (go_at_call 19; refine (servers_is _ _ _ _ HR.out).mono ?_)
  rintro e w1 ⟨hB, (⟨h32, hok, rfl⟩ | ⟨r, p, b, rfl, hc0, hc1, hcase⟩)⟩
  · have hS : (r1, r2) = (0, 0) := by
      rw [← HH.out]; unfold servS
      rw [if_neg (by omega), badFrom_none l0 l0.length 0 (fun j _ hj => hok j (by omega)), if_neg (by omega)]
    simp only [Prod.mk.injEq] at hS
    obtain ⟨rfl, rfl⟩ := hS
    have HB := Aside0.mk hB
    clear hB hok HH
    go_wp2_with (go_at_call 18; refine (face_nil _).mono ?_; rintro e w' ⟨rfl, hb⟩)
    go_ret2
    exact ⟨rfl, HB.out.trans (hb.mono HB.out.size)⟩
  · have hS : (r1, r2) = (r, p) := by
      rw [← HH.out]; unfold servS
      rcases hcase with ⟨h, rfl, rfl⟩ | ⟨h, i, hi, hok, hb, rfl, rfl⟩
      · rw [if_pos h]
      · rw [if_neg (by omega), badFrom_some l0 i hb l0.length 0 (by omega) (by omega) (fun j _ hj => hok j hj), if_pos hi]
    simp only [Prod.mk.injEq] at hS
    obtain ⟨rfl, rfl⟩ := hS
    have HB := Aside0.mk hB
    have HG1 := Aside0.mk (GH_below HG.out (by exact hB))
    have H0 := Aside0.mk hc0
    have H1 := Aside0.mk hc1
    clear hB hcase hc0 hc1 HH
    go_wp2_with (go_at_call 18; refine (face_wrong _ _ _ _ HG1.out H0.out H1.out).mono ?_; rintro e w' ⟨rfl, hb⟩)
    go_ret2
    exact ⟨rfl, HB.out.trans (hb.mono HB.out.size)⟩

end Go.Proofs.YtepidpcdbdbemaaDoor.B
