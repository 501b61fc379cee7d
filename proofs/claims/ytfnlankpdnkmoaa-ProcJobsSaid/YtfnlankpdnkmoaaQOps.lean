/- Proved: the contracts of the table's small functions. Conditions: the table's length is that of a list. -/
import Derived.Test.YtfnlankpdnkmoaaQTab2
import Derived.Outline
import Derived.LoopTactic
import Derived.Laws.Slices
namespace Go.Proofs.Ytfnlankpdnkmoaa.B
open Go.RowKit Go.Proofs.YtfnlankpdnkmoaaW.PrintWords Go.Proofs.YtfnlankpdnkmoaaW.PrintLast Go.Proofs.YtfnlankpdnkmoaaW.PrintMore

set_option maxHeartbeats 4000000 in
set_option maxRecDepth 100000 in
theorem at_in (W : World) (base g : Nat) (T : Tb) (h : TabAt W base g T) (q i : Nat) (hA : T.sv.A = some ⟨q, 0, none⟩) (hi : i < T.xs.length) (hn : T.xs.length ≤ 4294967296) :
    Calls Try.prog 35 #[.pointer (some ⟨g, 0, none⟩), .int .i64 ((i : Int) + 1)] W fun e w' => e = .returned (.pointer (some ⟨q, i * 28, none⟩)) ∧ W = w' := by
  have hu86 := Try.underlying86
  have j3 : W.cell? ⟨g, 3, none⟩ = some (.slice (some ⟨q, 0, none⟩) T.xs.length T.sv.c) := by rw [← hA, ← h.sn]; exact h.c3
  generalize T.xs.length = n at *
  clear h
  go_enter Try.func35, Try.ntmps35
  go_wp2
  go_ret
  exact ⟨rfl, rfl⟩
set_option maxHeartbeats 4000000 in
set_option maxRecDepth 100000 in
theorem at_out (W : World) (base g : Nat) (T : Tb) (h : TabAt W base g T) (p : Int) (hp : p < 1 ∨ (T.xs.length : Int) < p) :
    Calls Try.prog 35 #[.pointer (some ⟨g, 0, none⟩), .int .i64 p] W fun e w' => e = .returned (.pointer none) ∧ W = w' := by
  have hu86 := Try.underlying86
  have j3 : W.cell? ⟨g, 3, none⟩ = some (.slice T.sv.A T.xs.length T.sv.c) := by rw [← h.sn]; exact h.c3
  generalize T.xs.length = n at *
  clear h
  by_cases h1 : p < 1
  · go_enter Try.func35, Try.ntmps35
    go_wp2
    go_ret
    exact ⟨rfl, rfl⟩
  · have h2 : (n : Int) < p := by omega
    go_enter Try.func35, Try.ntmps35
    go_wp2
    go_ret
    exact ⟨rfl, rfl⟩
/-- What a step of the table leaves. -/
def TPost (W : World) (base g : Nat) (T T' : Tb) (val : Value) (e : Ending) (w' : World) : Prop := e = .returned val ∧ TabAt w' base g T' ∧ TK W w' g T.sv
/-- A place is taken. -/
def Tb.take (T : Tb) (i : Nat) (x : PS) : Tb := { T.put i { x with pl := T.place } with place := T.place + 1 }
set_option maxHeartbeats 4000000 in
set_option maxRecDepth 100000 in
theorem take_is (W : World) (base g : Nat) (T : Tb) (h : TabAt W base g T) (q i : Nat) (x : PS) (hA : T.sv.A = some ⟨q, 0, none⟩) (hx : T.xs[i]? = some x) (hp : 0 ≤ T.place ∧ T.place < 4611686018427387904) :
    Calls Try.prog 59 #[.pointer (some ⟨g, 0, none⟩), .pointer (some ⟨q, i * 28, none⟩)] W (TPost W base g T (T.take i x) (.tuple #[])) := by
  have hu86 := Try.underlying86
  have hu48 := Try.underlying48
  have j5 := h.c5
  have f5 := h.fz 5
  have hne : q ≠ g := h.ne hA
  have y2 := h.r_pl hA hx
  have z2 := h.frz hA (i * 28 + 2)
  have HF := Aside0.mk (show TabAt ((W.setCell ⟨q, i * 28 + 2, none⟩ (.int .i64 T.place)).setCell ⟨g, 5, none⟩ (.int .i64 (T.place + 1))) base g (T.take i x) ∧ TK W ((W.setCell ⟨q, i * 28 + 2, none⟩ (.int .i64 T.place)).setCell ⟨g, 5, none⟩ (.int .i64 (T.place + 1))) g T.sv from ⟨(h.w_pl hA hx T.place).setPlace (T.place + 1), (TK.refl.setS hA _ _).setG _ _⟩)
  generalize T.take i x = T' at *
  generalize T.place = p at *
  obtain ⟨hp0, hp1⟩ := hp
  clear h hA hx
  go_enter Try.func59, Try.ntmps59
  go_wp2
  go_end0
  exact ⟨rfl, HF.out⟩
/-- A state is entered. -/
def PS.enter (x : PS) (st : Int) : PS := { x with st := st, un := -1, ob := 0, ad := 0, dat := ⟨none, 0, 0⟩, data := [] }
def Tb.enter (T : Tb) (i : Nat) (x : PS) (st : Int) : Tb := T.take i (x.enter st)
set_option maxHeartbeats 4000000 in
set_option maxRecDepth 100000 in
theorem enter_is (W : World) (base g : Nat) (T : Tb) (h : TabAt W base g T) (q i : Nat) (x : PS) (st : Int) (hA : T.sv.A = some ⟨q, 0, none⟩) (hx : T.xs[i]? = some x) (hp : 0 ≤ T.place ∧ T.place < 4611686018427387904) :
    Calls Try.prog 38 #[.pointer (some ⟨g, 0, none⟩), .pointer (some ⟨q, i * 28, none⟩), .int .i64 st] W (TPost W base g T (T.enter i x st) (.tuple #[])) := by
  have hu86 := Try.underlying86
  have hu48 := Try.underlying48
  have y0 := h.r_st hA hx
  have y7 := h.r_un hA hx
  have y9 := h.r_ob hA hx
  have y10 := h.r_ad hA hx
  have y11 := h.r_dat hA hx
  have z0 := h.frz hA (i * 28)
  have z7 := h.frz hA (i * 28 + 22)
  have z9 := h.frz hA (i * 28 + 24)
  have z10 := h.frz hA (i * 28 + 25)
  have z11 := h.frz hA (i * 28 + 26)
  simp only [Nat.add_zero] at y0
  obtain ⟨hi, -⟩ := h.getx hx
  have h1 := (h.w_st hA hx st)
  have h2 := h1.w_un hA (T.put_at i _ hi) (-1)
  rw [T.put_put] at h2
  have h3 := h2.w_ob hA (T.put_at i _ hi) 0
  rw [T.put_put] at h3
  have h4 := h3.w_ad hA (T.put_at i _ hi) 0
  rw [T.put_put] at h4
  have h5 := h4.w_dat hA (T.put_at i _ hi) ⟨none, 0, 0⟩ [] DataAt.nil
  rw [T.put_put] at h5
  have HT := Aside0.mk (take_is _ base g _ h5 q i _ hA (T.put_at i _ hi) hp)
  have hk5 := ((((TK.refl (W := W) (g := g)).setS hA (i * 28 + 0) (.int .i64 st)).setS hA (i * 28 + 22) (.int .i64 (-1))).setS hA (i * 28 + 24) (.int .i64 0)).setS hA (i * 28 + 25) (.int .i64 0)
  have HK := Aside0.mk (hk5.setS hA (i * 28 + 26) (.slice none 0 0))
  have HE := Aside0.mk (show (T.put i { x with st := st, un := -1, ob := 0, ad := 0, dat := ⟨none, 0, 0⟩, data := [] }).take i { x with st := st, un := -1, ob := 0, ad := 0, dat := ⟨none, 0, 0⟩, data := [] } = T.enter i x st from by unfold Tb.enter Tb.take PS.enter; simp [Tb.put])
  simp only [Nat.add_zero] at HT HK
  clear h h1 h2 h3 h4 h5 hk5 hx
  go_enter Try.func38, Try.ntmps38
  go_wp2_with (go_at_call 59; refine HT.out.mono ?_; rintro e w' ⟨rfl, ht, hk⟩)
  go_end0
  rw [HE.out] at ht
  exact ⟨rfl, ht, HK.out.trans hk⟩
end Go.Proofs.Ytfnlankpdnkmoaa.B
