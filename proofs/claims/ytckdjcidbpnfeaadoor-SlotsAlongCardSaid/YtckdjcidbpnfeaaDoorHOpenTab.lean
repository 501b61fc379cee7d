/- Proved: an argument that is a slot table, opened: its slots, their room. -/
import Derived.Test.YtckdjcidbpnfeaaDoorHOpen
import Derived.Test.YtckdjcidbpnfeaaDoorHValid13
namespace Go.Proofs.YtckdjcidbpnfeaaDoor.B
open Go.RowKit Go.ChangeShapes Go.WideShapes Go.Deep Go.Proofs.YtckdjcidbpnfeaaDoorW.PrintWords Go.Proofs.YtckdjcidbpnfeaaDoorW.PrintLast Go.Proofs.YtckdjcidbpnfeaaDoorW.PrintMore

theorem cellsTable : Tryd.prog.cellsOf 27 = 2 := by kernel_rfl
theorem lt_of_maxLen {n : Nat} (h : n ≤ maxLen) : n ≤ 9223372036854775807 := Nat.le_trans h (by unfold maxLen; decide)
theorem list2 {α : Type} : ∀ {l : List α}, l.length = 2 → ∃ a b, l = [a, b]
  | [a, b], _ => ⟨a, b, rfl⟩
set_option maxRecDepth 100000 in
theorem open_slots {H : Type} {enc : TypeId × Value → H} {W : World} {base fuel : Nat} {spare : Nat → Bool} {held : Bool} {v : Value} {y : DataW H × List MemPlace} (h : DataW.trod enc Tryd.prog W base spare held fuel 25 [v] = some y) :
    ∃ (A : Option Addr) (c : Nat) (l : List S72), v = .slice A l.length c ∧ l.length ≤ c ∧ Kd.C k72 W A l.length l ∧ ∀ s ∈ l, (Lit.int .i64 s.f0).wf = true ∧ (Lit.int .i64 s.f1).wf = true := by
  rcases open_slice_fields Tryd.underlying25 Tryd.underlying72 (by kernel_rfl) (by kernel_rfl) h with ⟨hcs, _⟩ | ⟨x, len, c, m, D, Pl, hcs, _, hl, hm, hmm, hx, hi⟩
  · cases hcs
    exact ⟨none, 0, [], rfl, Nat.zero_le _, ⟨rfl, by simp, fun h => absurd h (Nat.lt_irrefl _)⟩, fun s hs => by cases hs⟩
  · cases hcs
    have hlm : len ≤ m := by rw [hmm]; split <;> omega
    have each : ∀ i, i < len → ∃ s : S72, ((Lit.int .i64 s.f0).wf = true ∧ (Lit.int .i64 s.f1).wf = true) ∧ W.cell? (x.add (i * 2 + 0)) = some (.int .i64 s.f0) ∧ W.cell? (x.add (i * 2 + 1)) = some (.int .i64 s.f1) := by
      intro i him
      obtain ⟨ys, n, _, _, _, hfld⟩ := hi i (by omega)
      obtain ⟨v0, y0, c0, _, t0⟩ := hfld 0 _ rfl
      obtain ⟨v1, y1, c1, _, t1⟩ := hfld 1 _ rfl
      obtain ⟨n0, e0, _, w0⟩ := DataW.trod_int Tryd.underlying3 t0
      obtain ⟨n1, e1, _, w1⟩ := DataW.trod_int Tryd.underlying3 t1
      cases e0; cases e1
      exact ⟨⟨n0, n1⟩, ⟨w0, w1⟩, c0, c1⟩
    obtain ⟨l, hll, hq⟩ := list_of z72 _ len each
    subst hll
    refine ⟨some x, c, l, rfl, hl, ⟨rfl, lt_of_maxLen (Nat.le_trans hl hm), fun _ => ⟨x, rfl, fun j p hj => ?_⟩⟩, fun s hs => ?_⟩
    · have hjl : j < l.length := (List.getElem?_eq_some_iff.1 hj).1
      obtain ⟨_, c0, c1⟩ := hq j hjl
      have e : l.getD j z72 = p := by rw [List.getD_eq_getElem?_getD, hj]; rfl
      rw [e] at c0 c1
      refine ⟨_, rfl, k72_mk W p, fun i u hu => ?_⟩
      match i, hu with
      | 0, hu => cases hu; exact c0
      | 1, hu => cases hu; exact c1
      | i + 2, hu => simp at hu
    · obtain ⟨i, hi', rfl⟩ := List.getElem_of_mem hs
      have := (hq i hi').1
      rwa [List.getD_eq_getElem?_getD, List.getElem?_eq_getElem hi'] at this
set_option maxRecDepth 100000 in
/-- A table, opened. -/
theorem open_table {H : Type} {enc : TypeId × Value → H} {W : World} {base b0 : Nat} {spare : Nat → Bool} {held : Bool} {v : Value} {d : DataW H} {ps : List MemPlace} (ho : Value.okWide Tryd.prog W .any b0 27 v)
    (h : DataW.Trod enc Tryd.prog W base spare held 27 v d ps) :
    ∃ (A1 : Option Addr) (c1 : Nat) (l1 : List S72) (A2 : Option Addr) (c2 : Nat) (l2 : List S72), v = .agg #[.slice A1 l1.length c1, .slice A2 l2.length c2] ∧ l1.length ≤ c1 ∧ Kd.C k72 W A1 l1.length l1 ∧ l2.length ≤ c2 ∧ Kd.C k72 W A2 l2.length l2 ∧
      (∀ s ∈ l1, (Lit.int .i64 s.f0).wf = true) ∧ ∀ s ∈ l2, (Lit.int .i64 s.f0).wf = true := by
  obtain ⟨fuel, hf⟩ := h
  obtain ⟨cs, rfl, hcs⟩ := okWide_struct Tryd.underlying27 ho
  rw [cellsTable] at hcs
  obtain ⟨cl⟩ := cs
  obtain ⟨x0, x1, rfl⟩ := list2 (l := cl) (by simpa using hcs)
  obtain ⟨ys, n, _, _, _, hlen, hat⟩ := DataW.trod_struct Tryd.underlying27 hf
  have t0 := hat 0 _ rfl
  have t1 := hat 1 _ rfl
  have get : ∀ j, j < 2 → ∃ y, ys[j]? = some y := fun j hj => ⟨ys[j]'(by rw [hlen]; exact hj), List.getElem?_eq_getElem _⟩
  obtain ⟨y0, e0⟩ := get 0 (by omega); rw [e0] at t0
  obtain ⟨y1, e1⟩ := get 1 (by omega); rw [e1] at t1
  obtain ⟨A1, c1, l1, rfl, h1, k1, w1⟩ := open_slots t0
  obtain ⟨A2, c2, l2, rfl, h2, k2, w2⟩ := open_slots t1
  exact ⟨A1, c1, l1, A2, c2, l2, rfl, h1, k1, h2, k2, fun s hs => (w1 s hs).1, fun s hs => (w2 s hs).1⟩
end Go.Proofs.YtckdjcidbpnfeaaDoor.B
