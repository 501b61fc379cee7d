/- Proved: the row of NumExact: whatever the numbers, the law answers true and leaves its argument as it reads. No conditions. -/
import Derived.Test.YtceeoifbimlkdaaRows
import Derived.Test.YtceeoifbimlkdaaPureNumExact
import Derived.WalkKit
import Derived.ProofKit
import Derived.OpenShut
import Derived.ShutString
import Derived.ChangeOld
import Derived.Below
import Derived.SizedLaws
import Derived.ChangeSame
namespace Go.Proofs.Ytceeoifbimlkdaa.numExact
open Go.ChangeShapes Go.WideShapes Go.ChangeAt Go.RowKit Go.Proofs.YtceeoifbimlkdaaW.PrintWords
set_option linter.unusedVariables false
theorem own : ownKnob Try.prog.godebug = none := by kernel_rfl
theorem laidOut : laidOutB Try.prog = true := by kernel_rfl
theorem cellsOp : Try.prog.cellsOf 71 = 7 := by kernel_rfl
theorem list7 {α : Type} : ∀ {l : List α}, l.length = 7 → ∃ a b c d e f g, l = [a, b, c, d, e, f, g]
  | [a, b, c, d, e, f, g], _ => ⟨a, b, c, d, e, f, g, rfl⟩
set_option maxRecDepth 100000 in
/-- The numbers of an Op, opened: six numbers and a list. -/
theorem open_op {H : Type} {enc : TypeId × Value → H} {W : World} {base b0 : Nat} {held : Bool} {v : Value} {d : DataW H} {ps : List MemPlace} (ho : Value.okWide Try.prog W .any b0 71 v)
    (h : DataW.Trod enc Try.prog W base (fun _ => true) held 71 v d ps) :
    ∃ (a0 a1 a2 a3 a4 : Int) (A : Option Addr) (c : Nat) (l : List Int) (a6 : Int), v = .agg #[.int .i64 a0, .int .i64 a1, .int .i64 a2, .int .i64 a3, .int .i64 a4, .slice A l.length c, .int .i64 a6] ∧
      (Lit.int .i64 a0).wf = true ∧ (Lit.int .i64 a1).wf = true ∧ (Lit.int .i64 a2).wf = true ∧ (Lit.int .i64 a3).wf = true ∧ (Lit.int .i64 a4).wf = true ∧ (Lit.int .i64 a6).wf = true ∧
      ReadsInt W .i64 A l.length l ∧ l.length ≤ c ∧ ∀ x ∈ l, (Lit.int .i64 x).wf = true := by
  obtain ⟨fuel, hf⟩ := h
  obtain ⟨cs, rfl, hcs⟩ := okWide_struct Try.underlying71 ho
  rw [cellsOp] at hcs
  obtain ⟨cl⟩ := cs
  obtain ⟨x0, x1, x2, x3, x4, x5, x6, rfl⟩ := list7 (l := cl) (by simpa using hcs)
  obtain ⟨ys, n, _, _, _, hlen, hat⟩ := DataW.trod_struct Try.underlying71 hf
  have t0 := hat 0 _ rfl
  have t1 := hat 1 _ rfl
  have t2 := hat 2 _ rfl
  have t3 := hat 3 _ rfl
  have t4 := hat 4 _ rfl
  have t5 := hat 5 _ rfl
  have t6 := hat 6 _ rfl
  have get : ∀ j, j < 7 → ∃ y, ys[j]? = some y := fun j hj => ⟨ys[j]'(by rw [hlen]; exact hj), List.getElem?_eq_getElem _⟩
  obtain ⟨y0, e0⟩ := get 0 (by omega); rw [e0] at t0
  obtain ⟨y1, e1⟩ := get 1 (by omega); rw [e1] at t1
  obtain ⟨y2, e2⟩ := get 2 (by omega); rw [e2] at t2
  obtain ⟨y3, e3⟩ := get 3 (by omega); rw [e3] at t3
  obtain ⟨y4, e4⟩ := get 4 (by omega); rw [e4] at t4
  obtain ⟨y5, e5⟩ := get 5 (by omega); rw [e5] at t5
  obtain ⟨y6, e6⟩ := get 6 (by omega); rw [e6] at t6
  obtain ⟨n0, k0, _, w0⟩ := DataW.trod_int Try.underlying2 t0
  obtain ⟨n1, k1, _, w1⟩ := DataW.trod_int Try.underlying2 t1
  obtain ⟨n2, k2, _, w2⟩ := DataW.trod_int Try.underlying3 t2
  obtain ⟨n3, k3, _, w3⟩ := DataW.trod_int Try.underlying3 t3
  obtain ⟨n4, k4, _, w4⟩ := DataW.trod_int Try.underlying3 t4
  obtain ⟨n6, k6, _, w6⟩ := DataW.trod_int Try.underlying2 t6
  cases k0; cases k1; cases k2; cases k3; cases k4; cases k6
  rcases open_ints Try.underlying30 Try.underlying2 (by kernel_rfl) t5 with ⟨hcs, _⟩ | ⟨x, l, c, zs, hcs, _, hl, hm, hz, _, hcell, hwz⟩
  · cases hcs
    obtain ⟨l, hl, hr, hm, hw, hc⟩ := ReadsInt.ofRowC (w := W) (k := .i64) (a := none) (len := 0) (cap := 0) (zs := []) (.inl ⟨rfl, rfl, rfl, rfl⟩)
    obtain rfl : l = [] := List.eq_nil_of_length_eq_zero hl.symm
    exact ⟨n0, n1, n2, n3, n4, none, 0, [], n6, rfl, w0, w1, w2, w3, w4, w6, hr, Nat.le_refl _, hw⟩
  · cases hcs
    obtain ⟨l', hl', hr, hm', hw, hc⟩ := ReadsInt.ofRowC (w := W) (k := .i64) (a := some x) (len := l) (cap := c) (zs := zs) (.inr ⟨_, rfl, hl, hm, by simpa using hz, hcell, hwz⟩)
    subst hl'
    exact ⟨n0, n1, n2, n3, n4, some x, c, l', n6, rfl, w0, w1, w2, w3, w4, w6, hr, hc, hw⟩
set_option maxRecDepth 100000 in
theorem lifted (os : Os) (started : os.Started) (H : Type) (enc : TypeId × Value → H) :
    ReturnsInHanded {} Try.checked os 10 .any (Rows.numExactSpec.pre6 enc Try.prog Try.f10 Rows.numExactRow.domain false) (Rows.numExactSpec.post enc Try.prog Try.f10 false true false false) := by
  refine returnsInHanded_of_change_sized (C := Try.checked) own started (by kernel_rfl) Try.func10
    (ChangeSpec.witness6 (enc := enc) (C := Try.checked) false ⟨#[], #[.agg #[.int .i64 0, .int .i64 0, .int .i64 0, .int .i64 0, .int .i64 0, .slice none 0 0, .int .i64 0]], []⟩ 8 (by kernel_rfl) (by kernel_rfl) (by kernel_rfl) (by kernel_rfl)) ?_
  intro W base args ds gs before hval0 hW hcnd hsz0 _
  have hval : ∀ (j : Nat) t v, Try.f10.params[j]? = some t → args[j]? = some v → Value.okWide Try.prog W .any base t v := hval0
  have hW' := hW
  obtain ⟨p, q, hA0, hV, rfl, hfz, hnd⟩ := hW
  have hA : DataW.TrodAll enc Try.prog W 0 (fun _ => true) true Try.f10.params.toList args.toList ds p := hA0
  rw [Try.params10] at hA hval
  obtain ⟨v0, vs0, d0, ds0, p0, q0, hargs, rfl, rfl, h0, r0⟩ := trodAll_cons hA
  obtain ⟨rfl, rfl, rfl⟩ := trodAll_nil r0
  obtain rfl : args = #[v0] := by cases args; simp_all
  obtain ⟨rfl, rfl⟩ := trodVars_none hV
  have k0 := h0
  have lt0 : ∀ x ∈ p0, x.block < W.heap.size := by obtain ⟨m, hm⟩ := k0; exact DataW.trod_lt m _ _ _ hm
  obtain ⟨a0, a1, a2, a3, a4, A, c, l, a6, rfl, w0, w1, w2, w3, w4, w6, hr, hc, hw⟩ := open_op (hval 0 71 v0 rfl rfl) h0
  obtain ⟨k, hk⟩ := Pure.NumExact a0 a1 a2 a3 a4 l a6 w0 w1 w2 w3 w4 hw w6
  clear hA0 hval0 hsz0
  refine (B.bulkheadlaw01_NumExact.calls k a0 a1 a2 a3 a4 A c l a6 true W (Kd.C_of_reads (d := (0 : Int)) (h1 := fun _ => rfl) hr) hc hk).mono fun e W' ⟨he, bel⟩ => ?_
  subst he
  exact ⟨_, rfl, _, _, _, [], _, [], hW', trodAll_mk1 (shut_bool Try.underlying4 _), (trodAll_cons_mk (Below.trod laidOut (by kernel_rfl) (of_decide_eq_true (by kernel_rfl)) k0 bel lt0) trodAll_mk0), rfl, bel.frame _, fun h => by cases h⟩
theorem over : Rows.numExactRow.holds Try.pinned (OpenSpec.ofChange Rows.numExactSpec) :=
  OpenClaim.holds_of_wide 10 Try.f10 rfl rfl rfl rfl rfl rfl rfl ⟨rfl, rfl, rfl, rfl, rfl⟩ rfl rfl rfl rfl rfl (by kernel_rfl) Try.func10 (by kernel_rfl)
    (of_decide_eq_true (by kernel_rfl)) (by unfold Func.isWrapper; first | (rw [if_pos (by decide +kernel)]; kernel_rfl) | (rw [if_neg (by decide +kernel)]; exact ⟨rfl, rfl⟩))
    (fun os started H enc _ => lifted os started H enc)
theorem proved : Rows.NumExactSaid := over
#print axioms proved
end Go.Proofs.Ytceeoifbimlkdaa.numExact
namespace Go.Proofs.Ytceeoifbimlkdaa
/-- The row, under a short name, for the claim. -/
theorem numExact_holds : Rows.NumExactSaid := numExact.proved
end Go.Proofs.Ytceeoifbimlkdaa
