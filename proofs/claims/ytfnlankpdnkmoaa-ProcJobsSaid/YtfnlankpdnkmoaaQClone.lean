/- Proved: the contract of slices.Clone of numbers, in the form that printed texts cite: a new row of the same numbers. No conditions. -/
import Derived.Test.YtfnlankpdnkmoaaBx0
import Derived.WalkSpells
namespace Go.Proofs.Ytfnlankpdnkmoaa.B
open Go.RowKit Go.Proofs.YtfnlankpdnkmoaaW.PrintWords Go.Proofs.YtfnlankpdnkmoaaW.PrintLast Go.Proofs.YtfnlankpdnkmoaaW.PrintMore
theorem infoW : (Try.prog.info? 2).map (fun i => (i.zero, i.size, i.bytes)) = some (some (.int .i64 0), 1, 8) := by kernel_rfl

def words_Clone.f (l0 : List Int) : Option (List Int) := if ([] : List Int).length + l0.length < 17592186044416 then some l0 else none

set_option maxHeartbeats 4000000 in
set_option maxRecDepth 100000 in
theorem words_Clone.calls (A0 : Option Addr) (c0 : Nat) (l0 : List Int) (r : List Int) (w : World) (hr0 : Kd.C (Kd.int .i64) w A0 l0.length l0) (_hc0 : l0.length ≤ c0) (h : words_Clone.f l0 = some r) :
    Calls Try.prog 41 #[.slice A0 l0.length c0] w fun e w' => ∃ v0_ : Value, e = .returned v0_ ∧ Kd.R (Kd.int .i64) 2 w' w.heap.size (fun _ => True) v0_ r ∧ Below w.heap.size w w' := by
  unfold words_Clone.f at h
  by_cases hl : ([] : List Int).length + l0.length < 17592186044416
  case neg => rw [if_neg hl] at h; cases h
  rw [if_pos hl] at h
  obtain rfl := Option.some.inj h
  have HL := Aside0.mk hl
  have HR0 := Aside0.mk hr0
  have HB := Aside0.mk (Below.refl w.heap.size w)
  clear h hl hr0
  have hnil := fun (W : World) (n' c' : Nat) => Lib.run_eql_slice_nil (P := Try.prog) W 32 2 A0 l0.length c0 n' c' Try.underlying32
  cases A0 with
  | none =>
    have h0 : l0 = [] := by
      cases l0 with
      | nil => rfl
      | cons x l =>
        obtain ⟨_, _, h⟩ := HR0.out
        obtain ⟨x, hx, _⟩ := h (by simp)
        cases hx
    subst h0
    clear hnil
    have hnil := fun (W : World) (n' c' : Nat) => Lib.run_eql_slice_nil (P := Try.prog) W 32 2 none 0 c0 n' c' Try.underlying32
    simp only [Option.isNone_none] at hnil
    rw [show ([] : List Int).length = 0 from rfl]
    go_enter Try.func41, Try.ntmps41
    go_wp2
    go_ret
    exact ⟨_, rfl, Kd.R_nil _ _ _ _ _, HB.out⟩
  | some a =>
    simp only [Option.isNone_some] at hnil
    obtain ⟨y, hy⟩ : ∃ y : List Int, y = ([] : List Int) ++ l0 := ⟨_, rfl⟩
    have Ny := Aside0.mk hy
    clear hy
    go_enter Try.func41, Try.ntmps41
    go_wp2_with (first
      | ((with_reducible refine gate_dst (N := 5) rfl ?_); refine Kd.R_lit (Kd.int .i64) _ 2 ?hg (N := 5) ?hd (xs := ([] : List Int)) (inner := []) (ok := fun _ => True) (okp := fun _ => True) ?hr ?hp (fun _ hk => hk) trivial (Below.refl _ _) (Nat.le_refl _) (by simp) ?_; (case hd => rfl); (case hg => rfl); (case hr => first | (go_simp; done) | (go_simp; rfl)); (case hp => exact (Reps.none _ _)); intro v107 w9 ho10 hb hg_ hnew_; clear hg_ hnew_; have HO108 := Aside0.mk (Kd.R_lower ho10 (below_size HB.out)); have n1_ := Aside0.mk (below_step HB.out hb); clear HB; have HB := n1_; clear n1_; clear hb ho10)
      | ((with_reducible refine gate_builtin (b := .append) (xs := #[.tmp 5, .tmp 6]) rfl ?_); at_builtin; refine Kd.R_append_rows (Kd.int .i64) (w0 := w) w.heap.size rfl (.tmp 5) (.tmp 6) 32 2 (.int .i64 0) 8 rfl Try.underlying32 infoW rfl (by decide) (by omega) v107 ([] : List Int) l0 _ _ _ (fun _ => True) (fun _ => False) rfl rfl ?aO ?aR (fun _ _ h => h) (fun _ h => h.elim) ?aF ?aB ?aS ?aL ?_; (case aR => exact (Kd.C_below HR0.out HB.out)); (case aB => exact HB.out); (case aF => exact (fun _ _ => trivial)); (case aO => exact HO108.out); (case aS => exact (below_size HB.out)); (case aL => have := HL.out; omega); intro v113 w12 ho hb hg hat; rw [← Ny.out] at ho; have HO := Aside0.mk ho; have HB2 := Aside0.mk hb; clear ho hb hg hat))
    go_ret
    have hO := HO.out
    rw [Ny.out, List.nil_append] at hO
    exact ⟨_, rfl, hO, HB2.out⟩
end Go.Proofs.Ytfnlankpdnkmoaa.B
