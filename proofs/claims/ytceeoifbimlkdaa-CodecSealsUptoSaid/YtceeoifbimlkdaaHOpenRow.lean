/- Proved: an argument that is a list of whole numbers, opened: its values, its room, its bulk. -/
import Derived.Test.YtceeoifbimlkdaaRows
import Derived.Test.YtceeoifbimlkdaaHSeals
import Derived.Deep.Slices
import Derived.Deep.Fields
import Derived.ChangeSame
import Derived.SizedLaws
import Derived.OpenShut
namespace Go.Proofs.Ytceeoifbimlkdaa.B
open Go.RowKit Go.ChangeShapes Go.WideShapes Go.Deep Go.Proofs.YtceeoifbimlkdaaW.PrintWords Go.Proofs.YtceeoifbimlkdaaW.PrintLast Go.Proofs.YtceeoifbimlkdaaW.PrintMore

/-! ### Bulk -/
theorem bulk_one {H : Type} (d : DataW H) : 1 ≤ Rows.uptoBulk d := by
  cases d with
  | lit l => cases l <;> simp [Rows.uptoBulk]
  | nil => simp [Rows.uptoBulk]
  | ptr d => simp [Rows.uptoBulk]
  | slice elems spare => simp [Rows.uptoBulk]
  | agg parts => simp [Rows.uptoBulk]
  | iface t d => simp [Rows.uptoBulk]
  | map entries => simp [Rows.uptoBulk]
  | held h => simp [Rows.uptoBulk]
theorem bulk_all_len {H : Type} : ∀ l : List (DataW H), l.length ≤ Rows.uptoBulkAll l
  | [] => Nat.zero_le _
  | d :: l => by
    have h1 := bulk_one d
    have h2 := bulk_all_len l
    simp only [Rows.uptoBulkAll, List.length_cons]
    omega
/-- A row of integers that is read: its list, its bulk. -/
theorem open_row {H : Type} {enc : TypeId × Value → H} {W : World} {base fuel : Nat} {held : Bool} {k : IntKind} {t e : TypeId} {v : Value} {y : DataW H × List MemPlace} (ht : Try.prog.underlying t = some (.slice e)) (he : Try.prog.underlying e = some (.int k)) (hc : Try.prog.cellsOf e = 1)
    (h : DataW.trod enc Try.prog W base (fun _ => true) held fuel t [v] = some y) : ∃ (A : Option Addr) (c : Nat) (l : List Int), v = .slice A l.length c ∧ l.length ≤ c ∧ Kd.C (Kd.int k) W A l.length l ∧ (∀ x ∈ l, (Lit.int k x).wf = true) ∧ l.length ≤ Rows.uptoBulk y.1 := by
  rcases open_ints ht he hc h with ⟨hcs, _⟩ | ⟨x, l, c, zs, hcs, _, hl, hm, hz, hy, hcell, hwz⟩
  · cases hcs
    exact ⟨none, 0, [], rfl, Nat.le_refl _, Kd.C_nil _ _, (fun x hx => by cases hx), Nat.zero_le _⟩
  · cases hcs
    have hz' : zs.length = c := by simpa using hz
    obtain ⟨l', hl', hr, hm', hw, hc'⟩ := ReadsInt.ofRowC (w := W) (k := k) (a := some x) (len := l) (cap := c) (zs := zs) (.inr ⟨_, rfl, hl, hm, hz', hcell, hwz⟩)
    subst hl'
    refine ⟨some x, c, l', rfl, hc', Kd.C_of_reads (d := (0 : Int)) (h1 := fun _ => rfl) hr, hw, ?_⟩
    rw [hy]
    simp only [Rows.uptoBulk]
    have := bulk_all_len (lits (H := H) k (zs.take l'.length))
    simp only [lits, List.length_map, List.length_take] at this
    have e : min l'.length zs.length = l'.length := by omega
    simp only [lits]
    omega

end Go.Proofs.Ytceeoifbimlkdaa.B
