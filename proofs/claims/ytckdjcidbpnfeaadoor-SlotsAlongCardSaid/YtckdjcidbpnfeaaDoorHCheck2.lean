/- Proved: the contracts of check.Hyper and check.Servers, in the form that printed texts cite. Condition: the variable errors.errorType holds what the program's text lays (GH). -/
import Derived.Test.YtckdjcidbpnfeaaDoorHCheck
import Derived.Test.YtckdjcidbpnfeaaDoorHLcm
namespace Go.Proofs.YtckdjcidbpnfeaaDoor.B
open Go.RowKit Go.Proofs.YtckdjcidbpnfeaaDoorW.PrintWords Go.Proofs.YtckdjcidbpnfeaaDoorW.PrintLast Go.Proofs.YtckdjcidbpnfeaaDoorW.PrintMore

/-- errors.errorType holds what the program's text lays. -/
def GH (w : World) : Prop := w.cell? ⟨0, 0, none⟩ = some (.iface 168 (.agg #[.pointer (some ⟨1, 86, none⟩)]))
theorem GH_below {w w1 : World} (h : GH w) (hb : Below w.heap.size w w1) : GH w1 := (hb.cell (p := ⟨0, 0, none⟩) (World.block_lt_of_cell? w _ h)).trans h
theorem GH_alloc {w : World} (h : GH w) (o : Obj) : GH (w.alloc o) := GH_below h ((Below.refl _ _).alloc (Nat.le_refl _) o)
theorem GH_drewN {w : World} (h : GH w) (n : Nat) : GH (w.drewN n) := h
theorem GH_drew {w : World} (h : GH w) : GH w.drew := h

def check_Hyper.f (l : List S24) : Option (Int × Int) := some (hypS lcmF l)
theorem check_Hyper.calls (A0 : Option Addr) (c0 : Nat) (l0 : List S24) (r1 : Int) (r2 : Int) (w : World) (hr0 : Kd.C k24 w A0 l0.length l0) (_hc0 : l0.length ≤ c0) (hG : GH w) (h : check_Hyper.f l0 = some (r1, r2)) :
    Calls Tryd.prog 23 #[.slice A0 l0.length c0] w fun e w' => e = .returned (.tuple #[.int .i64 r1, .int .i64 r2]) ∧ Below w.heap.size w w' := by
  obtain ⟨K, hK⟩ := lcmF_is
  have e : hypS lcmF l0 = (r1, r2) := Option.some.inj h
  have := Hyper_is A0 c0 l0 w hr0 lcmF K hK hG
  rw [e] at this
  exact this


end Go.Proofs.YtckdjcidbpnfeaaDoor.B
