/- Proved: known answers true. No conditions. -/
import Derived.Test.YtfnlankpdnkmoaaQOne
namespace Go.Proofs.Ytfnlankpdnkmoaa.B
open Go.RowKit Go.Proofs.YtfnlankpdnkmoaaW.PrintWords Go.Proofs.YtfnlankpdnkmoaaW.PrintLast Go.Proofs.YtfnlankpdnkmoaaW.PrintMore

def pdK : PD := ⟨0, 4, 10, 3, 0, false⟩
def psK : PS := { ((PS.dormant 0).started pdK 5 0 0 0).enter 1 with pl := 1 }
theorem psK_due : decide ((8 : Int) ≠ -1 ∧ dueX psK pdK 1 = 8) = true := by kernel_rfl
theorem psK_next : nxtK 5 psK pdK (-1) 3 = 8 := by kernel_rfl
set_option maxHeartbeats 8000000 in
set_option maxRecDepth 100000 in
theorem known_is (W : World) : Calls Try.prog 9 #[] W fun e w' => e = .returned (.bool true) ∧ Below W.heap.size W w' := by
  have hu25 := Try.underlying25
  have hu28 := Try.underlying28
  have hu38 := Try.underlying38
  have hu41 := Try.underlying41
  go_enter Try.func9, Try.ntmps9
  go_wp2_with (first
    | (go_at_call 8; generalize hW2 : World.alloc (World.alloc W _) _ = W2; have hY := heap_alloc_new (W.alloc (.cells #[.int .u8 0, .int .u8 0, .int .u8 0, .int .u8 0, .int .i32 0] 25)) (.cells #[.int .i64 0, .int .i64 4, .int .i64 10, .int .i64 3, .int .i64 0, .bool false] 28); rw [World.size_alloc] at hY; rw [hW2] at hY; have hB2 : Below W.heap.size W W2 := (by rw [← hW2]; exact ((Below.refl _ _).alloc (Nat.le_refl _) _).alloc (by simp) _); refine (one_new pdK _ _ _ (W.heap.size + 1) hY).mono ?_; rintro e w3 ⟨g, rfl, ho, hb⟩; have HO := Aside0.mk ho; have HB := Aside0.mk (hB2.trans (hb.mono hB2.size)); have HL := Aside0.mk hB2.size; clear hY hB2 hW2 ho hb)
    | (go_at_call 10; refine (one_start HO.out 5 0 0 0 rfl (by decide) (by decide)).mono ?_; rintro e w4 ⟨rfl, ho, hb⟩; have HO4 : Aside0 (One w4 W2.heap.size g psK pdK 2) := ⟨ho⟩; have HB4 := Aside0.mk (HB.out.trans (hb.mono HL.out)); clear ho hb)
    | (go_at_call 12; have hdu := one_due HO4.out 1 8; rw [psK_due] at hdu; refine hdu.mono ?_; clear hdu; rintro e w5 ⟨rfl, hb⟩; have HO5 := Aside0.mk (HO4.out.below hb); have HB5 := Aside0.mk (HB4.out.trans (hb.mono HB4.out.size)); clear hb)
    | (go_at_call 13; have hdu := one_next HO5.out 5; rw [psK_next] at hdu; refine hdu.mono ?_; clear hdu; rintro e w6 ⟨rfl, hb⟩; have HO6 := Aside0.mk (HO5.out.below hb); have HB6 := Aside0.mk (HB5.out.trans (hb.mono HB5.out.size)); clear hb)
    | (go_at_call 29; refine (one_pick HO6.out rfl).mono ?_; rintro e w7 ⟨rfl, hb⟩; have HB7 := Aside0.mk (HB6.out.trans (hb.mono HB6.out.size)); clear hb))
  go_ret
  exact ⟨rfl, HB7.out⟩
end Go.Proofs.Ytfnlankpdnkmoaa.B
