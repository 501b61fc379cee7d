/- Proved: the contract of the law's write: one call on a Writer, by its kind. Conditions: bounds of the lengths; the list lies apart from the Writer. -/
import Derived.Test.YtceeoifbimlkdaaHPutList
namespace Go.Proofs.Ytceeoifbimlkdaa.B
open Go.RowKit Go.Proofs.YtceeoifbimlkdaaW.PrintWords Go.Proofs.YtceeoifbimlkdaaW.PrintLast Go.Proofs.YtceeoifbimlkdaaW.PrintMore

/-- One call, as its values read. -/
structure OpL where
  kind : Int
  n : Int
  wide : Int
  flag : Bool
  bytes : List Int
  list : List Int
  most : Int
def wOp (s : List Int × Int) (o : OpL) : List Int × Int :=
  if o.kind = 1 then wNum s o.n 1 else if o.kind = 2 then wNum s o.n 2 else if o.kind = 3 then wNum s o.n 4 else if o.kind = 4 then wI64 s o.wide else
  if o.kind = 5 then wNum s (if o.flag = true then 1 else 0) 1 else if o.kind = 6 then wPut s o.bytes else if o.kind = 7 then wList s o.list o.most else s
theorem wOp_len (s : List Int × Int) (o : OpL) : (wOp s o).1.length ≤ s.1.length + 8 + o.bytes.length + 2 * o.list.length := by
  have h1 := wNum_len s o.n 1
  have h2 := wNum_len s o.n 2
  have h3 := wNum_len s o.n 4
  have h4 := wI64_len s o.wide
  have h5 := wNum_len s (if o.flag = true then 1 else 0) 1
  have h6 := wPut_len s o.bytes
  have h7 := wList_len s o.list o.most
  unfold wOp
  by_cases k1 : o.kind = 1
  · rw [if_pos k1]; omega
  rw [if_neg k1]
  by_cases k2 : o.kind = 2
  · rw [if_pos k2]; omega
  rw [if_neg k2]
  by_cases k3 : o.kind = 3
  · rw [if_pos k3]; omega
  rw [if_neg k3]
  by_cases k4 : o.kind = 4
  · rw [if_pos k4]; omega
  rw [if_neg k4]
  by_cases k5 : o.kind = 5
  · rw [if_pos k5]; omega
  rw [if_neg k5]
  by_cases k6 : o.kind = 6
  · rw [if_pos k6]; omega
  rw [if_neg k6]
  by_cases k7 : o.kind = 7
  · rw [if_pos k7]; omega
  rw [if_neg k7]
  omega
theorem F_alloc' {W : World} {g : Nat} {v : Value} {A : Option Addr} {l : List Int} (hF : Kd.F (Kd.int .i64) W (fun k => k ≠ g ∧ some k ≠ v.ownBlock) A l.length l) {W1 : World} (hb : Below W.heap.size W W1) : Kd.F (Kd.int .i64) W1 (fun k => k ≠ g ∧ some k ≠ v.ownBlock) A l.length l := Kd.F_below hF hb
set_option maxHeartbeats 8000000 in
set_option maxRecDepth 100000 in
theorem write_is (o : OpL) (A1 : Option Addr) (c1 : Nat) (A2 : Option Addr) (c2 : Nat) (W : World) (base g : Nat) (v : Value) (s : List Int × Int) (hr1 : Kd.C (Kd.int .u8) W A1 o.bytes.length o.bytes)
    (hF : Kd.F (Kd.int .i64) W (fun k => k ≠ g ∧ some k ≠ v.ownBlock) A2 o.list.length o.list) (hw : WrAt W base g v s.1 s.2) (hbase : base ≤ W.heap.size) (hl : s.1.length + 8 + o.bytes.length + 2 * o.list.length < 140737488355328) :
    Calls Try.prog 58 #[.pointer (some ⟨g, 0, none⟩), .agg #[.int .i64 o.kind, .int .i64 o.n, .int .i64 o.wide, .bool o.flag, .slice A1 o.bytes.length c1, .slice A2 o.list.length c2, .int .i64 o.most]] W (WPost W base g v (wOp s o)) := by
  have hu58 := Try.underlying58
  obtain ⟨kind, n, wide, flag, bytes, list, most⟩ := o
  dsimp only at hr1 hF hl ⊢
  obtain ⟨W1, hW1⟩ : ∃ W1, W.alloc (.cells #[.int .i64 kind, .int .i64 n, .int .i64 wide, .bool flag, .slice A1 bytes.length c1, .slice A2 list.length c2, .int .i64 most] 58) = W1 := ⟨_, rfl⟩
  have hB : Below W.heap.size W W1 := by rw [← hW1]; exact (Below.refl _ _).alloc (Nat.le_refl _) _
  have hw1 := hw.below hB
  have hb1 := Nat.le_trans hbase hB.size
  have HB := Aside0.mk hB
  obtain ⟨sf, hsf⟩ : ∃ sf, wOp s ⟨kind, n, wide, flag, bytes, list, most⟩ = sf := ⟨_, rfl⟩
  rw [hsf]
  by_cases k1 : kind = 1
  · subst k1
    have e : wNum s n 1 = sf := by rw [← hsf]; unfold wOp; simp
    have hc := wU8_any n W1 base g v s hw1 hb1 (by omega)
    rw [e] at hc
    have HC := Aside0.mk hc
    obtain ⟨N1, hN1⟩ : ∃ N, bytes.length = N := ⟨_, rfl⟩
    obtain ⟨N2, hN2⟩ : ∃ N, list.length = N := ⟨_, rfl⟩
    rw [hN1, hN2] at hW1
    rw [hN1, hN2]
    subst hW1
    clear hw hw1 hb1 hB hsf hl hr1 hF e hc hN1 hN2
    go_enter Try.func58, Try.ntmps58
    go_wp2_with (go_at_call 71; refine HC.out.mono ?_; rintro e w' ⟨⟨vr, rfl⟩, v', hw', hk⟩)
    go_end0
    exact ⟨⟨_, rfl⟩, v', hw', hk.behind HB.out⟩
  by_cases k2 : kind = 2
  · subst k2
    have e : wNum s n 2 = sf := by rw [← hsf]; unfold wOp; simp
    have hc := wU16_any n W1 base g v s hw1 hb1 (by omega)
    rw [e] at hc
    have HC := Aside0.mk hc
    obtain ⟨N1, hN1⟩ : ∃ N, bytes.length = N := ⟨_, rfl⟩
    obtain ⟨N2, hN2⟩ : ∃ N, list.length = N := ⟨_, rfl⟩
    rw [hN1, hN2] at hW1
    rw [hN1, hN2]
    subst hW1
    clear hw hw1 hb1 hB hsf hl hr1 hF e hc hN1 hN2
    go_enter Try.func58, Try.ntmps58
    go_wp2_with (go_at_call 73; refine HC.out.mono ?_; rintro e w' ⟨⟨vr, rfl⟩, v', hw', hk⟩)
    go_end0
    exact ⟨⟨_, rfl⟩, v', hw', hk.behind HB.out⟩
  by_cases k3 : kind = 3
  · subst k3
    have e : wNum s n 4 = sf := by rw [← hsf]; unfold wOp; simp
    have hc := wU32_any n W1 base g v s hw1 hb1 (by omega)
    rw [e] at hc
    have HC := Aside0.mk hc
    obtain ⟨N1, hN1⟩ : ∃ N, bytes.length = N := ⟨_, rfl⟩
    obtain ⟨N2, hN2⟩ : ∃ N, list.length = N := ⟨_, rfl⟩
    rw [hN1, hN2] at hW1
    rw [hN1, hN2]
    subst hW1
    clear hw hw1 hb1 hB hsf hl hr1 hF e hc hN1 hN2
    go_enter Try.func58, Try.ntmps58
    go_wp2_with (go_at_call 75; refine HC.out.mono ?_; rintro e w' ⟨⟨vr, rfl⟩, v', hw', hk⟩)
    go_end0
    exact ⟨⟨_, rfl⟩, v', hw', hk.behind HB.out⟩
  by_cases k4 : kind = 4
  · subst k4
    have e : wI64 s wide = sf := by rw [← hsf]; unfold wOp; simp
    have hc := wI64_any wide W1 base g v s hw1 hb1 (by omega)
    rw [e] at hc
    have HC := Aside0.mk hc
    obtain ⟨N1, hN1⟩ : ∃ N, bytes.length = N := ⟨_, rfl⟩
    obtain ⟨N2, hN2⟩ : ∃ N, list.length = N := ⟨_, rfl⟩
    rw [hN1, hN2] at hW1
    rw [hN1, hN2]
    subst hW1
    clear hw hw1 hb1 hB hsf hl hr1 hF e hc hN1 hN2
    go_enter Try.func58, Try.ntmps58
    go_wp2_with (go_at_call 77; refine HC.out.mono ?_; rintro e w' ⟨⟨vr, rfl⟩, v', hw', hk⟩)
    go_end0
    exact ⟨⟨_, rfl⟩, v', hw', hk.behind HB.out⟩
  by_cases k5 : kind = 5
  · subst k5
    have e : wNum s (if flag = true then 1 else 0) 1 = sf := by rw [← hsf]; unfold wOp; simp
    have hc := wBool_any flag W1 base g v s hw1 hb1 (by omega)
    rw [e] at hc
    have HC := Aside0.mk hc
    obtain ⟨N1, hN1⟩ : ∃ N, bytes.length = N := ⟨_, rfl⟩
    obtain ⟨N2, hN2⟩ : ∃ N, list.length = N := ⟨_, rfl⟩
    rw [hN1, hN2] at hW1
    rw [hN1, hN2]
    subst hW1
    clear hw hw1 hb1 hB hsf hl hr1 hF e hc hN1 hN2
    go_enter Try.func58, Try.ntmps58
    go_wp2_with (go_at_call 79; refine HC.out.mono ?_; rintro e w' ⟨⟨vr, rfl⟩, v', hw', hk⟩)
    go_end0
    exact ⟨⟨_, rfl⟩, v', hw', hk.behind HB.out⟩
  by_cases k6 : kind = 6
  · subst k6
    have e : wPut s bytes = sf := by rw [← hsf]; unfold wOp; simp
    have hc := wBytes_any A1 c1 bytes W1 base g v s (Kd.C_below hr1 hB) hw1 hb1 (by omega)
    rw [e] at hc
    have HC := Aside0.mk hc
    obtain ⟨N1, hN1⟩ : ∃ N, bytes.length = N := ⟨_, rfl⟩
    obtain ⟨N2, hN2⟩ : ∃ N, list.length = N := ⟨_, rfl⟩
    rw [hN1, hN2] at hW1
    rw [hN1] at HC
    rw [hN1, hN2]
    subst hW1
    clear hw hw1 hb1 hB hsf hl hr1 hF e hc hN1 hN2
    go_enter Try.func58, Try.ntmps58
    go_wp2_with (go_at_call 81; refine HC.out.mono ?_; rintro e w' ⟨⟨vr, rfl⟩, v', hw', hk⟩)
    go_end0
    exact ⟨⟨_, rfl⟩, v', hw', hk.behind HB.out⟩
  by_cases k7 : kind = 7
  · subst k7
    have e : wList s list most = sf := by rw [← hsf]; unfold wOp; simp
    have hc := putList_is A2 c2 list most W1 base g v s (F_alloc' hF hB) hw1 hb1 (by omega)
    rw [e] at hc
    have HC := Aside0.mk hc
    obtain ⟨N1, hN1⟩ : ∃ N, bytes.length = N := ⟨_, rfl⟩
    obtain ⟨N2, hN2⟩ : ∃ N, list.length = N := ⟨_, rfl⟩
    rw [hN1, hN2] at hW1
    rw [hN2] at HC
    rw [hN1, hN2]
    subst hW1
    clear hw hw1 hb1 hB hsf hl hr1 hF e hc hN1 hN2
    go_enter Try.func58, Try.ntmps58
    go_wp2_with (go_at_call 84; refine HC.out.mono ?_; rintro e w' ⟨⟨vr, rfl⟩, v', hw', hk⟩)
    go_end0
    exact ⟨⟨_, rfl⟩, v', hw', hk.behind HB.out⟩
  have e : s = sf := by rw [← hsf]; unfold wOp; simp [k1, k2, k3, k4, k5, k6, k7]
  subst e
  have HW := Aside0.mk hw1
  have HK := Aside0.mk ((WrKeeps.refl W1 g v).behind hB)
  obtain ⟨N1, hN1⟩ : ∃ N, bytes.length = N := ⟨_, rfl⟩
  obtain ⟨N2, hN2⟩ : ∃ N, list.length = N := ⟨_, rfl⟩
  rw [hN1, hN2] at hW1
  rw [hN1, hN2]
  have q1 : (kind == 1) = false := by rw [beq_eq_false_iff_ne]; exact k1
  have q2 : (kind == 2) = false := by rw [beq_eq_false_iff_ne]; exact k2
  have q3 : (kind == 3) = false := by rw [beq_eq_false_iff_ne]; exact k3
  have q4 : (kind == 4) = false := by rw [beq_eq_false_iff_ne]; exact k4
  have q5 : (kind == 5) = false := by rw [beq_eq_false_iff_ne]; exact k5
  have q6 : (kind == 6) = false := by rw [beq_eq_false_iff_ne]; exact k6
  have q7 : (kind == 7) = false := by rw [beq_eq_false_iff_ne]; exact k7
  subst hW1
  clear hw hw1 hb1 hB hsf hl hr1 hF hN1 hN2
  go_enter Try.func58, Try.ntmps58
  go_wp2
  go_end0
  exact ⟨⟨_, rfl⟩, v, HW.out, HK.out⟩
end Go.Proofs.Ytceeoifbimlkdaa.B
