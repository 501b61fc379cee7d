/- Proved: the contracts of slots.At and slots.Until where a slot is known, and of the Walker's part, Now, Occupant, Until. -/
import Derived.Test.YtckdjcidbpnfeaaDoorWalkMath
import Derived.Test.YtckdjcidbpnfeaaDoorHMake13
namespace Go.Proofs.YtckdjcidbpnfeaaDoor.B
open Go.RowKit Go.Proofs.YtckdjcidbpnfeaaDoorW.PrintWords Go.Proofs.YtckdjcidbpnfeaaDoorW.PrintLast Go.Proofs.YtckdjcidbpnfeaaDoorW.PrintMore

section
variable {P C : List (Nat × Nat)} {h : Nat} {c : Bool} {pl u s : Nat}
theorem at_known (A1 : Option Addr) (c1 : Nat) (A2 : Option Addr) (c2 : Nat) (T : Nat) (w : World) (ht : Table P C h) (k : Stands P C h c pl u s) (h1 : s ≤ T) (h2 : T < u) (hT : T < 1099511627776) (hr1 : Kd.C k72 w A1 (P.map toS).length (P.map toS)) (hc1 : (P.map toS).length ≤ c1) (hr2 : Kd.C k72 w A2 (C.map toS).length (C.map toS)) (hc2 : (C.map toS).length ≤ c2) :
    Calls Tryd.prog 18 #[.agg #[.slice A1 (P.map toS).length c1, .slice A2 (C.map toS).length c2], .int .i64 (T : Nat)] w fun e w' => e = .returned (.tuple #[.int .i64 (((lst P C c)[pl]'k.lt).2 : Nat), .int .i64 0]) ∧ Below w.heap.size w w' := by
  refine slots_At.calls A1 c1 (P.map toS) A2 c2 (C.map toS) (T : Nat) _ _ w hr1 hc1 hr2 hc2 ?_
  rw [slots_At.good ht, if_neg (by omega), Int.toNat_natCast, (k.tells ht T h1 h2).1]
set_option maxHeartbeats 4000000 in
set_option maxRecDepth 100000 in
theorem until_known (A1 : Option Addr) (c1 : Nat) (A2 : Option Addr) (c2 : Nat) (T : Nat) (w : World) (ht : Table P C h) (k : Stands P C h c pl u s) (h1 : s ≤ T) (h2 : T < u) (hT : T < 1099511627776) (hr1 : Kd.C k72 w A1 (P.map toS).length (P.map toS)) (hc1 : (P.map toS).length ≤ c1) (hr2 : Kd.C k72 w A2 (C.map toS).length (C.map toS)) (hc2 : (C.map toS).length ≤ c2) :
    Calls Tryd.prog 19 #[.agg #[.slice A1 (P.map toS).length c1, .slice A2 (C.map toS).length c2], .int .i64 (T : Nat)] w fun e w' => e = .returned (.tuple #[.int .i64 (min u 1099511627776 : Nat), .int .i64 0]) ∧ Below w.heap.size w w' := by
  have hu27 := Tryd.underlying27
  have hB1 := (Below.refl _ w).alloc (Nat.le_refl _) (.cells #[.slice A1 (P.map toS).length c1, .slice A2 (C.map toS).length c2] 27)
  have HF := Aside0.mk (find_is A1 c1 A2 c2 P C h T _ ht hT (Kd.C_below hr1 hB1) hc1 (Kd.C_below hr2 hB1) hc2)
  rw [(k.tells ht T h1 h2).2] at HF
  have HB := Aside0.mk hB1
  generalize (partAt (if T < h then P else C) (if T < h then T else T % h)) = X at *
  generalize min u 1099511627776 = Y at *
  clear hB1 hr1 hr2 ht hc1 hc2 k h1 h2
  obtain ⟨n1, hn1⟩ : ∃ n, (P.map toS).length = n := ⟨_, rfl⟩
  obtain ⟨n2, hn2⟩ : ∃ n, (C.map toS).length = n := ⟨_, rfl⟩
  rw [hn1, hn2] at HF HB
  rw [hn1, hn2]
  clear hn1 hn2
  go_enter Tryd.func19, Tryd.ntmps19
  go_wp2_with (go_at_call 48; refine HF.out.mono ?_; rintro e w2 ⟨rfl, hb2⟩; have HB2 := Aside0.mk (HB.out.trans (hb2.mono HB.out.size)); clear hb2)
  go_ret2
  exact ⟨rfl, HB2.out⟩
end

/-- A walker in memory. -/
structure WkAt (W : World) (base g : Nat) (V0 V1 : Value) (P C : List (Nat × Nat)) (h now : Nat) (c : Bool) (pl u : Nat) : Prop where
  low : base ≤ g
  blk : W.heap[g]? = some (.cells #[.int .i64 (now : Nat), .int .i64 (h : Nat), V0, V1, .bool c, .int .i64 (pl : Nat), .int .i64 (u : Nat)] 81 (0, 0))
  r0 : TV k72 72 W base (fun _ => True) V0 (P.map toS)
  r1 : TV k72 72 W base (fun _ => True) V1 (C.map toS)
section
variable {W W' : World} {base g : Nat} {V0 V1 : Value} {P C : List (Nat × Nat)} {h now : Nat} {c : Bool} {pl u : Nat}
theorem WkAt.step (k : WkAt W base g V0 V1 P C h now c pl u) {now' : Nat} {c' : Bool} {pl' u' : Nat} (hk : ∀ i, i < W.heap.size → i ≠ g → W'.heap[i]? = W.heap[i]?) (hb : W'.heap[g]? = some (.cells #[.int .i64 (now' : Nat), .int .i64 (h : Nat), V0, V1, .bool c', .int .i64 (pl' : Nat), .int .i64 (u' : Nat)] 81 (0, 0))) :
    WkAt W' base g V0 V1 P C h now' c' pl' u' :=
  ⟨k.low, hb, TV_mono (TV_step (TV_types k.r0 k.blk (by decide)) fun i hi hl => hk i hl hi.2) (fun _ _ => trivial), TV_mono (TV_step (TV_types k.r1 k.blk (by decide)) fun i hi hl => hk i hl hi.2) (fun _ _ => trivial)⟩
theorem WkAt.below (k : WkAt W base g V0 V1 P C h now c pl u) (hb : Below W.heap.size W W') : WkAt W' base g V0 V1 P C h now c pl u :=
  k.step (fun i hi _ => hb.block i hi) ((hb.block g (blk_lt k.blk)).trans k.blk)
theorem WkAt.drew (k : WkAt W base g V0 V1 P C h now c pl u) : WkAt W.drew base g V0 V1 P C h now c pl u := k.below (below_drew (Below.refl _ _))
/-- The slot in which it is, in memory. -/
theorem WkAt.slot (k : WkAt W base g V0 V1 P C h now c pl u) (hp : pl < (lst P C c).length) : ∃ ad n cc, (if c = true then V1 else V0) = .slice (some ad) n cc ∧ pl < n ∧ n = (lst P C c).length ∧ W.cell? (ad.add (pl * 2)) = some (.int .i64 (((lst P C c)[pl]'hp).1 : Nat)) ∧
    W.cell? ⟨(ad.add (pl * 2)).block, (ad.add (pl * 2)).off + 1, none⟩ = some (.int .i64 (((lst P C c)[pl]'hp).2 : Nat)) := by
  have key : ∀ (V : Value) (L : List (Nat × Nat)) (hp : pl < L.length), TV k72 72 W base (fun _ => True) V (L.map toS) → ∃ ad n cc, V = .slice (some ad) n cc ∧ pl < n ∧ n = L.length ∧ W.cell? (ad.add (pl * 2)) = some (.int .i64 ((L[pl]'hp).1 : Nat)) ∧ W.cell? ⟨(ad.add (pl * 2)).block, (ad.add (pl * 2)).off + 1, none⟩ = some (.int .i64 ((L[pl]'hp).2 : Nat)) := by
    intro V L hp hV
    obtain ⟨A, cc, rfl⟩ := TV_slice hV
    have hR := TV_reads' hV
    obtain ⟨ad, e, x0, x1⟩ := at_T72 hR.2.2 (pl : Int) (by omega) (by rw [List.length_map]; omega)
    cases e
    rw [Int.toNat_natCast, rdS L pl hp] at x0 x1
    exact ⟨ad, _, cc, rfl, by rw [List.length_map]; exact hp, List.length_map _, x0, x1⟩
  cases c
  · exact key V0 P hp k.r0
  · exact key V1 C hp k.r1
end
set_option maxHeartbeats 4000000 in
set_option maxRecDepth 100000 in
theorem part_is (W : World) (g : Nat) (a0 a1 V0 V1 a5 a6 : Value) (c : Bool) (hb : W.heap[g]? = some (.cells #[a0, a1, V0, V1, .bool c, a5, a6] 81 (0, 0))) :
    Calls Tryd.prog 47 #[.pointer (some ⟨g, 0, none⟩)] W fun e w' => e = .returned (if c = true then V1 else V0) ∧ W = w' := by
  have hu81 := Tryd.underlying81
  have hu27 := Tryd.underlying27
  have j2 := (blk_cell hb 2).trans (show _ = some V0 from rfl)
  have j3 := (blk_cell hb 3).trans (show _ = some V1 from rfl)
  have j4 := (blk_cell hb 4).trans (show _ = some (.bool c) from rfl)
  clear hb
  cases c
  · go_enter Tryd.func47, Tryd.ntmps47
    go_wp2
    go_ret
    exact ⟨rfl, rfl⟩
  · go_enter Tryd.func47, Tryd.ntmps47
    go_wp2
    go_ret
    exact ⟨rfl, rfl⟩
set_option maxHeartbeats 4000000 in
set_option maxRecDepth 100000 in
theorem now_is (W : World) (g : Nat) (a0 a1 V0 V1 a4 a5 a6 : Value) (hb : W.heap[g]? = some (.cells #[a0, a1, V0, V1, a4, a5, a6] 81 (0, 0))) :
    Calls Tryd.prog 20 #[.pointer (some ⟨g, 0, none⟩)] W fun e w' => e = .returned a0 ∧ W = w' := by
  have hu81 := Tryd.underlying81
  have j0 := (blk_cell hb 0).trans (show _ = some a0 from rfl)
  clear hb
  go_enter Tryd.func20, Tryd.ntmps20
  go_wp2
  go_ret
  exact ⟨rfl, rfl⟩
attribute [local go_sem] Oper.semAt_some max2_mx max_two min2_mn min_two
set_option maxHeartbeats 4000000 in
set_option maxRecDepth 100000 in
theorem wuntil_is (W : World) (g : Nat) (a0 a1 V0 V1 a4 a5 : Value) (u : Nat) (hb : W.heap[g]? = some (.cells #[a0, a1, V0, V1, a4, a5, .int .i64 (u : Nat)] 81 (0, 0))) :
    Calls Tryd.prog 22 #[.pointer (some ⟨g, 0, none⟩)] W fun e w' => e = .returned (.int .i64 (min u 1099511627776 : Nat)) ∧ W = w' := by
  have hu81 := Tryd.underlying81
  have j6 := (blk_cell hb 6).trans (show _ = some (.int .i64 (u : Nat)) from rfl)
  have hm : mnI (u : Int) 1099511627776 = ((min u 1099511627776 : Nat) : Int) := by unfold mnI; split <;> omega
  generalize min u 1099511627776 = Y at *
  have HM := Aside0.mk hm
  clear hb
  go_enter Tryd.func22, Tryd.ntmps22
  go_wp2
  go_ret
  exact ⟨by first | rfl | (rw [← HM.out]) | (simp [HM.out]), rfl⟩
set_option maxHeartbeats 4000000 in
set_option maxRecDepth 100000 in
theorem occupant_is (W : World) (base g : Nat) (V0 V1 : Value) (P C : List (Nat × Nat)) (h now : Nat) (c : Bool) (pl u : Nat) (k : WkAt W base g V0 V1 P C h now c pl u) (hp : pl < (lst P C c).length) (_hl : pl ≤ 1048576) :
    Calls Tryd.prog 21 #[.pointer (some ⟨g, 0, none⟩)] W fun e w' => e = .returned (.int .i64 (((lst P C c)[pl]'hp).2 : Nat)) ∧ Below W.heap.size W w' := by
  have hu81 := Tryd.underlying81
  have hu72 := Tryd.underlying72
  obtain ⟨ad, n, cc, e, hn, -, x0, x1⟩ := k.slot hp
  have HP := Aside0.mk (fun (W' : World) (hb : Below W.heap.size W W') => part_is W' g _ _ V0 V1 _ _ c (k.below hb).blk)
  rw [e] at HP
  have j5 := (blk_cell k.blk 5).trans (show _ = some (.int .i64 (pl : Nat)) from rfl)
  generalize ((lst P C c)[pl]'hp).2 = X at *
  have hpn : (pl : Int) < (n : Int) := by omega
  clear k x0 e hp
  go_enter Tryd.func21, Tryd.ntmps21
  go_wp2
  go_region_with (go_at_call 47; refine (HP.out _ (below_drew1 (Below.refl _ _))).mono ?_; rintro e w' ⟨rfl, rfl⟩)
  all_goals go_wp2
  all_goals go_ret
  all_goals exact ⟨by (first | rfl | (simp [Act.put, go_sem]; done)), below_drew (Below.refl _ _)⟩
end Go.Proofs.YtckdjcidbpnfeaaDoor.B
