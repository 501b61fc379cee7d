/- Proved: what check.servers, check.hyper, check.face and check.Hyper answer of any servers. Conditions: the list of servers is read as it lies; of Hyper's: the variable errors.errorType holds what the program's text lays. -/
import Derived.Test.YtckdjcidbpnfeaaDoorBx0
import Derived.Test.YtckdjcidbpnfeaaDoorBx1
import Derived.Test.YtckdjcidbpnfeaaDoorHAs
import Derived.Outline
import Derived.LoopTactic
namespace Go.Proofs.YtckdjcidbpnfeaaDoor.B
open Go.RowKit Go.Proofs.YtckdjcidbpnfeaaDoorW.PrintWords Go.Proofs.YtckdjcidbpnfeaaDoorW.PrintLast Go.Proofs.YtckdjcidbpnfeaaDoorW.PrintMore

theorem within_yes (x lo hi : Int) (w : World) (h : lo ≤ x ∧ x ≤ hi) :
    Calls Tryd.prog 99 #[.int .i64 x, .int .i64 lo, .int .i64 hi] w fun e w' => e = .returned (.bool true) ∧ w = w' := by
  obtain ⟨h1, h2⟩ := h
  go_enter Tryd.func99, Tryd.ntmps99
  go_wp2
  go_ret
  exact ⟨rfl, rfl⟩
theorem within_no (x lo hi : Int) (w : World) (h : ¬ (lo ≤ x ∧ x ≤ hi)) :
    Calls Tryd.prog 99 #[.int .i64 x, .int .i64 lo, .int .i64 hi] w fun e w' => e = .returned (.bool false) ∧ w = w' := by
  by_cases h1 : lo ≤ x
  · have h2 : ¬ x ≤ hi := fun c => h ⟨h1, c⟩
    clear h
    go_enter Tryd.func99, Tryd.ntmps99
    go_wp2
    go_ret
    exact ⟨rfl, rfl⟩
  · clear h
    go_enter Tryd.func99, Tryd.ntmps99
    go_wp2
    go_ret
    exact ⟨rfl, rfl⟩

/-- May the server be, by itself? -/
def validS (s : S24) : Bool := decide (1 ≤ s.f0) && decide (s.f0 ≤ 1048576) && decide (1 ≤ s.f1) && decide (s.f1 ≤ s.f0) && decide (0 ≤ s.f2) && decide (s.f2 ≤ s.f0 - 1) && decide (0 ≤ s.f3) && decide (s.f3 ≤ 255)
/-- Has one of the first i servers this priority? -/
def seenB (l : List S24) (i : Nat) (q : Int) : Bool := (l.take i).any fun s => s.f3 == q
def okAt (l : List S24) (i : Nat) : Bool := validS (l.getD i z24) && !seenB l i (l.getD i z24).f3

/-- What servers tells, with its place in memory. -/
def SrvPost (w : World) (l : List S24) (e : Ending) (w' : World) : Prop :=
  Below w.heap.size w w' ∧ ((l.length ≤ 32 ∧ (∀ i, i < l.length → okAt l i = true) ∧ e = .returned .nilIface) ∨
    ∃ r p b, e = .returned (.iface 126 (.pointer (some ⟨b, 0, none⟩))) ∧ w'.cell? ⟨b, 0, none⟩ = some (.int .i64 r) ∧ w'.cell? ⟨b, 1, none⟩ = some (.int .i64 p) ∧
      ((32 < l.length ∧ r = 100 ∧ p = 0) ∨ (l.length ≤ 32 ∧ ∃ i, i < l.length ∧ (∀ j, j < i → okAt l j = true) ∧ okAt l i = false ∧ r = 101 ∧ p = (i : Int) + 1)))

theorem seen_succ (l : List S24) (k : Nat) (h : k < l.length) (q : Int) : seenB l (k + 1) q = (seenB l k q || ((l.getD k z24).f3 == q)) := by
  unfold seenB
  rw [List.take_succ_eq_append_getElem h, List.any_append, List.getD_eq_getElem?_getD, List.getElem?_eq_getElem h]; simp

/-- What holds at the head of servers' loop. -/
def SrvInv (w : World) (l : List S24) (k : Nat) (wr : World) : Prop :=
  k ≤ l.length ∧ (∀ i, i < k → okAt l i = true) ∧ Below w.heap.size w wr ∧
    ∃ cs : Array Value, wr.heap[w.heap.size]? = some (.cells cs 149 (0, 0)) ∧ ∀ q : Nat, q < 256 → cs[q]? = some (.bool (seenB l k (q : Int)))

theorem post_big {w : World} {l : List S24} (h : 32 < l.length) :
    SrvPost w l (.returned (.iface 126 (.pointer (some ⟨w.heap.size, 0, none⟩)))) (w.alloc (.cells #[.int .i64 100, .int .i64 0] 128)) :=
  ⟨(Below.refl _ _).alloc (Nat.le_refl _) _, .inr ⟨100, 0, _, rfl, by rw [blk_cell (heap_alloc_new _ _)]; rfl, by rw [blk_cell (heap_alloc_new _ _)]; rfl, .inl ⟨h, rfl, rfl⟩⟩⟩

theorem post_bad {w wr : World} {l : List S24} {k : Nat} (h32 : l.length ≤ 32) (hk : k < l.length) (hok : ∀ i, i < k → okAt l i = true) (hB : Below w.heap.size w wr) (hbad : okAt l k = false) (o : Obj) :
    SrvPost w l (.returned (.iface 126 (.pointer (some ⟨wr.heap.size + 1, 0, none⟩)))) ((wr.alloc o).alloc (.cells #[.int .i64 101, .int .i64 ((k : Int) + 1)] 128)) := by
  have hn := heap_alloc_new (wr.alloc o) (.cells #[.int .i64 101, .int .i64 ((k : Int) + 1)] 128)
  rw [World.size_alloc] at hn
  have h1 := hB.alloc hB.size o
  exact ⟨h1.alloc h1.size _, .inr ⟨101, (k : Int) + 1, _, rfl, by rw [blk_cell hn]; rfl, by rw [blk_cell hn]; rfl, .inr ⟨h32, k, hk, hok, hbad, rfl, rfl⟩⟩⟩

theorem post_good {w wr : World} {l : List S24} (h32 : l.length ≤ 32) (hok : ∀ i, i < l.length → okAt l i = true) (hB : Below w.heap.size w wr) : SrvPost w l (.returned .nilIface) wr :=
  ⟨hB, .inl ⟨h32, hok, rfl⟩⟩

theorem inv_step {w wr : World} {l : List S24} {k : Nat} {R : Int} (hk : k < l.length) (hok : ∀ i, i < k → okAt l i = true) (hB : Below w.heap.size w wr) {cs : Array Value}
    (hcs : wr.heap[w.heap.size]? = some (.cells cs 149 (0, 0))) (hq : ∀ q : Nat, q < 256 → cs[q]? = some (.bool (seenB l k (q : Int)))) (hR : (l.getD k z24).f3 = R) (h0 : 0 ≤ R) (h1 : okAt l k = true) (o : Obj) :
    SrvInv w l (k + 1) ((wr.setCell ⟨w.heap.size, R.toNat, none⟩ (.bool true)).alloc o) := by
  have hlt := blk_lt hcs
  have hcs2 := blk_set hcs R.toNat (.bool true)
  have hB2 : Below w.heap.size w (wr.setCell ⟨w.heap.size, R.toNat, none⟩ (.bool true)) := hB.setCell (p := ⟨w.heap.size, R.toNat, none⟩) (Nat.le_refl _) _
  refine ⟨by omega, fun i hi => ?_, hB2.alloc hB2.size o, _, (Below.heap_alloc _ o _ (blk_lt hcs2)).trans hcs2, fun q hq' => ?_⟩
  · by_cases e : i = k
    · subst e; exact h1
    · exact hok i (by omega)
  · rw [Array.getElem?_setIfInBounds, seen_succ l k hk, hR]
    have hsz : q < cs.size := by
      have := hq q hq'
      exact (Array.getElem?_eq_some_iff.1 this).1
    by_cases e : R.toNat = q
    · rw [if_pos e, if_pos (by omega)]
      have : (R == (q : Int)) = true := by simp; omega
      rw [this, Bool.or_true]
    · rw [if_neg e, hq q hq']
      have : (R == (q : Int)) = false := by simp; omega
      rw [this, Bool.or_false]

set_option maxHeartbeats 4000000 in
set_option maxRecDepth 100000 in
theorem servers_is (A : Option Addr) (c : Nat) (l : List S24) (w : World) (hr : Kd.C k24 w A l.length l) :
    Calls Tryd.prog 80 #[.slice A l.length c] w (SrvPost w l) := by
  have HR := Aside0.mk hr
  clear hr
  have hu1 := Tryd.underlying24
  have hu2 := Tryd.underlying128
  have hu3 := Tryd.underlying149
  by_cases big : 32 < l.length
  · go_enter Tryd.func80, Tryd.ntmps80
    go_wp2
    go_ret
    exact post_big big
  · have hz : SrvInv w l 0 (w.alloc (Obj.cells Tryd.zeroCells149 149)) := by
      refine ⟨Nat.zero_le _, fun i hi => absurd hi (Nat.not_lt_zero _), (Below.refl _ _).alloc (Nat.le_refl _) _, _, heap_alloc_new _ _, fun q hq => ?_⟩
      have e : (Tryd.zeroCells149 : Array Value) = Array.replicate 256 (.bool false) := by kernel_rfl
      rw [e, Array.getElem?_replicate, if_pos hq]; rfl
    go_enter Tryd.func80, Tryd.ntmps80
    go_wp2
    go_loopw [14] (fun t wr => ∃ k : Nat, t = .int .i64 k ∧ SrvInv w l k wr) (fun t _ => l.length - (intOf t).toNat)
    case atStart => exact ⟨0, rfl, hz⟩
    case round =>
      obtain ⟨k, rfl, hk, hok, hB, cs, hcs, hq⟩ := hrel
      by_cases hlt : k < l.length
      · obtain ⟨ad, rfl, x0, x1, x2, x3⟩ := at_T24 HR.out (k : Int) (by omega) (by omega)
        have e : rd_T24 l (k : Int) = l.getD k z24 := by simp [rd_T24]
        rw [e] at x0 x1 x2 x3
        simp only [Int.toNat_natCast] at x0 x1 x2 x3
        replace x0 := (hB.cell (World.block_lt_of_cell? w _ x0)).trans x0
        replace x1 := (hB.cell (World.block_lt_of_cell? w _ x1)).trans x1
        replace x2 := (hB.cell (World.block_lt_of_cell? w _ x2)).trans x2
        replace x3 := (hB.cell (World.block_lt_of_cell? w _ x3)).trans x3
        have hS : ∀ P B O R, l.getD k z24 = ⟨P, B, O, R⟩ → okAt l k = (decide (1 ≤ P ∧ P ≤ 1048576) && decide (1 ≤ B ∧ B ≤ P) && decide (0 ≤ O ∧ O ≤ P - 1) && decide (0 ≤ R ∧ R ≤ 255) && !seenB l k R) := by
          intro P B O R hs; unfold okAt validS; rw [hs]; simp only [Bool.decide_and, Bool.and_assoc]
        obtain ⟨s, hs⟩ : ∃ s, l.getD k z24 = s := ⟨_, rfl⟩
        rw [hs] at x0 x1 x2 x3
        obtain ⟨P, B, O, R⟩ := s
        replace hS := hS P B O R hs
        have hR : (l.getD k z24).f3 = R := by rw [hs]
        have HS := Aside0.mk hS
        have HRR := Aside0.mk hR
        have HOK := Aside0.mk hok
        have HQ := Aside0.mk hq
        have HBB := Aside0.mk hB
        have HCS := Aside0.mk hcs
        have hbl := blk_lt hcs
        have h32 : l.length ≤ 32 := by omega
        clear hs e hS hR hok hq
        dsimp only at x0 x1 x2 x3
        by_cases v1 : 1 ≤ P ∧ P ≤ 1048576
        · by_cases v2 : 1 ≤ B ∧ B ≤ P
          · by_cases v3 : 0 ≤ O ∧ O ≤ P - 1
            · by_cases v4 : 0 ≤ R ∧ R ≤ 255
              · have fz : wr.frozen? ⟨w.heap.size, R.toNat, none⟩ = false := blk_frozen hcs _
                have hcell : wr.cell? ⟨w.heap.size, R.toNat, none⟩ = some (.bool (seenB l k R)) := by
                  rw [blk_cell hcs, HQ.out R.toNat (by omega), Int.toNat_of_nonneg v4.1]
                clear hcs hB
                have hR0 := v4.1
                have hR1 : R < 256 := by omega
                cases hsn : seenB l k R with
                | true =>
                  rw [hsn] at hcell
                  have hbad : okAt l k = false := by rw [HS.out, hsn]; simp
                  have HBAD := Aside0.mk hbad
                  clear hsn hbad
                  go_wp2_with (first | (go_at_call 99; (with_reducible refine (within_yes P 1 1048576 _ v1).mono ?_); rintro e w' ⟨rfl, rfl⟩) | (go_at_call 99; (with_reducible refine (within_yes B 1 P _ v2).mono ?_); rintro e w' ⟨rfl, rfl⟩) | (go_at_call 99; (with_reducible refine (within_yes O 0 (P - 1) _ v3).mono ?_); rintro e w' ⟨rfl, rfl⟩) | (go_at_call 99; (with_reducible refine (within_yes R 0 255 _ v4).mono ?_); rintro e w' ⟨rfl, rfl⟩))
                  go_ret
                  exact post_bad h32 hlt HOK.out HBB.out HBAD.out _
                | false =>
                  rw [hsn] at hcell
                  have hgood : okAt l k = true := by rw [HS.out, hsn, decide_eq_true v1, decide_eq_true v2, decide_eq_true v3, decide_eq_true v4]; rfl
                  have HGOOD := Aside0.mk hgood
                  clear hsn hgood
                  go_wp2_with (first | (go_at_call 99; (with_reducible refine (within_yes P 1 1048576 _ v1).mono ?_); rintro e w' ⟨rfl, rfl⟩) | (go_at_call 99; (with_reducible refine (within_yes B 1 P _ v2).mono ?_); rintro e w' ⟨rfl, rfl⟩) | (go_at_call 99; (with_reducible refine (within_yes O 0 (P - 1) _ v3).mono ?_); rintro e w' ⟨rfl, rfl⟩) | (go_at_call 99; (with_reducible refine (within_yes R 0 255 _ v4).mono ?_); rintro e w' ⟨rfl, rfl⟩))
                  go_roundw
                  case rel => exact ⟨k + 1, by go_num, inv_step hlt HOK.out HBB.out HCS.out HQ.out HRR.out hR0 HGOOD.out _⟩
                  case measure => simp [intOf]; omega
              · have hbad : okAt l k = false := by rw [HS.out, decide_eq_false v4]; simp
                have HBAD := Aside0.mk hbad
                clear hbad hcs hB
                go_wp2_with (first | (go_at_call 99; (with_reducible refine (within_yes P 1 1048576 _ v1).mono ?_); rintro e w' ⟨rfl, rfl⟩) | (go_at_call 99; (with_reducible refine (within_yes B 1 P _ v2).mono ?_); rintro e w' ⟨rfl, rfl⟩) | (go_at_call 99; (with_reducible refine (within_yes O 0 (P - 1) _ v3).mono ?_); rintro e w' ⟨rfl, rfl⟩) | (go_at_call 99; (with_reducible refine (within_no R 0 255 _ v4).mono ?_); rintro e w' ⟨rfl, rfl⟩))
                go_ret
                exact post_bad h32 hlt HOK.out HBB.out HBAD.out _
            · have hbad : okAt l k = false := by rw [HS.out, decide_eq_false v3]; simp
              have HBAD := Aside0.mk hbad
              clear hbad hcs hB
              go_wp2_with (first | (go_at_call 99; (with_reducible refine (within_yes P 1 1048576 _ v1).mono ?_); rintro e w' ⟨rfl, rfl⟩) | (go_at_call 99; (with_reducible refine (within_yes B 1 P _ v2).mono ?_); rintro e w' ⟨rfl, rfl⟩) | (go_at_call 99; (with_reducible refine (within_no O 0 (P - 1) _ v3).mono ?_); rintro e w' ⟨rfl, rfl⟩))
              go_ret
              exact post_bad h32 hlt HOK.out HBB.out HBAD.out _
          · have hbad : okAt l k = false := by rw [HS.out, decide_eq_false v2]; simp
            have HBAD := Aside0.mk hbad
            clear hbad hcs hB
            go_wp2_with (first | (go_at_call 99; (with_reducible refine (within_yes P 1 1048576 _ v1).mono ?_); rintro e w' ⟨rfl, rfl⟩) | (go_at_call 99; (with_reducible refine (within_no B 1 P _ v2).mono ?_); rintro e w' ⟨rfl, rfl⟩))
            go_ret
            exact post_bad h32 hlt HOK.out HBB.out HBAD.out _
        · have hbad : okAt l k = false := by rw [HS.out, decide_eq_false v1]; simp
          have HBAD := Aside0.mk hbad
          clear hbad hcs hB
          go_wp2_with (go_at_call 99; (with_reducible refine (within_no P 1 1048576 _ v1).mono ?_); rintro e w' ⟨rfl, rfl⟩)
          go_ret
          exact post_bad h32 hlt HOK.out HBB.out HBAD.out _
      · have hk' : k = l.length := by omega
        have HP := Aside0.mk (post_good (l := l) (by omega) (fun i hi => hok i (by omega)) hB)
        clear hok hq hcs hB hk'
        go_wp2
        go_ret
        exact HP.out

/-- face of no error. -/
theorem face_nil (w : World) : Calls Tryd.prog 50 #[.nilIface] w fun e w' => e = .returned (.tuple #[.int .i64 0, .int .i64 0]) ∧ Below w.heap.size w w' := by
  go_enter Tryd.func50, Tryd.ntmps50
  go_wp2_with (go_at_call 82; refine (H.as_nil _ _).mono ?_; rintro e w' ⟨rfl, rfl⟩)
  go_ret2
  exact ⟨rfl, (Below.refl _ _).alloc (Nat.le_refl _) _⟩

/-- face of a *check.wrong. -/
theorem face_wrong (n : Nat) (r p : Int) (w : World) (hg : w.cell? ⟨0, 0, none⟩ = some (.iface 168 (.agg #[.pointer (some ⟨1, 86, none⟩)])))
    (h0 : w.cell? ⟨n, 0, none⟩ = some (.int .i64 r)) (h1 : w.cell? ⟨n, 1, none⟩ = some (.int .i64 p)) :
    Calls Tryd.prog 50 #[.iface 126 (.pointer (some ⟨n, 0, none⟩))] w fun e w' => e = .returned (.tuple #[.int .i64 r, .int .i64 p]) ∧ Below w.heap.size w w' := by
  have hu2 := Tryd.underlying128
  have hglt : (0 : Nat) < w.heap.size := World.block_lt_of_cell? w _ hg
  have hb0 := World.block_lt_of_cell? w _ h0
  have hb1 := World.block_lt_of_cell? w _ h1
  have key : Calls Tryd.prog 82 #[.iface 126 (.pointer (some ⟨n, 0, none⟩)), .iface 130 (.pointer (some ⟨w.heap.size, 0, none⟩))] (w.alloc (.cells #[.pointer none] 126)) fun e w' =>
      e = .returned (.bool true) ∧ Below w.heap.size w w' ∧ w'.cell? ⟨w.heap.size, 0, none⟩ = some (.pointer (some ⟨n, 0, none⟩)) := by
    refine (H.as_hit _ _ (.pointer none) _ ?_ ?_ ?_).mono ?_
    · rw [World.cell?_alloc_lt _ _ ⟨0, 0, none⟩ hglt]; exact hg
    · rw [World.cell?_alloc_at _ _ _ _ rfl]; rfl
    · simp
    · rintro e w' ⟨rfl, hw⟩
      subst hw
      refine ⟨rfl, ?_, ?_⟩
      · refine Below.setCell (p := ⟨w.heap.size, 0, none⟩) ?_ (Nat.le_refl _) _
        refine Below.alloc ?_ (by simp; omega) _
        refine Below.alloc ?_ (by simp; omega) _
        refine Below.alloc ?_ (by simp; omega) _
        refine Below.alloc ?_ (by simp) _
        exact (Below.refl _ _).alloc (Nat.le_refl _) _
      · refine World.cell?_setCell_same' _ _ _ ?_
        rw [World.cell?_alloc_lt _ _ ⟨w.heap.size, 0, none⟩ (by simp; omega), World.cell?_alloc_lt _ _ ⟨w.heap.size, 0, none⟩ (by simp; omega), World.cell?_alloc_lt _ _ ⟨w.heap.size, 0, none⟩ (by simp; omega), World.cell?_alloc_lt _ _ ⟨w.heap.size, 0, none⟩ (by simp), World.cell?_alloc_at _ _ _ _ rfl]; rfl
  clear hg hglt
  have H0 := Aside0.mk h0
  have H1 := Aside0.mk h1
  clear h0 h1
  go_enter Tryd.func50, Tryd.ntmps50
  go_wp2_with (go_at_call 82; refine key.mono ?_; rintro e w' ⟨rfl, hB, hc⟩; have h0 := (hB.cell hb0).trans H0.out; have h1 := (hB.cell hb1).trans H1.out; have HB := Aside0.mk hB; clear hB)
  go_quiet (fail)
  go_wp2
  go_ret2
  exact ⟨rfl, pw_below_drewN HB.out _⟩

/-- The sum of the releases of the first i servers in two hyperperiods. -/
def relsum (l : List S24) (h : Int) (i : Nat) : Int := (l.take i).foldl (fun a s => a + 2 * h / s.f0) 0

theorem infoInt : (Tryd.prog.info? 3).map (fun i => (i.zero, i.size, i.bytes)) = some (some (.int .i64 0), 1, 8) := by kernel_rfl
/-- The periods of the first k servers. -/
def pers (l : List S24) (k : Nat) : List Int := (l.take k).map (·.f0)

theorem pers_succ (l : List S24) (k : Nat) (h : k < l.length) : pers l (k + 1) = pers l k ++ [(l.getD k z24).f0] := by
  unfold pers
  rw [List.take_succ_eq_append_getElem h, List.map_append, List.getD_eq_getElem?_getD, List.getElem?_eq_getElem h]; rfl
theorem pers_in (l : List S24) (h : ∀ i, i < l.length → okAt l i = true) : ∀ x ∈ pers l l.length, 1 ≤ x ∧ x ≤ 1048576 := by
  intro x hx
  simp only [pers, List.take_length, List.mem_map] at hx
  obtain ⟨s, hs, rfl⟩ := hx
  obtain ⟨i, hi, rfl⟩ := List.getElem_of_mem hs
  have := h i hi
  unfold okAt validS at this
  rw [List.getD_eq_getElem?_getD, List.getElem?_eq_getElem hi] at this
  simp only [Bool.and_eq_true, decide_eq_true_eq, Option.getD_some] at this
  exact ⟨this.1.1.1.1.1.1.1.1, this.1.1.1.1.1.1.1.2⟩

/-- What hyper tells, with its place in memory. -/
def HypPost (w : World) (l : List S24) (lcm : List Int → Int × Bool) (e : Ending) (w' : World) : Prop :=
  Below w.heap.size w w' ∧ ∃ h : Int, (∃ (v : Value), e = .returned (.tuple #[.int .i64 h, v]) ∧
    ((v = .nilIface ∧ l.length ≤ 32 ∧ (∀ i, i < l.length → okAt l i = true) ∧ lcm (pers l l.length) = (h, true) ∧ relsum l h l.length ≤ 65536) ∨
     (h = 0 ∧ ∃ r p b, v = .iface 126 (.pointer (some ⟨b, 0, none⟩)) ∧ w'.cell? ⟨b, 0, none⟩ = some (.int .i64 r) ∧ w'.cell? ⟨b, 1, none⟩ = some (.int .i64 p) ∧
      ((32 < l.length ∧ r = 100) ∨ (l.length ≤ 32 ∧ (∃ i, i < l.length ∧ okAt l i = false) ∧ r = 101) ∨
       (l.length ≤ 32 ∧ (∀ i, i < l.length → okAt l i = true) ∧ (lcm (pers l l.length)).2 = false ∧ r = 102) ∨
       (l.length ≤ 32 ∧ (∀ i, i < l.length → okAt l i = true) ∧ ∃ h', lcm (pers l l.length) = (h', true) ∧ 65536 < relsum l h' l.length ∧ r = 103)))))

theorem hyp_wrong {w w' : World} {l : List S24} {lcm : List Int → Int × Bool} (hB : Below w.heap.size w w') (r : Int)
    (hc : (32 < l.length ∧ r = 100) ∨ (l.length ≤ 32 ∧ (∃ i, i < l.length ∧ okAt l i = false) ∧ r = 101) ∨
       (l.length ≤ 32 ∧ (∀ i, i < l.length → okAt l i = true) ∧ (lcm (pers l l.length)).2 = false ∧ r = 102) ∨
       (l.length ≤ 32 ∧ (∀ i, i < l.length → okAt l i = true) ∧ ∃ h', lcm (pers l l.length) = (h', true) ∧ 65536 < relsum l h' l.length ∧ r = 103)) :
    HypPost w l lcm (.returned (.tuple #[.int .i64 0, .iface 126 (.pointer (some ⟨w'.heap.size, 0, none⟩))])) (w'.alloc (.cells #[.int .i64 r, .int .i64 0] 128)) :=
  ⟨hB.alloc hB.size _, 0, _, rfl, .inr ⟨rfl, r, 0, _, rfl, by rw [blk_cell (heap_alloc_new _ _)]; rfl, by rw [blk_cell (heap_alloc_new _ _)]; rfl, hc⟩⟩
theorem pers_at (l : List S24) (k : Nat) (h : k < l.length) : rd (pers l l.length) (k : Int) = (l.getD k z24).f0 := by
  simp only [rd, pers, List.take_length, Int.toNat_natCast, List.getD_eq_getElem?_getD, List.getElem?_map]
  rw [List.getElem?_eq_getElem h]; rfl
theorem pers_bd (l : List S24) (h : ∀ i, i < l.length → okAt l i = true) (k : Nat) (hk : k < l.length) : 1 ≤ rd (pers l l.length) (k : Int) ∧ rd (pers l l.length) (k : Int) ≤ 1048576 := by
  refine pers_in l h _ ?_
  rw [pers_at l k hk]
  simp only [pers, List.take_length, List.mem_map]
  exact ⟨l[k], List.getElem_mem _, by rw [List.getD_eq_getElem?_getD, List.getElem?_eq_getElem hk]; rfl⟩
theorem relsum_succ (l : List S24) (h : Int) (k : Nat) (hk : k < l.length) : relsum l h (k + 1) = relsum l h k + 2 * h / (l.getD k z24).f0 := by
  unfold relsum
  rw [List.take_succ_eq_append_getElem hk, List.foldl_append, List.getD_eq_getElem?_getD, List.getElem?_eq_getElem hk]; rfl
theorem relsum_bd (l : List S24) (h : Int) (hok : ∀ i, i < l.length → okAt l i = true) (hh : 1 ≤ h ∧ h ≤ 1048576) : ∀ k, k ≤ l.length → 0 ≤ relsum l h k ∧ relsum l h k ≤ 2097152 * (k : Int)
  | 0, _ => by simp [relsum]
  | k + 1, hk => by
    have ih := relsum_bd l h hok hh k (by omega)
    rw [relsum_succ l h k (by omega)]
    have hp := pers_bd l hok k (by omega)
    rw [pers_at l k (by omega)] at hp
    have h1 : 0 ≤ 2 * h / (l.getD k z24).f0 := Int.ediv_nonneg (by omega) (by omega)
    have h2 : 2 * h / (l.getD k z24).f0 ≤ 2 * h := Int.ediv_le_self _ (by omega)
    omega

set_option maxHeartbeats 4000000 in
set_option maxRecDepth 100000 in
theorem hyper_is (A : Option Addr) (c : Nat) (l : List S24) (w : World) (hr : Kd.C k24 w A l.length l) (lcm : List Int → Int × Bool) (K : Nat)
    (hl : ∀ xs : List Int, xs.length ≤ 32 → (∀ x ∈ xs, 1 ≤ x ∧ x ≤ 1048576) → num_Lcm_int.f K xs 1048576 = some (lcm xs) ∧ ((lcm xs).2 = true → 1 ≤ (lcm xs).1 ∧ (lcm xs).1 ≤ 1048576)) :
    Calls Tryd.prog 49 #[.slice A l.length c] w (HypPost w l lcm) := by
  have HR := Aside0.mk hr
  clear hr
  have HL := Aside0.mk hl
  clear hl
  have hu1 := Tryd.underlying24
  have hu2 := Tryd.underlying128
  obtain ⟨i0, hi, hz0, hz1, hz2⟩ := info_parts infoInt
  go_enter Tryd.func49, Tryd.ntmps49
  go_wp2_with (go_at_call 80; refine (servers_is _ _ _ _ HR.out).mono ?_)
  rintro e w1 ⟨hB, (⟨h32, hok, rfl⟩ | ⟨r, p, b, rfl, hc0, hc1, hcase⟩)⟩
  · obtain ⟨w2, hmk, hown, hgrow⟩ := run_make_own (P := Tryd.prog) w1 w.heap.size 47 3 i0 (.int .i64 0) 1 Tryd.underlying47 hi hz0 hz1 .i64 .i64 l.length (by rw [hz2]; omega) (by unfold maxLen; omega) hB.size
    have HO := Aside0.mk (Kd.R_of_own (enc := fun x : Int => .int .i64 x) (h1 := fun _ => rfl) (xs := []) (ok := fun _ => True) hown (fun _ _ => trivial))
    have HB := Aside0.mk (hB.grown hgrow hB.size (fun _ h => by cases h))
    have HOK := Aside0.mk hok
    clear hown hgrow hB hok hi hz0 hz1 hz2
    go_wp2
    go_loopw [5, 23] (fun v t wr => ∃ k : Nat, t = .int .i64 k ∧ k ≤ l.length ∧ Aside0 (Kd.R (Kd.int .i64) 3 wr w.heap.size (fun _ => True) v (pers l k)) ∧ Aside0 (Below w.heap.size w wr)) (fun _ t _ => l.length - (intOf t).toNat)
    case atStart => exact ⟨0, rfl, Nat.zero_le _, ⟨HO.out⟩, HB⟩
    case round =>
      obtain ⟨k, rfl, hk, HO, HB⟩ := hrel
      by_cases hlt : k < l.length
      · obtain ⟨ad, rfl, x0, x1, x2, x3⟩ := at_T24 HR.out (k : Int) (by omega) (by omega)
        have e : rd_T24 l (k : Int) = l.getD k z24 := by simp [rd_T24]
        rw [e] at x0 x1 x2 x3
        simp only [Int.toNat_natCast] at x0 x1 x2 x3
        replace x0 := (HB.out.cell (World.block_lt_of_cell? w _ x0)).trans x0
        replace x1 := (HB.out.cell (World.block_lt_of_cell? w _ x1)).trans x1
        replace x2 := (HB.out.cell (World.block_lt_of_cell? w _ x2)).trans x2
        replace x3 := (HB.out.cell (World.block_lt_of_cell? w _ x3)).trans x3
        obtain ⟨s, hs⟩ : ∃ s, l.getD k z24 = s := ⟨_, rfl⟩
        rw [hs] at x0 x1 x2 x3
        obtain ⟨P, B, O, R⟩ := s
        have hp := pers_succ l k hlt
        rw [hs] at hp
        have HP := Aside0.mk hp
        have hlen : (pers l k).length ≤ 32 := by simp only [pers, List.length_map, List.length_take]; omega
        clear hs e hp
        dsimp only at x0 x1 x2 x3
        go_wp2_with (first | ((with_reducible refine gate_builtin (b := .append) (xs := #[.tmp 27, .tmp 30]) rfl ?_); at_builtin; refine Kd.R_append (Kd.int .i64) (w0 := w) w.heap.size rfl (.tmp 27) (.tmp 30) 47 3 (.int .i64 0) 8 rfl Tryd.underlying47 infoInt rfl (by decide) (by omega) u5 (pers l k) P [.int .i64 P] (fun _ => True) (fun _ => False) rfl ?aX ?aP (fun _ hk => hk.elim) ?aF ?aO ?aB ?aS ?aL ?_; (case aX => (rw [World.size_alloc]; rfl)); (case aP => exact rfl); (case aB => exact (by repeat (first | (with_reducible first | exact HB.out | apply below_alloc | apply pw_below_drewN | apply below_drew1) | exact HB.out))); (case aF => exact (fun _ _ => trivial)); (case aO => exact (by (with_reducible repeat (first | apply Kd.R_alloc | apply Kd.R_drewN | apply Kd.R_drew)); exact HO.out)); (case aS => exact (below_size (by repeat (first | (with_reducible first | exact HB.out | apply below_alloc | apply pw_below_drewN | apply below_drew1) | exact HB.out)))); (case aL => omega); intro v5 w5 ho hb hg hat; rw [← HP.out] at ho; have n0_ := Aside0.mk hb; have n1_ := Aside0.mk ho; clear HB HO; have HB := n0_; have HO := n1_; clear n0_ n1_; clear ho hb hg hat))
        go_roundw
        case rel => exact ⟨k + 1, by go_num, by omega, ⟨HO.out⟩, ⟨HB.out⟩⟩
        case measure => simp [intOf]; omega
      · obtain rfl : k = l.length := by omega
        have hlen : (pers l l.length).length = l.length := by simp [pers]
        have hall : ∀ x ∈ pers l l.length, 1 ≤ x ∧ x ≤ 1048576 := pers_in l HOK.out
        obtain ⟨hlcm, hbd⟩ := HL.out (pers l l.length) (by omega) hall
        obtain ⟨Ao, co, eo⟩ := Kd.R_slice HO.out
        subst eo
        obtain ⟨h, ok, hres⟩ : ∃ h ok, lcm (pers l l.length) = (h, ok) := ⟨_, _, rfl⟩
        rw [hres] at hlcm hbd
        have HLCM := Aside0.mk hlcm
        have HRES := Aside0.mk hres
        clear hlcm hres hall
        have HLEN := Aside0.mk hlen
        clear hlen
        cases ok with
        | false =>
          clear hbd
          go_wp2_with (go_at_call 81; (with_reducible refine (num_Lcm_int.calls K _ _ (pers l l.length) 1048576 h false _ (Kd.R_reads' HO.out).2.2 (Kd.R_reads' HO.out).2.1 HLCM.out).mono ?_); rintro e w' ⟨rfl, hb⟩)
          go_ret2
          exact hyp_wrong ((HB.out.trans (hb.mono HB.out.size))) 102 (.inr (.inr (.inl ⟨h32, HOK.out, by rw [HRES.out], rfl⟩)))
        | true =>
          obtain ⟨b1, b2⟩ := hbd rfl
          clear hbd
          go_wp2_with (go_at_call 81; (with_reducible refine (num_Lcm_int.calls K _ _ (pers l l.length) 1048576 h true _ (Kd.R_reads' HO.out).2.2 (Kd.R_reads' HO.out).2.1 HLCM.out).mono ?_); rintro e w' ⟨rfl, hb⟩; have HC := Aside0.mk (Kd.C_below (Kd.R_reads' HO.out).2.2 hb); have HB2 := Aside0.mk (HB.out.trans (hb.mono HB.out.size)); clear hb)
          go_loop [10, 45] (fun n t => ∃ k : Nat, k ≤ l.length ∧ t = .int .i64 k ∧ n = .int .i64 (relsum l h k)) (fun _ t => l.length - (intOf t).toNat)
          case atStart => exact ⟨0, Nat.zero_le _, rfl, rfl⟩
          case round =>
            obtain ⟨k, hk, rfl, rfl⟩ := hrel
            by_cases hlt : k < l.length
            · have hlt2 : k < (pers l l.length).length := by rw [HLEN.out]; exact hlt
              obtain ⟨ad, rfl, x0⟩ := Kd.at_int HC.out (k : Int) (by omega) (by omega)
              have e : rd (pers l l.length) (k : Int) = (l.getD k z24).f0 := pers_at l k hlt
              rw [e] at x0
              simp only [Int.toNat_natCast] at x0
              obtain ⟨P, hP⟩ : ∃ P, (l.getD k z24).f0 = P := ⟨_, rfl⟩
              have hPb : 1 ≤ P ∧ P ≤ 1048576 := by rw [← hP, ← e]; exact pers_bd l HOK.out k hlt
              have hs := relsum_succ l h k hlt
              have hb := relsum_bd l h HOK.out ⟨b1, b2⟩ k hk
              rw [hP] at x0 hs
              obtain ⟨p1, p2⟩ := hPb
              have hq : 0 ≤ 2 * h / P ∧ 2 * h / P ≤ 2097152 := ⟨Int.ediv_nonneg (by omega) (by omega), Int.le_trans (Int.ediv_le_self _ (by omega)) (by omega)⟩
              obtain ⟨q1, q2⟩ := hq
              obtain ⟨b3, b4⟩ := hb
              have HS := Aside0.mk hs
              clear hs hP e
              go_wp2
              go_round
              case rel => exact ⟨k + 1, by omega, by go_num, by rw [HS.out]⟩
              case measure => simp [intOf]; omega
            · obtain rfl : k = l.length := by omega
              have hge : ¬ l.length < (pers l l.length).length := by rw [HLEN.out]; omega
              by_cases big : 65536 < relsum l h l.length
              · go_wp2
                go_ret2
                exact hyp_wrong HB2.out 103 (.inr (.inr (.inr ⟨h32, HOK.out, h, HRES.out, big, rfl⟩)))
              · go_wp2
                go_ret2
                exact ⟨HB2.out, h, _, rfl, .inl ⟨rfl, h32, HOK.out, HRES.out, by omega⟩⟩
  · go_wp2
    go_ret2
    exact ⟨hB, 0, _, rfl, .inr ⟨rfl, r, p, b, rfl, hc0, hc1, by
      rcases hcase with ⟨h, rfl, _⟩ | ⟨h, i, hi, _, hb, rfl, _⟩
      · exact .inl ⟨h, rfl⟩
      · exact .inr (.inl ⟨h, ⟨i, hi, hb⟩, rfl⟩)⟩⟩

/-- What the servers' hyperperiod is, by the calls' rules: the number, or the error. -/
def hypS (lcm : List Int → Int × Bool) (l : List S24) : Int × Int :=
  if 32 < l.length then (0, 100) else if (List.range l.length).all (okAt l) = false then (0, 101) else
  if (lcm (pers l l.length)).2 = false then (0, 102) else if 65536 < relsum l (lcm (pers l l.length)).1 l.length then (0, 103) else ((lcm (pers l l.length)).1, 0)

theorem all_ok (l : List S24) : (List.range l.length).all (okAt l) = true ↔ ∀ i, i < l.length → okAt l i = true := by simp

set_option maxHeartbeats 4000000 in
theorem Hyper_is (A : Option Addr) (c : Nat) (l : List S24) (w : World) (hr : Kd.C k24 w A l.length l) (lcm : List Int → Int × Bool) (K : Nat)
    (hl : ∀ xs : List Int, xs.length ≤ 32 → (∀ x ∈ xs, 1 ≤ x ∧ x ≤ 1048576) → num_Lcm_int.f K xs 1048576 = some (lcm xs) ∧ ((lcm xs).2 = true → 1 ≤ (lcm xs).1 ∧ (lcm xs).1 ≤ 1048576))
    (hg : w.cell? ⟨0, 0, none⟩ = some (.iface 168 (.agg #[.pointer (some ⟨1, 86, none⟩)]))) :
    Calls Tryd.prog 23 #[.slice A l.length c] w fun e w' => e = .returned (.tuple #[.int .i64 (hypS lcm l).1, .int .i64 (hypS lcm l).2]) ∧ Below w.heap.size w w' := by
  have HR := Aside0.mk hr
  have HL := Aside0.mk hl
  have HG := Aside0.mk hg
  have hglt : (0 : Nat) < w.heap.size := World.block_lt_of_cell? w _ hg
  have HGL := Aside0.mk hglt
  clear hr hl hg hglt
  go_enter Tryd.func23, Tryd.ntmps23
  go_wp2_with (go_at_call 49; refine (hyper_is _ _ _ _ HR.out lcm K HL.out).mono ?_)
  rintro e w1 ⟨hB, h, v, rfl, (⟨rfl, h32, hok, hlcm, hrel⟩ | ⟨rfl, r, p, b, rfl, hc0, hc1, hcase⟩)⟩
  · have hS : hypS lcm l = (h, 0) := by
      unfold hypS
      rw [if_neg (by omega), if_neg (by rw [(all_ok l).2 hok]; simp), hlcm, if_neg (by simp), if_neg (show ¬ 65536 < relsum l h l.length by omega)]
    have HS := Aside0.mk hS
    have HB := Aside0.mk hB
    clear hB hok hlcm hrel hS
    go_wp2_with (go_at_call 50; refine (face_nil _).mono ?_; rintro e w' ⟨rfl, hb⟩)
    go_ret2
    exact ⟨(by rw [HS.out] : Ending.returned (.tuple #[.int .i64 h, .int .i64 0]) = .returned (.tuple #[.int .i64 (hypS lcm l).1, .int .i64 (hypS lcm l).2])), HB.out.trans (hb.mono HB.out.size)⟩
  · have hS : hypS lcm l = (0, r) := by
      unfold hypS
      rcases hcase with ⟨h, rfl⟩ | ⟨h, ⟨i, hi, hb⟩, rfl⟩ | ⟨h, hok, hf, rfl⟩ | ⟨h, hok, h', hlcm, hrel, rfl⟩
      · rw [if_pos h]
      · rw [if_neg (by omega), if_pos]
        cases c : (List.range l.length).all (okAt l) with
        | false => rfl
        | true => rw [(all_ok l).1 c i hi] at hb; cases hb
      · rw [if_neg (by omega), if_neg (by rw [(all_ok l).2 hok]; simp), if_pos hf]
      · rw [if_neg (by omega), if_neg (by rw [(all_ok l).2 hok]; simp), hlcm, if_neg (by simp), if_pos hrel]
    have HS := Aside0.mk hS
    have hg1 := (hB.cell (p := ⟨0, 0, none⟩) HGL.out).trans HG.out
    have HB := Aside0.mk hB
    have HG1 := Aside0.mk hg1
    have H0 := Aside0.mk hc0
    have H1 := Aside0.mk hc1
    clear hB hcase hS hg1 hc0 hc1
    go_wp2_with (go_at_call 50; refine (face_wrong _ _ _ _ HG1.out H0.out H1.out).mono ?_; rintro e w' ⟨rfl, hb⟩)
    go_ret2
    exact ⟨(by rw [HS.out] : Ending.returned (.tuple #[.int .i64 0, .int .i64 r]) = .returned (.tuple #[.int .i64 (hypS lcm l).1, .int .i64 (hypS lcm l).2])), HB.out.trans (hb.mono HB.out.size)⟩
end Go.Proofs.YtckdjcidbpnfeaaDoor.B
