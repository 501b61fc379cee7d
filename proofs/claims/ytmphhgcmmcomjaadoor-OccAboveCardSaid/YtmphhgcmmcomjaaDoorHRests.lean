/- Proved: the contract of occ.Rests, in the form that printed texts cite. Condition: the variable errors.errorType holds what the program's text lays (GH). -/
import Derived.Test.YtmphhgcmmcomjaaDoorHSupply2
import Derived.Test.YtmphhgcmmcomjaaDoorHWindow
import Derived.Deep.RegionHeld3
import Derived.Deep.AppendLies
import Derived.Deep.RegionLaw
import Derived.Deep.RegionLawGrows
import Derived.LoopTactic
namespace Go.Proofs.YtmphhgcmmcomjaaDoor.B
open Go.RowKit Go.Proofs.YtmphhgcmmcomjaaDoorW.PrintWords Go.Proofs.YtmphhgcmmcomjaaDoorW.PrintLast Go.Proofs.YtmphhgcmmcomjaaDoorW.PrintMore

/-- What stands while Rests reckons one: a counter's cells, the server's box, the row so far. -/
structure RsAt (w : World) (b : Nat) (h p c : Int) (v : Value) (q : Int) (g : Nat) (cs : Array Value) (V : Value) (n : Nat) (xs : List Value) (w' : World) : Prop where
  sup : w'.heap[b]? = some (.cells #[.int .i64 h, .int .i64 p, .int .i64 c, v, .int .i64 q] 69 (0, 0))
  box : w'.heap[g]? = some (.cells cs 30 (0, 0))
  row : w'.ownsRow w.heap.size 3 1 V n xs
  bel : Below w.heap.size w w'

theorem own_kept {w1 w2 : World} {base e : Nat} {V : Value} {n : Nat} {xs : List Value} (h : w1.ownsRow base e 1 V n xs) (hb : ∀ k, k < w1.heap.size → w2.heap[k]? = w1.heap[k]?) : w2.ownsRow base e 1 V n xs := by
  obtain ⟨h0, h1 | ⟨g, cap, cur, e1, e2, e3, e4⟩⟩ := h
  · exact ⟨h0, .inl h1⟩
  · exact ⟨h0, .inr ⟨g, cap, cur, e1, e2, (hb g (blk_lt e3)).trans e3, e4⟩⟩

/-- One more behind the last, where there is room. -/
theorem own_room {w1 : World} {base e g n cap : Nat} {xs : List Value} (h : w1.ownsRow base e 1 (.slice (some ⟨g, 0, none⟩) n cap) n xs) (hr : n < cap) (u : Value) :
    (w1.setCell ⟨g, n, none⟩ u).ownsRow base e 1 (.slice (some ⟨g, 0, none⟩) n cap) n xs ∧ (w1.setCell ⟨g, n, none⟩ u).ownsRow base e 1 (.slice (some ⟨g, 0, none⟩) (n + 1) cap) (n + 1) (xs ++ [u]) := by
  obtain ⟨h0, h1 | ⟨g', cap', cur, e1, e2, e3, e4, e5, e6, e7⟩⟩ := h
  · cases h1.1
  · cases e1
    have hs := blk_set e3 n u
    have hcl : (cur.toList).length = cap := by simp; omega
    refine ⟨⟨h0, .inr ⟨g, cap, _, rfl, e2, hs, e4, e5, by simp; omega, ?_⟩⟩, ⟨by simp; omega, .inr ⟨g, cap, _, rfl, e2, hs, by omega, e5, by simp; omega, ?_⟩⟩⟩
    · rw [Nat.mul_one] at e7 ⊢
      rw [Array.toList_setIfInBounds, List.take_set_of_le (Nat.le_refl _)]; exact e7
    · rw [Nat.mul_one] at e7 ⊢
      rw [Array.toList_setIfInBounds, List.take_succ_eq_append_getElem (by simp; omega), List.take_set_of_le (Nat.le_refl _), e7, List.getElem_set_self]

theorem RsAt.kept {w : World} {b g n : Nat} {h p c q : Int} {v V : Value} {cs : Array Value} {xs : List Value} {w1 w2 : World} (hs : RsAt w b h p c v q g cs V n xs w1) (hb : ∀ k, k < w1.heap.size → w2.heap[k]? = w1.heap[k]?) (hB : Below w.heap.size w w2) : RsAt w b h p c v q g cs V n xs w2 :=
  ⟨(hb _ (blk_lt hs.sup)).trans hs.sup, (hb _ (blk_lt hs.box)).trans hs.box, own_kept hs.row hb, hB⟩
theorem RsAt.below {w : World} {b g n : Nat} {h p c q : Int} {v V : Value} {cs : Array Value} {xs : List Value} {w1 w2 : World} (hs : RsAt w b h p c v q g cs V n xs w1) (hb : Below w1.heap.size w1 w2) : RsAt w b h p c v q g cs V n xs w2 :=
  hs.kept (fun k hk => hb.block k hk) (hs.bel.trans (hb.mono hs.bel.size))
theorem RsAt.drew {w : World} {b g n : Nat} {h p c q : Int} {v V : Value} {cs : Array Value} {xs : List Value} {w1 : World} (hs : RsAt w b h p c v q g cs V n xs w1) : RsAt w b h p c v q g cs V n xs w1.drew := hs.kept (fun _ _ => rfl) (below_drew1 hs.bel)
theorem RsAt.alloc {w : World} {b g n : Nat} {h p c q : Int} {v V : Value} {cs : Array Value} {xs : List Value} {w1 : World} (hs : RsAt w b h p c v q g cs V n xs w1) (o : Obj) : RsAt w b h p c v q g cs V n xs (w1.alloc o) := hs.kept (fun _ hk => Below.heap_alloc _ _ _ hk) (hs.bel.alloc hs.bel.size _)
theorem RsAt.grown {w : World} {b g n : Nat} {h p c q : Int} {v V : Value} {cs : Array Value} {xs : List Value} {w1 w2 : World} (hs : RsAt w b h p c v q g cs V n xs w1) (hg : w1.grownBy w2 none) : RsAt w b h p c v q g cs V n xs w2 := hs.below ((Below.refl _ _).grown hg (Nat.le_refl _) (fun _ e => by cases e))
theorem RsAt.room {w : World} {b g n r cap : Nat} {h p c q : Int} {v : Value} {cs : Array Value} {xs : List Value} {w1 : World} (hs : RsAt w b h p c v q g cs (.slice (some ⟨r, 0, none⟩) n cap) n xs w1) (hr : n < cap) (hw : w.heap.size ≤ r) (u : Value) : RsAt w b h p c v q g cs (.slice (some ⟨r, 0, none⟩) n cap) n xs (w1.setCell ⟨r, n, none⟩ u) := by
  have hb : r ≠ b ∧ r ≠ g := by
    obtain ⟨_, h1 | ⟨g', cap', cur, e1, e2, e3, _⟩⟩ := hs.row
    · cases h1.1
    · cases e1
      exact ⟨fun e => by subst e; have := e3.symm.trans hs.sup; simp at this, fun e => by subst e; have := e3.symm.trans hs.box; simp at this⟩
  exact ⟨blk_far hs.sup (fun e => hb.1 e.symm) _, blk_far hs.box (fun e => hb.2 e.symm) _, (own_room hs.row hr u).1, hs.bel.setCell (p := ⟨r, n, none⟩) hw _⟩
theorem RsAt.all {w : World} {b g n : Nat} {h p c q : Int} {v V : Value} {s0 s1 s2 s3 : Value} {xs : List Value} {w1 : World} (hs : RsAt w b h p c v q g #[s0, s1, s2, s3] V n xs w1) :
    RsAt w b h p c v q g #[s0, s1, s2, s3] V n xs w1 ∧ w1.cell? ⟨b, 0, none⟩ = some (.int .i64 h) ∧ w1.cell? ⟨b, 1, none⟩ = some (.int .i64 p) ∧ w1.cell? ⟨b, 2, none⟩ = some (.int .i64 c) ∧ w1.cell? ⟨b, 3, none⟩ = some v ∧ w1.cell? ⟨b, 4, none⟩ = some (.int .i64 q) ∧ w1.cell? ⟨g, 1, none⟩ = some s1 :=
  ⟨hs, (blk_cell hs.sup 0).trans rfl, (blk_cell hs.sup 1).trans rfl, (blk_cell hs.sup 2).trans rfl, (blk_cell hs.sup 3).trans rfl, (blk_cell hs.sup 4).trans rfl, (blk_cell hs.box 1).trans rfl⟩

/-- The rests of the first k servers at a tick. -/
def restsL (l : List S30) (T k : Nat) : List Int := (List.range k).map fun i => (((sv l).R T i : Nat) : Int)
theorem restsL_succ (l : List S30) (T k : Nat) : restsL l T (k + 1) = restsL l T k ++ [(((sv l).R T k : Nat) : Int)] := by simp [restsL, List.range_succ]
theorem restsL_length (l : List S30) (T k : Nat) : (restsL l T k).length = k := by simp [restsL]

/-- What Rests tells. -/
def occ_Rests.f (l : List S30) (t : Int) : Option (List Int × Int) :=
  some (if (hypS lcmF l).2 = 0 then (if t < 0 ∨ 1099511627776 ≤ t then ([], 2) else (restsL l t.toNat l.length, 0)) else ([], (hypS lcmF l).2))

/-- A rest, by what was had since the last release. -/
theorem rest_by {S : OccMath.Sv} {i T : Nat} (hp : 1 ≤ S.p i) (hT : S.o i ≤ T) : S.b i = S.R T i + (S.count (i + 1) 0 T - S.count (i + 1) 0 (T - (T - S.o i) % S.p i)) ∧ S.count (i + 1) 0 (T - (T - S.o i) % S.p i) ≤ S.count (i + 1) 0 T := by
  have hm := Nat.mod_lt (T - S.o i) (show S.p i > 0 by omega)
  have hml := Nat.mod_le (T - S.o i) (S.p i)
  have hd := Nat.div_add_mod (T - S.o i) (S.p i)
  obtain ⟨r, hr⟩ : ∃ r, T - (T - S.o i) % S.p i = r := ⟨_, rfl⟩
  have hrel : S.rel i r := ⟨by omega, by
    have : r - S.o i = S.p i * ((T - S.o i) / S.p i) := by omega
    rw [this, Nat.mul_mod_right]⟩
  have h1 := S.rest_count i r hrel (T - r) fun t h1 h2 => S.quiet i r hrel t h1 (by omega)
  rw [show r + (T - r) = T by omega] at h1
  have h2 := S.count_add (i + 1) 0 r (T - r)
  rw [Nat.zero_add, show r + (T - r) = T by omega] at h2
  rw [hr]
  omega

theorem own_cells {w : World} {base e g n cap : Nat} {xs : List Value} (h : w.ownsRow base e 1 (.slice (some ⟨g, 0, none⟩) n cap) n xs) : ∀ j u, xs[j]? = some u → w.cell? ((⟨g, 0, none⟩ : Addr).add j) = some u := by
  obtain ⟨h0, h1 | ⟨g', cap', cur, e1, e2, e3, e4, e5, e6, e7⟩⟩ := h
  · cases h1.1
  · cases e1
    intro j u hj
    refine World.news_of_block e3 j u ?_
    rw [← e7, List.getElem?_take] at hj
    split at hj
    · exact hj
    · cases hj
theorem own_spare {w : World} {base e g n cap : Nat} {xs : List Value} (h : w.ownsRow base e 1 (.slice (some ⟨g, 0, none⟩) n cap) n xs) (hr : n < cap) : (w.cell? ⟨g, n, none⟩).isSome = true ∧ w.frozen? ⟨g, n, none⟩ = false := by
  obtain ⟨h0, h1 | ⟨g', cap', cur, e1, e2, e3, e4, e5, e6, e7⟩⟩ := h
  · cases h1.1
  · cases e1
    exact ⟨by rw [blk_cell e3, Array.getElem?_eq_getElem (by omega)]; rfl, blk_frozen e3 n⟩

theorem own_cells2 {w : World} {base e n cap : Nat} {ao : Option Addr} {xs : List Value} (h : w.ownsRow base e 1 (.slice ao n cap) n xs) : ∀ b, ao = some b → ∀ j u, xs[j]? = some u → w.cell? (b.add j) = some u := by
  intro b hb
  subst hb
  obtain ⟨h0, h1 | ⟨g', cap', cur, e1, e2⟩⟩ := h
  · cases h1.1
  · cases e1
    exact own_cells ⟨h0, .inr ⟨g', cap, cur, rfl, e2⟩⟩
theorem own_shape {w : World} {base e n : Nat} {V : Value} {xs : List Value} (h : w.ownsRow base e 1 V n xs) : ∃ ao cap, V = .slice ao n cap ∧ (ao = none → n = 0 ∧ cap = 0) ∧ (cap < n + 1 ∨ ∃ g, ao = some ⟨g, 0, none⟩ ∧ n < cap ∧ base ≤ g) := by
  obtain ⟨h0, ⟨e1, e2⟩ | ⟨g', cap', cur, e1, e2, e3, e4, e5⟩⟩ := h
  · subst e2; exact ⟨none, 0, e1, fun _ => ⟨rfl, rfl⟩, .inl (by omega)⟩
  · refine ⟨some ⟨g', 0, none⟩, cap', e1, (fun h => by cases h), ?_⟩
    by_cases c : n < cap'
    · exact .inr ⟨g', rfl, c, e2⟩
    · exact .inl (by omega)

theorem own_low {w : World} {base base' e : Nat} {V : Value} {n : Nat} {xs : List Value} (h : w.ownsRow base e 1 V n xs) (hb : base' ≤ base) : w.ownsRow base' e 1 V n xs := by
  obtain ⟨h0, h1 | ⟨g, cap, cur, e1, e2, e3⟩⟩ := h
  · exact ⟨h0, .inl h1⟩
  · exact ⟨h0, .inr ⟨g, cap, cur, e1, Nat.le_trans hb e2, e3⟩⟩

theorem rests_own {w : World} {base : Nat} {V : Value} {l : List S30} {T k : Nat} (h : w.ownsRow base 3 1 V k (encs (fun x : Int => .int .i64 x) (restsL l T k))) : Kd.R (Kd.int .i64) 3 w base (fun _ => True) V (restsL l T k) := by
  refine Kd.R_of_own (h1 := fun _ => rfl) ?_ (fun _ _ => trivial)
  rw [restsL_length]; exact h
theorem own_rests {w : World} {base : Nat} {V : Value} {l : List S30} {T k : Nat} (h : Kd.R (Kd.int .i64) 3 w base (fun _ => True) V (restsL l T k)) : w.ownsRow base 3 1 V k (encs (fun x : Int => .int .i64 x) (restsL l T k)) := by
  have := Kd.own_of_R h
  rw [restsL_length] at this; exact this

set_option maxHeartbeats 8000000 in
set_option maxRecDepth 100000 in
theorem occ_Rests.calls (A0 : Option Addr) (c0 : Nat) (l0 : List S30) (a1 : Int) (r1 : List Int) (r2 : Int) (w : World) (hr0 : Kd.C k30 w A0 l0.length l0) (_hc0 : l0.length ≤ c0) (hG : GH w) (h : occ_Rests.f l0 a1 = some (r1, r2)) :
    Calls Tryd.prog 16 #[.slice A0 l0.length c0, .int .i64 a1] w fun e w' => ∃ v0_ : Value, e = .returned (.tuple #[v0_, .int .i64 r2]) ∧ Kd.R (Kd.int .i64) 3 w' w.heap.size (fun _ => True) v0_ r1 ∧ Below w.heap.size w w' := by
  have HH := Aside0.mk (check_Hyper.calls A0 c0 l0 (hypS lcmF l0).1 (hypS lcmF l0).2 w hr0 _hc0 hG rfl)
  have HR := Aside0.mk hr0
  clear hr0 hG
  unfold occ_Rests.f at h
  by_cases he : (hypS lcmF l0).2 = 0
  · rw [if_pos he] at h
    by_cases hb : a1 < 0 ∨ 1099511627776 ≤ a1
    · rw [if_pos hb] at h
      obtain ⟨rfl, rfl⟩ : [] = r1 ∧ 2 = r2 := by simpa using h
      rw [he] at HH
      clear h he
      by_cases hb2 : a1 < 0
      · clear hb
        go_enter Tryd.func16, Tryd.ntmps16
        go_wp2_with (go_at_call 10; refine HH.out.mono ?_; rintro e w' ⟨rfl, hb⟩)
        go_ret2
        exact ⟨_, rfl, Kd.R_nil _ _ _ _ _, by assumption⟩
      · have hb3 : (1099511627776 : Int) ≤ a1 := by omega
        clear hb
        go_enter Tryd.func16, Tryd.ntmps16
        go_wp2_with (go_at_call 10; refine HH.out.mono ?_; rintro e w' ⟨rfl, hb⟩)
        go_ret2
        exact ⟨_, rfl, Kd.R_nil _ _ _ _ _, by assumption⟩
    · rw [if_neg hb] at h
      obtain ⟨hbd, hok, hH1, hH2, hHe, hOk⟩ := ok_of_hyp l0 he
      obtain ⟨T, hTa⟩ : ∃ T : Nat, a1.toNat = T := ⟨_, rfl⟩
      have hT0 : ¬ (a1 < 0) := by omega
      have hT1 : ¬ ((1099511627776 : Int) ≤ a1) := by omega
      have HT := Aside0.mk (show a1 = (T : Int) by omega)
      rw [hTa] at h
      simp only [Option.some.injEq, Prod.mk.injEq] at h
      obtain ⟨rfl, rfl⟩ := h
      rw [he, hHe] at HH
      obtain ⟨H, hH⟩ : ∃ H, hyp l0 = H := ⟨_, rfl⟩
      rw [hH] at hH1 hH2 HH hOk
      have h32 : l0.length ≤ 32 := hbd.1
      have HOK := Aside0.mk hok
      have HOL := Aside0.mk ((okL_iff _).2 ⟨hbd.1, hok⟩)
      have HOk := Aside0.mk hOk
      clear hH hok hOk hHe he hb hbd hTa
      obtain ⟨i0, hi, hz0, hz1, hz2⟩ := info_parts infoInt
      have HI := Aside0.mk (And.intro hi (And.intro hz0 (And.intro hz1 hz2)))
      clear hi hz0 hz1 hz2
      have hu30 := Tryd.underlying30
      have hu69 := Tryd.underlying69
      go_enter Tryd.func16, Tryd.ntmps16
      go_wp2_with (go_at_call 10; refine HH.out.mono ?_; rintro e w1 ⟨rfl, hb1⟩)
      have HB1 := Aside0.mk hb1
      clear hb1 HH
      go_loopw [8, 31] (fun v t wr => ∃ k : Nat, t = .int .i64 k ∧ k ≤ l0.length ∧ Aside0 (Kd.R (Kd.int .i64) 3 wr w.heap.size (fun _ => True) v (restsL l0 T k)) ∧ Aside0 (Below w.heap.size w wr)) (fun _ t _ => l0.length - (intOf t).toNat)
      case atStart => exact ⟨0, rfl, Nat.zero_le _, ⟨Kd.R_nil _ _ _ _ _⟩, HB1⟩
      case round =>
        clear HB1
        obtain ⟨k, rfl, hk, HO, HB⟩ := hrel
        by_cases hlt : k < l0.length
        · obtain ⟨ad, rfl, x0, x1, x2, x3⟩ := at_T30 HR.out (k : Int) (by omega) (by omega)
          have e : rd_T30 l0 (k : Int) = l0.getD k z30 := by simp [rd_T30]
          obtain ⟨s0, s1, s2, s3, p1, p2, b1, b2, o1, o2⟩ := srv_at HOK.out k hlt
          rw [e, s0] at x0; rw [e, s1] at x1; rw [e, s2] at x2; rw [e, s3] at x3
          simp only [Int.toNat_natCast] at x0 x1 x2 x3
          replace x0 := (HB.out.cell (World.block_lt_of_cell? w _ x0)).trans x0
          replace x1 := (HB.out.cell (World.block_lt_of_cell? w _ x1)).trans x1
          replace x2 := (HB.out.cell (World.block_lt_of_cell? w _ x2)).trans x2
          replace x3 := (HB.out.cell (World.block_lt_of_cell? w _ x3)).trans x3
          have HN := Aside0.mk (fun h => (sv l0).rest_none k T h)
          have HY := Aside0.mk (fun h => rest_by (S := sv l0) (i := k) (T := T) p1 h)
          have hs := restsL_succ l0 T k
          have hlen : (restsL l0 T k).length ≤ 32 := by rw [restsL_length]; omega
          obtain ⟨RT, hRT⟩ : ∃ RT, (sv l0).R T k = RT := ⟨_, rfl⟩
          rw [hRT] at HN HY hs
          obtain ⟨p, hp⟩ : ∃ p, (sv l0).p k = p := ⟨_, rfl⟩
          obtain ⟨B, hB⟩ : ∃ B, (sv l0).b k = B := ⟨_, rfl⟩
          obtain ⟨o, ho⟩ : ∃ o, (sv l0).o k = o := ⟨_, rfl⟩
          obtain ⟨z, hz⟩ : ∃ z, (sv l0).pr k = z := ⟨_, rfl⟩
          rw [hp] at x0 p1 p2 b2 o1 HY; rw [hB] at x1 b1 b2 HY; rw [ho] at x2 o1 HY HN; rw [hz] at x3
          have HS := Aside0.mk hs
          clear e s0 s1 s2 s3 hs hRT hp hB ho hz o2
          by_cases ht : a1 < (o : Int)
          · have hR0 := HN.out (by have := HT.out; omega)
            subst hR0
            go_wp2_with (first | ((with_reducible refine gate_builtin (b := .append) (xs := #[.tmp 40, .tmp 41]) rfl ?_); at_builtin; refine Kd.R_append (Kd.int .i64) (w0 := w) w.heap.size rfl (.tmp 40) (.tmp 41) 36 3 (.int .i64 0) 8 rfl Tryd.underlying36 infoInt rfl (by decide) (by omega) u8 (restsL l0 T k) 0 [.int .i64 0] (fun _ => True) (fun _ => False) rfl ?aX ?aP (fun _ hk => hk.elim) ?aF ?aO ?aB ?aS ?aL ?_; (case aX => (rw [World.size_alloc]; rfl)); (case aP => exact rfl); (case aB => exact (by repeat (first | (with_reducible first | exact HB.out | apply below_alloc | apply pw_below_drewN | apply below_drew1) | exact HB.out))); (case aF => exact (fun _ _ => trivial)); (case aO => exact (by (with_reducible repeat (first | apply Kd.R_alloc | apply Kd.R_drewN | apply Kd.R_drew)); exact HO.out)); (case aS => exact (below_size (by repeat (first | (with_reducible first | exact HB.out | apply below_alloc | apply pw_below_drewN | apply below_drew1) | exact HB.out)))); (case aL => omega); intro v5 w5 ho hb hg hat; rw [show (0 : Int) = ((0 : Nat) : Int) from rfl, ← HS.out] at ho; have n0_ := Aside0.mk hb; have n1_ := Aside0.mk ho; clear HB HO; have HB := n0_; have HO := n1_; clear n0_ n1_; clear ho hb hg hat))
            go_roundw
            case rel => exact ⟨k + 1, by go_num, by omega, ⟨HO.out⟩, ⟨HB.out⟩⟩
            case measure => simp [intOf]; omega
          · have hTo : o ≤ T := by have := HT.out; omega
            obtain ⟨y1, y2⟩ := HY.out hTo
            obtain ⟨F, hF⟩ : ∃ F, T - (T - o) % p = F := ⟨_, rfl⟩
            have hM : Int.tmod (a1 - (o : Int)) (p : Int) = (((T - o) % p : Nat) : Int) := by
              rw [show a1 - (o : Int) = ((T - o : Nat) : Int) by have := HT.out; omega, ← Int.ofNat_tmod]
            have hMb := Nat.mod_lt (T - o) (show p > 0 by omega)
            have hMl := Nat.mod_le (T - o) p
            have hFT : F ≤ T := by omega
            obtain ⟨M, hMe⟩ : ∃ M, (T - o) % p = M := ⟨_, rfl⟩
            rw [hMe] at hM hMb hMl hF
            have hFi : a1 - (M : Int) = (F : Int) := by have := HT.out; omega
            rw [hMe, hF] at y1 y2
            have HSu := Aside0.mk (fun (w1 : World) (hb : Below w.heap.size w w1) => supply_is _ c0 l0 H (k + 1) w1 (Kd.C_below HR.out hb) ((okL_iff _).1 HOL.out) hH2)
            have HBF := Aside0.mk (fun (w1 : World) (hb : Below w.heap.size w w1) => occ_supplier_below.calls _ _ _ _ c0 l0 _ _ _ w1 (Kd.C_below HR.out hb) _hc0 (below_plain HOL.out HOk.out hH2 (k + 1) F (by have := HT.out; omega)))
            have HBE := Aside0.mk (fun (w1 : World) (hb : Below w.heap.size w w1) => occ_supplier_below.calls _ _ _ _ c0 l0 _ _ _ w1 (Kd.C_below HR.out hb) _hc0 (below_plain HOL.out HOk.out hH2 (k + 1) T (by have := HT.out; omega)))
            obtain ⟨P, hP⟩ : ∃ P, (sv l0).count (k + 1) 0 H = P := ⟨_, rfl⟩
            obtain ⟨C, hC⟩ : ∃ C, (sv l0).count (k + 1) H H = C := ⟨_, rfl⟩
            have kE := count_le (sv l0) (k + 1) 0 T
            obtain ⟨X, hX⟩ : ∃ X, (sv l0).count (k + 1) 0 F = X := ⟨_, rfl⟩
            obtain ⟨Y, hY⟩ : ∃ Y, (sv l0).count (k + 1) 0 T = Y := ⟨_, rfl⟩
            rw [hP, hC] at HSu HBF HBE
            rw [hX] at HBF y1 y2
            rw [hY] at HBE kE y1 y2
            rw [← HT.out] at HBE
            rw [show ((k + 1 : Nat) : Int) = (k : Int) + 1 from rfl] at HSu HBF HBE
            have hw1 := Aside0.mk (show IntKind.i64.wrap ((Y : Int) - (X : Int)) = (Y : Int) - (X : Int) from IntWalk.i64_in _ (by have := HT.out; omega))
            have hw2 := Aside0.mk (show IntKind.i64.wrap ((B : Int) - ((Y : Int) - (X : Int))) = (RT : Int) from (IntWalk.i64_in _ (by have := HT.out; omega)).trans (by omega))
            clear hX hY hP hC hMe hF HY HN y1 y2 kE
            go_wp2_with (go_at_call 37; refine (HSu.out _ (HB.out.alloc HB.out.size _)).mono ?_; rintro e w3 ⟨rfl, hb3⟩)
            obtain ⟨w4, hw4⟩ : ∃ w4, w3.alloc (.cells #[.int .i64 (H : Nat), .int .i64 (P : Nat), .int .i64 (C : Nat), .slice (some ad) l0.length c0, .int .i64 ((k : Int) + 1)] 69) = w4 := ⟨_, rfl⟩
            rw [hw4]
            have hk4 : ∀ j, j < wr.heap.size → w4.heap[j]? = wr.heap[j]? := fun j hj => by
              have h1 := hb3.block j (by simp; omega)
              rw [← hw4, Below.heap_alloc _ _ _ (by have := hb3.size; simp at this; omega), h1, Below.heap_alloc _ _ _ hj]
            have hS : RsAt w w3.heap.size (H : Nat) (P : Nat) (C : Nat) (.slice (some ad) l0.length c0) ((k : Int) + 1) wr.heap.size #[.int .i64 (p : Nat), .int .i64 (B : Nat), .int .i64 (o : Nat), .int .i64 (z : Nat)] u8 k (encs (fun x : Int => .int .i64 x) (restsL l0 T k)) w4 := by
              refine ⟨by rw [← hw4]; exact heap_alloc_new _ _, ?_, own_kept (own_rests HO.out) hk4, ?_⟩
              · rw [← hw4]; exact blk_alloc ((hb3.block _ (by simp)).trans (heap_alloc_new _ _)) _
              · rw [← hw4]
                have h1 := (HB.out.alloc HB.out.size (.cells #[.int .i64 (p : Nat), .int .i64 (B : Nat), .int .i64 (o : Nat), .int .i64 (z : Nat)] 30)).trans (hb3.mono (by have := HB.out.size; simp; omega))
                exact h1.alloc h1.size _
            replace hw1 := hw1.out
            replace hw2 := hw2.out
            obtain ⟨hi, hz0, hz1, hz2⟩ := HI.out
            clear hk4 hw4 hb3 HSu hM hMb hMl hFT hFi x0 x1 x2 x3
            obtain ⟨ao, cap, rfl, hnone, hfull | ⟨g, rfl, hroom, hgb⟩⟩ := own_shape hS.row
            · -- full, or no row so far
              obtain ⟨hS, c0', c1', c2', c3', c4', c5'⟩ := RsAt.all hS
              go_region_held3 (fun w' => RsAt w w3.heap.size (H : Nat) (P : Nat) (C : Nat) (.slice (some ad) l0.length c0) ((k : Int) + 1) wr.heap.size #[.int .i64 (p : Nat), .int .i64 (B : Nat), .int .i64 (o : Nat), .int .i64 (z : Nat)] (.slice ao k cap) k (encs (fun x : Int => .int .i64 x) (restsL l0 T k)) w' ∧ w'.cell? ⟨w3.heap.size, 0, none⟩ = some (.int .i64 (H : Nat)) ∧ w'.cell? ⟨w3.heap.size, 1, none⟩ = some (.int .i64 (P : Nat)) ∧ w'.cell? ⟨w3.heap.size, 2, none⟩ = some (.int .i64 (C : Nat)) ∧ w'.cell? ⟨w3.heap.size, 3, none⟩ = some (.slice (some ad) l0.length c0) ∧ w'.cell? ⟨w3.heap.size, 4, none⟩ = some (.int .i64 ((k : Int) + 1)) ∧ w'.cell? ⟨wr.heap.size, 1, none⟩ = some (.int .i64 (B : Nat)))
                (first | exact RsAt.all (RsAt.drew (by assumption)) | exact RsAt.all (RsAt.alloc (And.left (by assumption)) _) | exact RsAt.all (RsAt.grown (RsAt.alloc (And.left (by assumption)) _) (by assumption)) | exact RsAt.all (RsAt.grown (And.left (by assumption)) (by assumption)) | exact RsAt.all (RsAt.below (And.left (by assumption)) (by assumption)) | exact RsAt.all (RsAt.below (by assumption) (by assumption)))
                (first
                | (go_at_call_of 38 (Value.int .i64 a1); refine (HBE.out _ ?hbb).mono ?_; (case hbb => (first | exact RsAt.bel (And.left (by assumption)) | exact RsAt.bel (by assumption))); rintro e w' ⟨rfl, hb⟩)
                | (go_at_call_of 38 (Value.int .i64 (F : Int)); refine (HBF.out _ ?hbb).mono ?_; (case hbb => (first | exact RsAt.bel (And.left (by assumption)) | exact RsAt.bel (by assumption))); rintro e w' ⟨rfl, hb⟩)
                | (refine step_append_grows (by rfl) _ _ _ (by rfl) 3 i0 _ 1 8 Tryd.underlying36 hi hz0 hz1 hz2 rfl (by omega) ao k cap (encs (fun x : Int => .int .i64 x) (restsL l0 T k)) (by rfl) hnone (by rw [encs_length, restsL_length, Nat.mul_one]) (own_cells2 (RsAt.row (And.left (by assumption)))) _ 1 1 [.int .i64 (RT : Nat)] (by rfl) (by rfl) (World.news_of_block (cs := #[.int .i64 (RT : Nat)]) (t := 3) (fr := (0, 0)) (heap_alloc_new _ _)) (by simp [Value.oneCell']) (by omega) (by unfold maxLen; omega) (by omega) ?_; intro v5 w5 hown hgrow; have hlow := own_low hown (Below.size (RsAt.bel (And.left (by assumption))))))
              go_wp2
              go_roundw
              case rel =>
                refine ⟨k + 1, by go_num, by omega, ⟨rests_own ?_⟩, ⟨RsAt.bel (And.left (by assumption))⟩⟩
                rw [HS.out, encs_append]
                exact hlow
              case measure => simp [intOf]; omega
            · -- room
              obtain ⟨hS, c0', c1', c2', c3', c4', c5'⟩ := RsAt.all hS
              go_region_held3 (fun w' => RsAt w w3.heap.size (H : Nat) (P : Nat) (C : Nat) (.slice (some ad) l0.length c0) ((k : Int) + 1) wr.heap.size #[.int .i64 (p : Nat), .int .i64 (B : Nat), .int .i64 (o : Nat), .int .i64 (z : Nat)] (.slice (some ⟨g, 0, none⟩) k cap) k (encs (fun x : Int => .int .i64 x) (restsL l0 T k)) w' ∧ w'.cell? ⟨w3.heap.size, 0, none⟩ = some (.int .i64 (H : Nat)) ∧ w'.cell? ⟨w3.heap.size, 1, none⟩ = some (.int .i64 (P : Nat)) ∧ w'.cell? ⟨w3.heap.size, 2, none⟩ = some (.int .i64 (C : Nat)) ∧ w'.cell? ⟨w3.heap.size, 3, none⟩ = some (.slice (some ad) l0.length c0) ∧ w'.cell? ⟨w3.heap.size, 4, none⟩ = some (.int .i64 ((k : Int) + 1)) ∧ w'.cell? ⟨wr.heap.size, 1, none⟩ = some (.int .i64 (B : Nat)))
                (first | exact RsAt.all (RsAt.drew (by assumption)) | exact RsAt.all (RsAt.alloc (And.left (by assumption)) _) | exact RsAt.all (RsAt.grown (RsAt.alloc (And.left (by assumption)) _) (by assumption)) | exact RsAt.all (RsAt.grown (And.left (by assumption)) (by assumption)) | exact RsAt.all (RsAt.below (And.left (by assumption)) (by assumption)) | exact RsAt.all (RsAt.below (by assumption) (by assumption)) | exact RsAt.all (RsAt.room (RsAt.alloc (And.left (by assumption)) _) hroom hgb _) | exact RsAt.all (RsAt.room (And.left (by assumption)) hroom hgb _))
                (first
                | (go_at_call_of 38 (Value.int .i64 a1); refine (HBE.out _ ?hbb).mono ?_; (case hbb => (first | exact RsAt.bel (And.left (by assumption)) | exact RsAt.bel (by assumption))); rintro e w' ⟨rfl, hb⟩)
                | (go_at_call_of 38 (Value.int .i64 (F : Int)); refine (HBF.out _ ?hbb).mono ?_; (case hbb => (first | exact RsAt.bel (And.left (by assumption)) | exact RsAt.bel (by assumption))); rintro e w' ⟨rfl, hb⟩)
                | (refine step_append_room (by rfl) _ _ _ (by rfl) 3 i0 1 Tryd.underlying36 hi hz1 g 0 k cap (by rfl) _ 1 1 [.int .i64 (RT : Nat)] (by rfl) (by rfl) (World.news_of_block (cs := #[.int .i64 (RT : Nat)]) (t := 3) (fr := (0, 0)) (heap_alloc_new _ _)) (by simp [Value.oneCell']) hroom (fun j hj => by rw [show 0 + k * 1 + j = k by simp at hj; omega]; exact own_spare (RsAt.row (And.left (by assumption))) hroom) ?_; rw [show 0 + k * 1 = k by omega]; have hput := (own_room (RsAt.row (And.left (by assumption))) hroom (.int .i64 (RT : Nat))).2; simp only [World.setCells]))
              go_wp2
              go_roundw
              case rel =>
                refine ⟨k + 1, by go_num, by omega, ⟨rests_own ?_⟩, ⟨RsAt.bel (And.left (by assumption))⟩⟩
                rw [HS.out, encs_append]
                exact hput
              case measure => simp [intOf]; omega
        · obtain rfl : k = l0.length := by omega
          go_wp2
          go_ret2
          exact ⟨_, rfl, HO.out, HB.out⟩
  · rw [if_neg he] at h
    obtain ⟨rfl, rfl⟩ : [] = r1 ∧ (hypS lcmF l0).2 = r2 := by simpa using h
    go_enter Tryd.func16, Tryd.ntmps16
    go_wp2_with (go_at_call 10; refine HH.out.mono ?_; rintro e w' ⟨rfl, hb⟩)
    go_ret2
    exact ⟨_, rfl, Kd.R_nil _ _ _ _ _, by assumption⟩
end Go.Proofs.YtmphhgcmmcomjaaDoor.B
