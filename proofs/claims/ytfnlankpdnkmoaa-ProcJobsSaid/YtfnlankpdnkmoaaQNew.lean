/- Proved: the contracts of slices.Clone of processes and of New. Conditions: at most 65536 processes. -/
import Derived.Test.YtfnlankpdnkmoaaQWait
import Derived.Maps.AppendAt
import Derived.Deep.RegionLaw
namespace Go.Proofs.Ytfnlankpdnkmoaa.B
open Go.RowKit Go.Proofs.YtfnlankpdnkmoaaW.PrintWords Go.Proofs.YtfnlankpdnkmoaaW.PrintLast Go.Proofs.YtfnlankpdnkmoaaW.PrintMore

theorem infoPr : (Try.prog.info? 28).map (fun i => (i.zero, i.size, i.bytes)) = some (some (.agg #[.int .i64 0, .int .i64 0, .int .i64 0, .int .i64 0, .int .i64 0, .bool false]), 6, 48) := by kernel_rfl
theorem infoPS : (Try.prog.info? 48).map (fun i => (i.zero, i.size, i.bytes)) = some (some (.agg ({ PS.dormant 0 with rel := 0, dl := 0, un := 0 } : PS).enc.toArray), 28, 240) := by kernel_rfl
theorem PD.one {ps : List PD} : ∀ u ∈ (ps.map PD.enc).flatten, u.oneCell' = true := by
  intro u hu
  obtain ⟨r, hr, hur⟩ := List.mem_flatten.1 hu
  obtain ⟨x, _, rfl⟩ := List.mem_map.1 hr
  unfold PD.enc at hur
  simp at hur
  rcases hur with rfl | rfl | rfl | rfl | rfl | rfl <;> rfl
theorem PS.one (x : PS) : ∀ u ∈ x.enc, u.oneCell' = true := by
  intro u hu
  unfold PS.enc at hu
  simp only [List.mem_cons, List.mem_append, List.mem_nil_iff, or_false] at hu
  rcases hu with rfl | rfl | rfl | h | rfl | rfl | rfl | rfl | rfl | rfl | rfl | rfl | rfl
  case inr.inr.inr.inl =>
    obtain ⟨y, _, rfl⟩ := List.mem_map.1 (show u ∈ x.regs.map _ from h)
    rfl
  all_goals rfl
section
variable {P : Program} {ops : Array Oper} {rest : List Oper} {o : Oper} {a : Act} {Q : Exit → Act → World → Prop} {K : Act → World → Prop} {E : Prop}
/-- An append of records. -/
theorem print_append_rec {w0 W : World} (base : Nat) (hgd : o.guard = none) (s x : Operand) (t e : TypeId) (z : Value) (size bytes : Nat)
    (ho : o.op = .call { callee := .builtin .append, args := #[s, x], argTypes := #[t, t] })
    (ht : P.underlying t = some (.slice e)) (hinfo : (P.info? e).map (fun i => (i.zero, i.size, i.bytes)) = some (some z, size, bytes)) (hz : z.cells.size = size) (hsz : 0 < size)
    (v : Value) (n : Nat) (xs : List Value) (hs : a.eval s = v) (HO : W.ownsRow base e size v n xs)
    (ad : Addr) (m c : Nat) (news : List Value) (hx : a.eval x = .slice (some ad) m c) (hl : news.length = m * size) (hnews : ∀ j u, news[j]? = some u → W.cell? (ad.add j) = some u) (h1 : ∀ u ∈ news, u.oneCell' = true)
    (hmx : n + m ≤ maxLen) (hbytes : (n + m) * bytes ≤ 140737488355328) (HB : Below base w0 W) (hbase : base ≤ W.heap.size)
    (h : ∀ (s1 : Sl) w1, w1.ownsRow base e size s1.v (n + m) (xs ++ news) → Below base w0 w1 → W.grownBy w1 v.ownBlock → wpList P ops Q rest (a.put o.dst (.slice s1.A s1.n s1.c)) w1) :
    wpList P ops Q (o :: rest) a W := by
  obtain ⟨i0, hi, hzz⟩ := Option.map_eq_some_iff.1 hinfo
  simp only [Prod.mk.injEq] at hzz
  obtain ⟨hz0, hz1, hz2⟩ := hzz
  refine wpList_append_own_at W hgd s x t ho base e i0 z size bytes ht hi hz0 hz1 hz2 hz hsz v n xs hs HO ad m c news hx hl hnews h1 hmx hbytes hbase ?_
  intro v' w' h2 h3 _ _
  obtain ⟨A1, c1, rfl⟩ : ∃ A1 c1, v' = .slice A1 (n + m) c1 := by
    rcases h2.2 with ⟨e1, e2⟩ | ⟨g', cap', cur, e1, _⟩
    · exact ⟨none, 0, by rw [e1, e2]⟩
    · exact ⟨_, _, e1⟩
  exact h ⟨A1, n + m, c1⟩ w' h2 (HB.grown h3 hbase (own_base HO)) h3
/-- An append of one record at a step of a region that draws its order. -/
theorem step_append_rec {w0 W W1 : World} (base : Nat) (hgd : o.guard = none) (s x : Operand) (t e : TypeId) (z : Value) (size bytes : Nat)
    (ho : o.op = .call { callee := .builtin .append, args := #[s, x], argTypes := #[t, t] })
    (ht : P.underlying t = some (.slice e)) (hinfo : (P.info? e).map (fun i => (i.zero, i.size, i.bytes)) = some (some z, size, bytes)) (hz : z.cells.size = size) (hsz : 0 < size)
    (v : Value) (n : Nat) (xs : List Value) (ys : List Value) (hW : W1 = W.alloc (.cells ys.toArray e)) (hs : a.eval s = v) (HO : W.ownsRow base e size v n xs)
    (hx : a.eval x = .slice (some ⟨W.heap.size, 0, none⟩) 1 1) (hl : ys.length = size) (h1 : ∀ u ∈ ys, u.oneCell' = true)
    (hmx : n + 1 ≤ maxLen) (hbytes : (n + 1) * bytes ≤ 140737488355328) (HB : Below base w0 W) (hbase : base ≤ W.heap.size)
    (h : ∀ (s1 : Sl) w1, w1.ownsRow base e size s1.v (n + 1) (xs ++ ys) → Below base w0 w1 → W.grownBy w1 v.ownBlock → K (a.put o.dst (.slice s1.A s1.n s1.c)) w1) :
    if Region.wanted o (yielded ops a.tmps) = true then Oper.wp P o a W1 K Q else E := by
  subst hW
  have hw : Region.wanted o (yielded ops a.tmps) = true := by simp [Region.wanted, hgd]
  rw [if_pos hw]
  obtain ⟨i0, hi, hzz⟩ := Option.map_eq_some_iff.1 hinfo
  simp only [Prod.mk.injEq] at hzz
  obtain ⟨hz0, hz1, hz2⟩ := hzz
  have hnews : ∀ j u, ys[j]? = some u → (W.alloc (.cells ys.toArray e)).cell? ((⟨W.heap.size, 0, none⟩ : Addr).add j) = some u := by
    intro j u hu
    rw [add_lit]
    refine (blk_cell (heap_alloc_new W (.cells ys.toArray e)) j).trans ?_
    simpa using hu
  have HO1 : (W.alloc (.cells ys.toArray e)).ownsRow base e size v n xs := HO.alloc _
  obtain ⟨v', w', hr, h2, h3, _, h5⟩ := run_append_own_at (P := P) (W.alloc (.cells ys.toArray e)) base t o.type e i0 z size bytes ht hi hz0 hz1 hz2 hz hsz v n xs HO1 ⟨W.heap.size, 0, none⟩ 1 1 ys (by rw [hl, Nat.one_mul]) hnews h1 hmx hbytes (by simp; omega)
  have hgo : W.grownBy w' v.ownBlock := World.grownBy.trans (World.grownBy_alloc W _ _) h3
  unfold Oper.wp execOp
  simp only [ho, resolve, invoke, builtin, Sem.run_bind, Sem.run_pure, Result.andThen_ok, List.map_toArray, List.map_cons, List.map_nil, hs, hx, hr]
  obtain ⟨A1, c1, rfl⟩ : ∃ A1 c1, v' = .slice A1 (n + 1) c1 := by
    rcases h2.2 with ⟨e1, e2⟩ | ⟨g', cap', cur, e1, _⟩
    · omega
    · exact ⟨_, _, e1⟩
  exact h ⟨A1, n + 1, c1⟩ w' h2 ((HB.alloc hbase _).grown h3 (by simp; omega) (own_base HO)) hgo
end
set_option maxHeartbeats 4000000 in
set_option maxRecDepth 100000 in
theorem procs_Clone (s : Sl) (ps : List PD) (W : World) (hp : W.ownsRow 0 28 6 s.v ps.length (ps.map PD.enc).flatten) (hn : ps.length ≤ 65536) :
    Calls Try.prog 33 #[.slice s.A s.n s.c] W fun e w' => ∃ s1 : Sl, e = .returned (.slice s1.A s1.n s1.c) ∧ w'.ownsRow W.heap.size 28 6 s1.v ps.length (ps.map PD.enc).flatten ∧ Below W.heap.size W w' := by
  obtain ⟨A, n, c⟩ := s
  have hsn : n = ps.length := own_n hp
  subst hsn
  have hnil := fun (W : World) (n' c' : Nat) => Lib.run_eql_slice_nil (P := Try.prog) W 29 28 A ps.length c n' c' Try.underlying29
  have HP := Aside0.mk hp
  have hfl : (ps.map PD.enc).flatten.length = ps.length * 6 := by rw [flat_len (pd_len ps)]; simp
  cases A with
  | none =>
    have h0 : ps = [] := by
      rcases hp.2 with ⟨_, h2⟩ | ⟨g', cap', cur, e1, _⟩
      · exact List.eq_nil_of_length_eq_zero h2
      · unfold Sl.v at e1; injection e1 with e1; cases e1
    subst h0
    simp only [Option.isNone_none] at hnil
    clear hp hfl
    dsimp only [List.length_nil] at *
    go_enter Try.func33, Try.ntmps33
    go_wp2
    go_ret
    exact ⟨⟨none, 0, 0⟩, rfl, World.ownsRow_nil _ _ _ _, Below.refl _ _⟩
  | some ad =>
    simp only [Option.isNone_some] at hnil
    have had : ∃ b, ad = ⟨b, 0, none⟩ := by
      rcases hp.2 with ⟨h1, _⟩ | ⟨g', cap', cur, e1, _⟩
      · unfold Sl.v at h1; injection h1 with h1; cases h1
      · unfold Sl.v at e1; injection e1 with e1; injection e1 with e1; exact ⟨_, e1⟩
    obtain ⟨b, rfl⟩ := had
    have HC := Aside0.mk (show ∀ w', Below W.heap.size W w' → ∀ j u, ((ps.map PD.enc).flatten)[j]? = some u → w'.cell? ((⟨b, 0, none⟩ : Addr).add j) = some u from fun w' hb j u hu => by
      have h1 := hp.cells (g := b) rfl j u hu
      obtain ⟨cs, hc⟩ := own_typed hp b rfl
      rw [add_lit] at h1 ⊢
      rw [blk_cell ((hb.block b (blk_lt hc)).trans hc) j, ← h1, blk_cell hc j])
    have HFL := Aside0.mk hfl
    have HN := Aside0.mk hn
    clear hp hfl hn
    go_enter Try.func33, Try.ntmps33
    go_wp2_with ((with_reducible refine gate_builtin (b := .append) (xs := #[.tmp 5, .tmp 6]) rfl ?_); at_builtin; refine print_append_rec (w0 := W) W.heap.size rfl (.tmp 5) (.tmp 6) 29 28 _ 6 48 rfl Try.underlying29 infoPr rfl (by decide) (.slice (some ⟨W.heap.size, 0, none⟩) 0 0) 0 [] rfl ?aO ⟨b, 0, none⟩ ps.length c (ps.map PD.enc).flatten rfl HFL.out ?aC PD.one ?aM ?aL ?aB ?aS ?_; (case aO => exact ⟨rfl, .inr ⟨W.heap.size, 0, #[], rfl, Nat.le_refl _, heap_alloc_new _ _, Nat.le_refl _, Nat.zero_le _, rfl, rfl⟩⟩); (case aC => exact HC.out _ ((Below.refl _ _).alloc (Nat.le_refl _) _)); (case aM => have := HN.out; simp only [maxLen]; omega); (case aL => have := HN.out; omega); (case aB => exact (Below.refl _ _).alloc (Nat.le_refl _) _); (case aS => simp); intro s1 w1 ho hb hg; have HO := Aside0.mk ho; have HB := Aside0.mk hb; clear ho hb hg)
    go_ret
    have hO := HO.out
    rw [Nat.zero_add, List.nil_append] at hO
    exact ⟨s1, rfl, hO, HB.out⟩
theorem dormant_enc : (PS.dormant 0).enc = [.int .i64 0, .int .i64 0, .int .i64 0, .int .i64 0, .int .i64 0, .int .i64 0, .int .i64 0, .int .i64 0, .int .i64 0, .int .i64 0, .int .i64 0, .int .i64 0, .int .i64 0, .int .i64 0, .int .i64 0, .int .i64 0, .int .i64 0, .int .i64 0, .int .i64 0, .int .i64 0, .int .i64 (-1), .int .i64 (-1), .int .i64 (-1), .bool false, .int .i64 0, .int .i64 0, .slice none 0 0, .int .i64 0] := rfl
theorem dormant_lit : (PS.dormant 0).enc.toArray = #[.int .i64 0, .int .i64 0, .int .i64 0, .int .i64 0, .int .i64 0, .int .i64 0, .int .i64 0, .int .i64 0, .int .i64 0, .int .i64 0, .int .i64 0, .int .i64 0, .int .i64 0, .int .i64 0, .int .i64 0, .int .i64 0, .int .i64 0, .int .i64 0, .int .i64 0, .int .i64 0, .int .i64 (-1), .int .i64 (-1), .int .i64 (-1), .bool false, .int .i64 0, .int .i64 0, .slice none 0 0, .int .i64 0] := rfl
/-- A partition as it is laid down. -/
structure Pt where
  s0 : Int
  s1 : Int
  s2 : Int
  s3 : Int
  words : Int
  fixed : Int
  init : Sl
  code : Sl
  procs : Sl
  handler : Int
  h0 : Int
  h1 : Int
  h2 : Int
  h3 : Int
  h4 : Int
  h5 : Int
  h6 : Int
  h7 : Int
  sems : Sl
  events : Sl
  buffers : Sl
def Pt.cells (p : Pt) : Array Value := #[.int .i64 p.s0, .int .i64 p.s1, .int .i64 p.s2, .int .i64 p.s3, .int .i64 p.words, .int .i64 p.fixed, .slice p.init.A p.init.n p.init.c, .slice p.code.A p.code.n p.code.c, .slice p.procs.A p.procs.n p.procs.c, .int .i64 p.handler,
  .int .i64 p.h0, .int .i64 p.h1, .int .i64 p.h2, .int .i64 p.h3, .int .i64 p.h4, .int .i64 p.h5, .int .i64 p.h6, .int .i64 p.h7, .slice p.sems.A p.sems.n p.sems.c, .slice p.events.A p.events.n p.events.c, .slice p.buffers.A p.buffers.n p.buffers.c]
/-- A table that is being made: so many states are laid. -/
structure NewAt (W0 W : World) (g : Nat) (pv : Sl) (ps : List PD) (code : Nat) (handler : Int) (sv : Sl) (i : Nat) : Prop where
  low : W0.heap.size < g
  blk : W.heap[g]? = some (.cells #[.slice pv.A pv.n pv.c, .int .i64 (code : Nat), .int .i64 handler, .slice sv.A sv.n sv.c, .int .i64 0, .int .i64 1] 86 (0, 0))
  pr : W.ownsRow W0.heap.size 28 6 pv.v ps.length (ps.map PD.enc).flatten
  st : W.ownsRow W0.heap.size 48 28 sv.v i ((List.replicate i (PS.dormant 0)).map PS.enc).flatten
  bel : Below W0.heap.size W0 W
section
variable {W0 W W' : World} {g : Nat} {pv sv sv1 : Sl} {ps : List PD} {code : Nat} {handler : Int} {i : Nat}
theorem NewAt.below (h : NewAt W0 W g pv ps code handler sv i) (hb : Below W.heap.size W W') : NewAt W0 W' g pv ps code handler sv i :=
  ⟨h.low, (hb.block g (blk_lt h.blk)).trans h.blk, own_move h.pr fun b hk => hb.block b (by obtain ⟨cs, hc⟩ := own_typed h.pr b hk; exact blk_lt hc), own_move h.st fun b hk => hb.block b (by obtain ⟨cs, hc⟩ := own_typed h.st b hk; exact blk_lt hc), h.bel.trans (hb.mono h.bel.size)⟩
theorem dormant_more : ((List.replicate (i + 1) (PS.dormant 0)).map PS.enc).flatten = ((List.replicate i (PS.dormant 0)).map PS.enc).flatten ++ (PS.dormant 0).enc := by
  rw [List.replicate_succ', List.map_append, List.flatten_append]
  simp
theorem NewAt.step (h : NewAt W0 W g pv ps code handler sv i) (ho : W'.ownsRow W0.heap.size 48 28 sv1.v (i + 1) (((List.replicate i (PS.dormant 0)).map PS.enc).flatten ++ (PS.dormant 0).enc)) (hb : Below W0.heap.size W0 W') (hg : W.grownBy W' sv.v.ownBlock) :
    W'.cell? ⟨g, 3, none⟩ = some (.slice sv.A sv.n sv.c) ∧ W'.frozen? ⟨g, 3, none⟩ = false ∧ NewAt W0 (W'.setCell ⟨g, 3, none⟩ (.slice sv1.A sv1.n sv1.c)) g pv ps code handler sv1 (i + 1) := by
  have hgs : g < W.heap.size := blk_lt h.blk
  have hblk : W'.heap[g]? = some (.cells #[.slice pv.A pv.n pv.c, .int .i64 (code : Nat), .int .i64 handler, .slice sv.A sv.n sv.c, .int .i64 0, .int .i64 1] 86 (0, 0)) := by
    rw [hg.block g hgs fun e => by obtain ⟨cs, hc⟩ := own_typed h.st g e.symm; exact absurd (ty_eq hc h.blk) (by decide)]
    exact h.blk
  have keep : ∀ b, b ≠ g → (W'.setCell ⟨g, 3, none⟩ (.slice sv1.A sv1.n sv1.c)).heap[b]? = W'.heap[b]? := fun b hb => Below.heap_setCell W' _ _ b hb
  refine ⟨(blk_cell hblk 3).trans rfl, blk_frozen hblk 3, ⟨h.low, blk_put hblk 3 _ rfl, ?_, ?_, ?_⟩⟩
  · refine own_move h.pr fun b hk => ?_
    obtain ⟨cs, hc⟩ := own_typed h.pr b hk
    rw [keep b fun e => by subst e; exact absurd (ty_eq hc h.blk) (by decide)]
    exact hg.block b (blk_lt hc) fun e => by obtain ⟨cs2, hc2⟩ := own_typed h.st b e.symm; exact absurd (ty_eq hc hc2) (by decide)
  · rw [dormant_more]
    refine own_move ho fun b hk => ?_
    obtain ⟨cs, hc⟩ := own_typed ho b hk
    exact keep b fun e => by subst e; exact absurd (ty_eq hc hblk) (by decide)
  · exact hb.setCell (p := ⟨g, 3, none⟩) (by show W0.heap.size ≤ g; have := h.low; omega) _
theorem NewAt.tab (h : NewAt W0 W g pv ps code handler sv ps.length) : TabAt W W0.heap.size g ⟨pv, ps, (code : Nat), handler, sv, List.replicate ps.length (PS.dormant 0), 0, 1⟩ :=
  ⟨Nat.le_of_lt h.low, h.blk, h.pr, by dsimp only; rw [List.length_replicate]; exact h.st, fun x hx => by obtain rfl := List.eq_of_mem_replicate hx; rfl, fun x hx => by obtain rfl := List.eq_of_mem_replicate hx; exact DataAt.nil, by dsimp only; rw [List.length_replicate]⟩
end
set_option maxHeartbeats 8000000 in
set_option maxRecDepth 100000 in
theorem new_is (pt : Pt) (ps : List PD) (W : World) (hp : W.ownsRow 0 28 6 pt.procs.v ps.length (ps.map PD.enc).flatten) (hn : ps.length ≤ 65536) :
    Calls Try.prog 8 #[.agg pt.cells] W fun e w' => ∃ g pv sv, e = .returned (.pointer (some ⟨g, 0, none⟩)) ∧ TabAt w' W.heap.size g ⟨pv, ps, (pt.code.n : Nat), pt.handler, sv, List.replicate ps.length (PS.dormant 0), 0, 1⟩ ∧ Below W.heap.size W w' := by
  have hu38 := Try.underlying38
  have hu86 := Try.underlying86
  have hu48 := Try.underlying48
  have hpn : pt.procs.n = ps.length := own_n hp
  have HCL := Aside0.mk (show ∀ w', Below W.heap.size W w' → Calls Try.prog 33 #[.slice pt.procs.A ps.length pt.procs.c] w' fun e w2 => ∃ s1 : Sl, e = .returned (.slice s1.A s1.n s1.c) ∧ w2.ownsRow w'.heap.size 28 6 s1.v ps.length (ps.map PD.enc).flatten ∧ Below w'.heap.size w' w2 from fun w' hb => by
    have hcl := procs_Clone pt.procs ps w' (own_move hp fun b hk => hb.block b (by obtain ⟨cs, hc⟩ := own_typed hp b hk; exact blk_lt hc)) hn
    rw [hpn] at hcl
    exact hcl)
  have HDO := Aside0.mk (fun (w' : World) => dormant_is 0 w')
  rw [dormant_lit] at HDO
  have HN := Aside0.mk hn
  obtain ⟨s0, s1, s2, s3, words, fixed, init, code, procs, handler, h0, h1, h2, h3, h4, h5, h6, h7, sems, events, buffers⟩ := pt
  simp only [Pt.cells] at hp hpn ⊢
  dsimp only at HCL
  obtain ⟨pA, pn, pc⟩ := procs
  dsimp only at hpn HCL ⊢
  subst hpn
  obtain ⟨cA, cn, cc⟩ := code
  dsimp only at HCL ⊢
  clear hp hn
  obtain ⟨n, hN⟩ : ∃ n, ps.length = n := ⟨_, rfl⟩
  have HNN := Aside0.mk hN
  simp only [hN] at HCL HN ⊢
  clear hN
  go_enter Try.func8, Try.ntmps8
  go_wp2
  generalize hW1 : World.alloc W _ = W1
  have HX := Aside0.mk (show W1.heap[W.heap.size]? = some (.cells #[.int .i64 s0, .int .i64 s1, .int .i64 s2, .int .i64 s3, .int .i64 words, .int .i64 fixed, .slice init.A init.n init.c, .slice cA cn cc, .slice pA n pc, .int .i64 handler, .int .i64 h0, .int .i64 h1, .int .i64 h2, .int .i64 h3, .int .i64 h4, .int .i64 h5, .int .i64 h6, .int .i64 h7, .slice sems.A sems.n sems.c, .slice events.A events.n events.c, .slice buffers.A buffers.n buffers.c] 38 (0, 0)) by rw [← hW1]; exact heap_alloc_new _ _)
  have HB1 := Aside0.mk (show Below W.heap.size W W1 by rw [← hW1]; exact (Below.refl _ _).alloc (Nat.le_refl _) _)
  clear hW1
  obtain ⟨B, hB⟩ : ∃ B, W.heap.size = B := ⟨_, rfl⟩
  rw [hB] at HX HB1 HCL ⊢
  have HSS := Aside0.mk (show ∀ w', Below W1.heap.size W1 w' → w'.cell? ⟨B, 7, none⟩ = some (.slice cA cn cc) ∧ w'.cell? ⟨B, 8, none⟩ = some (.slice pA n pc) ∧ w'.cell? ⟨B, 9, none⟩ = some (.int .i64 handler) from fun w' hb => by
    have hx := (hb.block B (blk_lt HX.out)).trans HX.out
    exact ⟨(blk_cell hx 7).trans rfl, (blk_cell hx 8).trans rfl, (blk_cell hx 9).trans rfl⟩)
  obtain ⟨k7, k8, k9⟩ := HSS.out W1 (Below.refl _ _)
  go_region_held3 (fun w' => w'.cell? ⟨B, 7, none⟩ = some (.slice cA cn cc) ∧ w'.cell? ⟨B, 8, none⟩ = some (.slice pA n pc) ∧ w'.cell? ⟨B, 9, none⟩ = some (.int .i64 handler))
    (first | exact HSS.out _ (Below.refl _ _) | exact HSS.out _ (by assumption) | exact HSS.out _ (below_drew1 (Below.refl _ _)) | exact HSS.out _ (HB2.out.alloc HB2.out.size _))
    (first | (go_at_call 33; refine (HCL.out _ (below_drew1 HB1.out)).mono ?_; rintro e w2 ⟨sp, rfl, ho2, hb2⟩; have HO2 := Aside0.mk ho2; have hb2' := (below_drew1 (Below.refl W1.heap.size W1)).trans hb2; have HB2 := Aside0.mk hb2'; clear ho2 hb2))
  have hk3 := HSS.out _ (HB2.out.alloc HB2.out.size (.cells #[.slice sp.A sp.n sp.c, .int .i64 (cn : Nat), .int .i64 handler, .slice none 0 0, .int .i64 0, .int .i64 1] 86))
  have hlo : W.heap.size < w2.heap.size := by have := blk_lt HX.out; have := HB2.out.size; omega
  have hb3 : Below W.heap.size W (w2.alloc (.cells #[.slice sp.A sp.n sp.c, .int .i64 (cn : Nat), .int .i64 handler, .slice none 0 0, .int .i64 0, .int .i64 1] 86)) := by
    rw [hB]
    exact (HB1.out.trans (HB2.out.mono (by rw [← hB]; have := HB1.out.size; omega))).alloc (by rw [← hB]; omega) _
  have HA3 := Aside0.mk (show NewAt W (w2.alloc (.cells #[.slice sp.A sp.n sp.c, .int .i64 (cn : Nat), .int .i64 handler, .slice none 0 0, .int .i64 0, .int .i64 1] 86)) w2.heap.size sp ps cn handler ⟨none, 0, 0⟩ 0 from
    ⟨hlo, heap_alloc_new _ _, by rw [HNN.out]; exact own_weaken (HO2.out.alloc _) (by show W.heap.size ≤ W1.heap.size; rw [hB]; exact Nat.le_of_lt (blk_lt HX.out)), ⟨rfl, .inl ⟨rfl, rfl⟩⟩, hb3⟩)
  generalize hw3 : w2.alloc _ = w3 at *
  obtain ⟨g, hg⟩ : ∃ g, w2.heap.size = g := ⟨_, rfl⟩
  rw [hg] at HA3 ⊢
  obtain ⟨_, k83, _⟩ := hk3
  clear k7 k8 k9 HSS HX HB1 HB2 hb2' HO2 hw3 hb3 hlo hg hB HCL
  go_wp2
  go_loopw [17] (fun v17 wr => ∃ (i : Nat) (sv : Sl), v17 = .int .i64 (i : Nat) ∧ i ≤ n ∧ Aside0 (NewAt W wr g sp ps cn handler sv i)) (fun v _ => n - (intOf v).toNat)
  case atStart => exact ⟨0, ⟨none, 0, 0⟩, rfl, Nat.zero_le _, HA3⟩
  case round =>
    obtain ⟨i, sv, rfl, hi, HI⟩ := hrel
    by_cases hlt : i < n
    · have hii : (i : Int) < (n : Int) := by omega
      have HT := Aside0.mk (show ∀ w', Below wr.heap.size wr w' → w'.cell? ⟨g, 3, none⟩ = some (.slice sv.A sv.n sv.c) from fun w' hb => (blk_cell (HI.out.below hb).blk 3).trans rfl)
      have k3 := HT.out wr (Below.refl _ _)
      have k3' := HT.out wr.drew (below_drew1 (Below.refl _ _))
      clear k83
      go_wp2
      go_region_law (first
        | (go_simp; go_at_call 34; refine (HDO.out _).mono ?_; rintro e w4 ⟨rfl, hb4⟩; have hb4' := (below_drew1 (Below.refl wr.heap.size wr)).trans hb4; have HI4 := Aside0.mk (HI.out.below hb4'); have k34 := HT.out w4 hb4'; have k35 := HT.out (w4.alloc (.cells #[.int .i64 0, .int .i64 0, .int .i64 0, .int .i64 0, .int .i64 0, .int .i64 0, .int .i64 0, .int .i64 0, .int .i64 0, .int .i64 0, .int .i64 0, .int .i64 0, .int .i64 0, .int .i64 0, .int .i64 0, .int .i64 0, .int .i64 0, .int .i64 0, .int .i64 0, .int .i64 0, .int .i64 (-1), .int .i64 (-1), .int .i64 (-1), .bool false, .int .i64 0, .int .i64 0, .slice none 0 0, .int .i64 0] 48)) (hb4'.alloc hb4'.size _); clear hb4)
        | (refine step_append_rec (w0 := W) (W := w4) W.heap.size (by rfl) (.tmp 23) (.tmp 25) 69 48 _ 28 240 (by rfl) Try.underlying69 infoPS (by rfl) (by decide) (.slice sv.A sv.n sv.c) i ((List.replicate i (PS.dormant 0)).map PS.enc).flatten (PS.dormant 0).enc (by rfl) (by rfl) ?aO (by rfl) (by rfl) (PS.one _) ?aM ?aL ?aB ?aS ?_; (case aO => exact HI4.out.st); (case aM => have := HN.out; simp only [maxLen]; omega); (case aL => have := HN.out; omega); (case aB => exact HI4.out.bel); (case aS => exact HI4.out.bel.size); intro sN w5 ho hb hg; obtain ⟨y1, y2, hst⟩ := HI4.out.step ho hb hg; have HI5 := Aside0.mk hst; clear ho hb hg hst))
      all_goals
        have hnn := HN.out
        go_wp2
        go_roundw
        case rel => exact ⟨i + 1, sN, by go_num, by omega, HI5⟩
        case measure => simp [intOf]; omega
    · have hii : ¬ ((i : Int) < (n : Int)) := by omega
      have him : i = n := by omega
      subst him
      go_wp2
      go_ret
      have hI := HI.out
      rw [← HNN.out] at hI ⊢
      exact ⟨g, rfl, ⟨sp, sv, hI.tab⟩, hI.bel⟩
end Go.Proofs.Ytfnlankpdnkmoaa.B
