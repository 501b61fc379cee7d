/- Proved: the contracts of own and Get. Conditions: the table's length is that of a list; what a state waits with is at most 2^44 numbers. -/
import Derived.Test.YtfnlankpdnkmoaaQPick
import Derived.Laws.ResultCell
namespace Go.Proofs.Ytfnlankpdnkmoaa.B
open Go.RowKit Go.Proofs.YtfnlankpdnkmoaaW.PrintWords Go.Proofs.YtfnlankpdnkmoaaW.PrintLast Go.Proofs.YtfnlankpdnkmoaaW.PrintMore

theorem list16 : ∀ (l : List Int), l.length = 16 → ∃ r0 r1 r2 r3 r4 r5 r6 r7 r8 r9 r10 r11 r12 r13 r14 r15, l = [r0, r1, r2, r3, r4, r5, r6, r7, r8, r9, r10, r11, r12, r13, r14, r15]
  | [r0, r1, r2, r3, r4, r5, r6, r7, r8, r9, r10, r11, r12, r13, r14, r15], _ => ⟨r0, r1, r2, r3, r4, r5, r6, r7, r8, r9, r10, r11, r12, r13, r14, r15, rfl⟩
theorem blk_setCells {g : Nat} {t : TypeId} : ∀ (vs : List Value) (o : Nat) (w : World) (c : Array Value), w.heap[g]? = some (.cells c t (0, 0)) → (w.setCells g o vs).heap[g]? = some (.cells (putL c.toList o vs).toArray t (0, 0))
  | [], _, _, c, h => by simpa [World.setCells, putL] using h
  | v :: vs, o, w, c, h => by
    have h1 := blk_set h o v
    have h2 := blk_setCells vs (o + 1) _ _ h1
    rw [World.setCells, putL]
    simpa using h2
theorem below_setCells {n q : Nat} {W : World} (hq : n ≤ q) : ∀ (vs : List Value) (o : Nat) {w : World}, Below n W w → Below n W (w.setCells q o vs)
  | [], _, _, h => h
  | v :: vs, o, _, h => below_setCells hq vs (o + 1) (h.setCell (p := ⟨q, o, none⟩) hq v)
theorem blk_there {g n : Nat} {t : TypeId} {w : World} {c : Array Value} (h : w.heap[g]? = some (.cells c t (0, 0))) (hn : c.size = n) : w.there g 0 n := fun j hj => by
  refine ⟨?_, blk_frozen h _⟩
  rw [blk_cell h]
  simp [hn]
  omega
theorem DataAt.lower {W : World} {base base' : Nat} {s : Sl} {xs : List Int} (h : DataAt W base s xs) (hb : base' ≤ base) : DataAt W base' s xs := by
  rcases h with h | h
  · exact .inl h
  · exact .inr (h.lower hb)
theorem DataAt.reads {W : World} {base : Nat} {s : Sl} {xs : List Int} (h : DataAt W base s xs) : Kd.C (Kd.int .i64) W s.A xs.length xs ∧ xs.length ≤ s.c ∧ s.n = xs.length := by
  rcases h with ⟨h1, h2⟩ | h
  · subst h2
    exact ⟨⟨rfl, by simp, fun h => absurd h (by simp)⟩, Nat.zero_le _, h1⟩
  · exact ⟨h.reads, by rw [← h.len]; exact h.room, h.len⟩
set_option maxHeartbeats 8000000 in
set_option maxRecDepth 100000 in
theorem own_is (W : World) (base : Nat) (x : PS) (hr : x.regs.length = 16) (hd : DataAt W base x.dat x.data) (hl : x.data.length < 17592186044416) :
    Calls Try.prog 44 #[.agg x.enc.toArray] W fun e w' => ∃ s : Sl, e = .returned (.agg ({ x with dat := s } : PS).enc.toArray) ∧ DataAt w' W.heap.size s x.data ∧ Below W.heap.size W w' := by
  have hu48 := Try.underlying48
  obtain ⟨st, pr, pl, regs, pc, rel, dl, un, late, ob, ad, dat, data, miss⟩ := x
  dsimp only at hr hd hl ⊢
  obtain ⟨r0, r1, r2, r3, r4, r5, r6, r7, r8, r9, r10, r11, r12, r13, r14, r15, rfl⟩ := list16 regs hr
  obtain ⟨A, n, c⟩ := dat
  obtain ⟨hC, hc, hn⟩ := hd.reads
  dsimp only at hC hc hn
  subst hn
  have hlow : ∀ w', Below W.heap.size W w' → DataAt w' base ⟨A, data.length, c⟩ data := fun w' hb => hd.move fun b cs hc _ => hb.block b (blk_lt hc)
  have HC := Aside0.mk (show ∀ w', Below W.heap.size W w' → Calls Try.prog 41 #[.slice A data.length c] w' fun e w2 => ∃ s : Sl, e = .returned (.slice s.A s.n s.c) ∧ Own .i64 2 w2 w'.heap.size s data ∧ Below w'.heap.size w' w2 from fun w' hb => by
    refine (words_Clone.calls A c data data w' (hlow w' hb).reads.1 hc (by unfold words_Clone.f; rw [if_pos (by simpa using hl)])).mono fun e w2 hq => ?_
    obtain ⟨v, rfl, hv, hb⟩ := hq
    obtain ⟨s, rfl, hs⟩ := Own.of_R hv
    exact ⟨s, rfl, hs, hb⟩)
  clear hC hc hlow hl hr hd
  rw [show PS.enc _ = (#[.int .i64 st, .int .i64 pr, .int .i64 pl, .int .i64 r0, .int .i64 r1, .int .i64 r2, .int .i64 r3, .int .i64 r4, .int .i64 r5, .int .i64 r6, .int .i64 r7, .int .i64 r8, .int .i64 r9, .int .i64 r10, .int .i64 r11, .int .i64 r12, .int .i64 r13, .int .i64 r14, .int .i64 r15, .int .i64 pc, .int .i64 rel, .int .i64 dl, .int .i64 un, .bool late, .int .i64 ob, .int .i64 ad, .slice A data.length c, .int .i64 miss] : Array Value).toList from rfl, Array.toArray_toList]
  go_enter Try.func44, Try.ntmps44
  go_wp2_with (first
    | (go_at_call 41; generalize hW2 : World.alloc (World.alloc W _) _ = W2; have hX := blk_alloc (heap_alloc_new W (.cells #[.int .i64 st, .int .i64 pr, .int .i64 pl, .int .i64 r0, .int .i64 r1, .int .i64 r2, .int .i64 r3, .int .i64 r4, .int .i64 r5, .int .i64 r6, .int .i64 r7, .int .i64 r8, .int .i64 r9, .int .i64 r10, .int .i64 r11, .int .i64 r12, .int .i64 r13, .int .i64 r14, .int .i64 r15, .int .i64 pc, .int .i64 rel, .int .i64 dl, .int .i64 un, .bool late, .int .i64 ob, .int .i64 ad, .slice A data.length c, .int .i64 miss] 48)) (.cells #[.int .i64 0, .int .i64 0, .int .i64 0, .int .i64 0, .int .i64 0, .int .i64 0, .int .i64 0, .int .i64 0, .int .i64 0, .int .i64 0, .int .i64 0, .int .i64 0, .int .i64 0, .int .i64 0, .int .i64 0, .int .i64 0, .int .i64 0, .int .i64 0, .int .i64 0, .int .i64 0, .int .i64 0, .int .i64 0, .int .i64 0, .bool false, .int .i64 0, .int .i64 0, .slice none 0 0, .int .i64 0] 48); have hY := heap_alloc_new (W.alloc (.cells #[.int .i64 st, .int .i64 pr, .int .i64 pl, .int .i64 r0, .int .i64 r1, .int .i64 r2, .int .i64 r3, .int .i64 r4, .int .i64 r5, .int .i64 r6, .int .i64 r7, .int .i64 r8, .int .i64 r9, .int .i64 r10, .int .i64 r11, .int .i64 r12, .int .i64 r13, .int .i64 r14, .int .i64 r15, .int .i64 pc, .int .i64 rel, .int .i64 dl, .int .i64 un, .bool late, .int .i64 ob, .int .i64 ad, .slice A data.length c, .int .i64 miss] 48)) (.cells #[.int .i64 0, .int .i64 0, .int .i64 0, .int .i64 0, .int .i64 0, .int .i64 0, .int .i64 0, .int .i64 0, .int .i64 0, .int .i64 0, .int .i64 0, .int .i64 0, .int .i64 0, .int .i64 0, .int .i64 0, .int .i64 0, .int .i64 0, .int .i64 0, .int .i64 0, .int .i64 0, .int .i64 0, .int .i64 0, .int .i64 0, .bool false, .int .i64 0, .int .i64 0, .slice none 0 0, .int .i64 0] 48); have hB2 : Below W.heap.size W W2 := (by rw [← hW2]; exact ((Below.refl _ _).alloc (Nat.le_refl _) _).alloc (by simp) _); rw [World.size_alloc] at hY; rw [hW2] at hX hY; refine (HC.out _ hB2).mono ?_; rintro e w3 ⟨s, rfl, ho, hb⟩; have hX3 := (hb.block W.heap.size (blk_lt hX)).trans hX; have hY3 := (hb.block (W.heap.size + 1) (blk_lt hY)).trans hY; have f26 := blk_frozen hX3 26; have k26 : w3.cell? ⟨W.heap.size, 26, none⟩ = some (.slice A data.length c) := (blk_cell hX3 26).trans rfl; have HO := Aside0.mk (ho.lower hB2.size); have HB3 := Aside0.mk (hB2.trans (hb.mono hB2.size)); have HX3 := Aside0.mk hX3; have HY3 := Aside0.mk hY3; clear hX hY hX3 hY3 ho hb hB2 hW2)
    | ((with_reducible refine gate_dst (N := 7) rfl ?_); refine wpList_load_row rfl 48 (.tmp 1) rfl W.heap.size rfl 48 #[.int .i64 st, .int .i64 pr, .int .i64 pl, .int .i64 r0, .int .i64 r1, .int .i64 r2, .int .i64 r3, .int .i64 r4, .int .i64 r5, .int .i64 r6, .int .i64 r7, .int .i64 r8, .int .i64 r9, .int .i64 r10, .int .i64 r11, .int .i64 r12, .int .i64 r13, .int .i64 r14, .int .i64 r15, .int .i64 pc, .int .i64 rel, .int .i64 dl, .int .i64 un, .bool late, .int .i64 ob, .int .i64 ad, .slice s.A s.n s.c, .int .i64 miss] (0, 0) _ ?hg hu48 rfl (by kernel_rfl) ?_; (case hg => exact blk_put HX3.out 26 (.slice s.A s.n s.c) rfl))
    | ((with_reducible refine gate_store (t := 48) (p := 2) rfl ?_); refine wpList_store_mid rfl 48 (.tmp 2) (.tmp 7) rfl (W.heap.size + 1) 0 #[.int .i64 st, .int .i64 pr, .int .i64 pl, .int .i64 r0, .int .i64 r1, .int .i64 r2, .int .i64 r3, .int .i64 r4, .int .i64 r5, .int .i64 r6, .int .i64 r7, .int .i64 r8, .int .i64 r9, .int .i64 r10, .int .i64 r11, .int .i64 r12, .int .i64 r13, .int .i64 r14, .int .i64 r15, .int .i64 pc, .int .i64 rel, .int .i64 dl, .int .i64 un, .bool late, .int .i64 ob, .int .i64 ad, .slice s.A s.n s.c, .int .i64 miss] rfl rfl ?aT (by kernel_rfl) (by kernel_rfl) ?_; (case aT => exact blk_there ((Below.heap_setCell _ _ _ _ (by show W.heap.size + 1 ≠ W.heap.size; omega)).trans HY3.out) rfl)))
  generalize hw4 : w3.setCell ⟨W.heap.size, 26, none⟩ (.slice s.A s.n s.c) = w4
  have hB4 : Below W.heap.size W w4 := by rw [← hw4]; exact HB3.out.setCell (p := ⟨W.heap.size, 26, none⟩) (Nat.le_refl _) _
  have hY4 := (Below.heap_setCell w3 ⟨W.heap.size, 26, none⟩ (.slice s.A s.n s.c) (W.heap.size + 1) (by show W.heap.size + 1 ≠ W.heap.size; omega)).trans HY3.out
  rw [hw4] at hY4
  have hY5 := blk_setCells (#[.int .i64 st, .int .i64 pr, .int .i64 pl, .int .i64 r0, .int .i64 r1, .int .i64 r2, .int .i64 r3, .int .i64 r4, .int .i64 r5, .int .i64 r6, .int .i64 r7, .int .i64 r8, .int .i64 r9, .int .i64 r10, .int .i64 r11, .int .i64 r12, .int .i64 r13, .int .i64 r14, .int .i64 r15, .int .i64 pc, .int .i64 rel, .int .i64 dl, .int .i64 un, .bool late, .int .i64 ob, .int .i64 ad, .slice s.A s.n s.c, .int .i64 miss] : Array Value).toList 0 w4 _ hY4
  rw [putL_is _ _ _ rfl, List.take_zero, List.nil_append] at hY5
  have hB5 := below_setCells (n := W.heap.size) (q := W.heap.size + 1) (by omega) (#[.int .i64 st, .int .i64 pr, .int .i64 pl, .int .i64 r0, .int .i64 r1, .int .i64 r2, .int .i64 r3, .int .i64 r4, .int .i64 r5, .int .i64 r6, .int .i64 r7, .int .i64 r8, .int .i64 r9, .int .i64 r10, .int .i64 r11, .int .i64 r12, .int .i64 r13, .int .i64 r14, .int .i64 r15, .int .i64 pc, .int .i64 rel, .int .i64 dl, .int .i64 un, .bool late, .int .i64 ob, .int .i64 ad, .slice s.A s.n s.c, .int .i64 miss] : Array Value).toList 0 hB4
  have hO5 : DataAt (w4.setCells (W.heap.size + 1) 0 (#[.int .i64 st, .int .i64 pr, .int .i64 pl, .int .i64 r0, .int .i64 r1, .int .i64 r2, .int .i64 r3, .int .i64 r4, .int .i64 r5, .int .i64 r6, .int .i64 r7, .int .i64 r8, .int .i64 r9, .int .i64 r10, .int .i64 r11, .int .i64 r12, .int .i64 r13, .int .i64 r14, .int .i64 r15, .int .i64 pc, .int .i64 rel, .int .i64 dl, .int .i64 un, .bool late, .int .i64 ob, .int .i64 ad, .slice s.A s.n s.c, .int .i64 miss] : Array Value).toList) W.heap.size s data := by
    refine .inr (HO.out.move fun b hb => ?_)
    obtain ⟨cs, hc⟩ := HO.out.typed b hb
    have h1 : b ≠ W.heap.size := fun e => by rw [e] at hc; exact absurd (ty_eq hc HX3.out) (by decide)
    have h2 : b ≠ W.heap.size + 1 := fun e => by rw [e] at hc; exact absurd (ty_eq hc HY3.out) (by decide)
    rw [heap_setCells _ _ _ _ b h2, ← hw4]
    exact Below.heap_setCell _ _ _ b h1
  exact bodyPost_ret (results_c Try.results44 _ _ (W.heap.size + 1) 48 _ (0, 0) _ rfl hY5 hu48 rfl (by kernel_rfl)) rfl ⟨s, rfl, hO5, hB5⟩
theorem results_ct {P : Program} {fn : Func} {p u : Tmp} {ty : TypeId} (h : fn.results = #[.cell p ty, .tmp u]) (tmps : Array Value) (w : World) (g : Nat) (t : TypeId) (cs : Array Value) (fr : Nat × Nat) (d : TypeDesc)
    (hp : tmps.getD p undef = .pointer (some ⟨g, 0, none⟩)) (hg : w.heap[g]? = some (.cells cs t fr))
    (hu : P.underlying ty = some d) (hd : (match d with | .struct _ | .array _ _ => true | _ => false) = true) (hi : (P.info? ty).map (·.size) = some cs.size) :
    (results fn tmps).run P w = .ok (.tuple #[.agg cs, tmps.getD u undef]) w := by
  rw [results_cell_tmp h, hp]
  simp [asAddr, run_loadVar_row w g t ty cs fr d hg hu hd hi]
theorem PS.all_one (x : PS) : x.enc.toArray.all (·.oneCell') = true := by
  rw [List.all_toArray, List.all_eq_true]
  exact PS.one x
theorem TabAt.range {W : World} {base g : Nat} {T : Tb} (h : TabAt W base g T) {q i : Nat} {x : PS} (hA : T.sv.A = some ⟨q, 0, none⟩) (hx : T.xs[i]? = some x) : W.rangeAt q (i * 28) x.enc := fun j v hv => by
  have hl := x.enc_len (h.r16 hx)
  have hj : j < x.enc.length := (List.getElem?_eq_some_iff.1 hv).1
  exact h.sc hA hx j (by omega) hv
theorem infoSz : (Try.prog.info? 48).map (·.size) = some 28 := by kernel_rfl
set_option maxHeartbeats 8000000 in
set_option maxRecDepth 100000 in
theorem get_is (W : World) (base g : Nat) (T : Tb) (q i : Nat) (x : PS) (p : PD) (h : At W base g T q i x p) (hl : x.data.length < 17592186044416) :
    Calls Try.prog 16 #[.pointer (some ⟨g, 0, none⟩), .int .i64 ((i : Int) + 1)] W fun e w' => ∃ s : Sl, e = .returned (.tuple #[.agg ({ x with dat := s } : PS).enc.toArray, .bool true]) ∧ DataAt w' W.heap.size s x.data ∧ Below W.heap.size W w' := by
  have hu48 := Try.underlying48
  have HA := Aside0.mk (fun (w' : World) (hb : Below W.heap.size W w') => (h.below hb).at_)
  have HRG := Aside0.mk (fun (w' : World) (hb : Below W.heap.size W w') => (h.below hb).tab.range h.a h.x)
  have hr := h.tab.r16 h.x
  have HOW := Aside0.mk (fun (w' : World) (hb : Below W.heap.size W w') => own_is w' base x hr ((h.below hb).tab.data h.x) hl)
  have HLN := Aside0.mk (show some 28 = some x.enc.length by rw [x.enc_len hr])
  have HLN2 := Aside0.mk (fun (s : Sl) => show ({ x with dat := s } : PS).enc.length = 28 from ({ x with dat := s } : PS).enc_len hr)
  clear h hr
  go_enter Try.func16, Try.ntmps16
  go_wp2_with (first
    | (go_at_call 35; generalize hW2 : World.alloc W _ = W2; have hY := heap_alloc_new W (.cells #[.int .i64 0, .int .i64 0, .int .i64 0, .int .i64 0, .int .i64 0, .int .i64 0, .int .i64 0, .int .i64 0, .int .i64 0, .int .i64 0, .int .i64 0, .int .i64 0, .int .i64 0, .int .i64 0, .int .i64 0, .int .i64 0, .int .i64 0, .int .i64 0, .int .i64 0, .int .i64 0, .int .i64 0, .int .i64 0, .int .i64 0, .bool false, .int .i64 0, .int .i64 0, .slice none 0 0, .int .i64 0] 48); have hB2 : Below W.heap.size W W2 := (by rw [← hW2]; exact (Below.refl _ _).alloc (Nat.le_refl _) _); rw [hW2] at hY; have HY := Aside0.mk hY; have HB2 := Aside0.mk hB2; clear hY hB2 hW2; refine (HA.out _ HB2.out).mono ?_; rintro e w' ⟨rfl, rfl⟩)
    | ((with_reducible refine gate_dst (N := 15) rfl ?_); refine wpList_load_mid rfl 48 (.tmp 14) rfl q (i * 28) rfl x.enc _ ?hg hu48 rfl ?hs ?_; (case hg => exact HRG.out _ HB2.out); (case hs => exact infoSz.trans HLN.out))
    | (go_at_call 44; refine (HOW.out _ HB2.out).mono ?_; rintro e w3 ⟨s, rfl, hd, hb⟩; have HD := Aside0.mk (DataAt.lower hd HB2.out.size); have HB3 := Aside0.mk (HB2.out.trans (hb.mono HB2.out.size)); have HY3 := Aside0.mk ((hb.block W.heap.size (blk_lt HY.out)).trans HY.out); clear hd hb)
    | ((with_reducible refine gate_store (t := 48) (p := 4) rfl ?_); refine wpList_store_mid rfl 48 (.tmp 4) (.tmp 16) rfl W.heap.size 0 ({ x with dat := s } : PS).enc.toArray rfl rfl ?aT ?hi (PS.all_one _) ?_; (case aT => exact blk_there HY3.out (by have h9 := HLN2.out s; show 28 = _; rw [List.size_toArray]; exact h9.symm)); (case hi => have h9 := HLN2.out s; rw [List.size_toArray, h9]; exact infoSz)))
  have hY5 := blk_setCells ({ x with dat := s } : PS).enc 0 w3 _ HY3.out
  rw [putL_is _ _ _ (by rw [HLN2.out s]; rfl), List.take_zero, List.nil_append] at hY5
  have hB5 := below_setCells (q := W.heap.size) (Nat.le_refl _) ({ x with dat := s } : PS).enc 0 HB3.out
  have hO5 : DataAt (w3.setCells W.heap.size 0 ({ x with dat := s } : PS).enc) W.heap.size s x.data := HD.out.move fun b cs hc _ => heap_setCells _ _ _ _ b (fun e => by rw [e] at hc; exact absurd (ty_eq hc HY3.out) (by decide))
  exact bodyPost_ret (results_ct Try.results16 _ _ W.heap.size 48 _ (0, 0) _ rfl hY5 hu48 rfl (by rw [List.size_toArray, HLN2.out s]; exact infoSz)) rfl ⟨s, rfl, hO5, hB5⟩
end Go.Proofs.Ytfnlankpdnkmoaa.B
