/- Proved: the contracts of dormant and Start. Conditions: the table's length is that of a list; places are not beyond a half of all numbers. -/
import Derived.Test.YtfnlankpdnkmoaaQNext
import Derived.Deep.WholeRow
namespace Go.Proofs.Ytfnlankpdnkmoaa.B
open Go.RowKit Go.Proofs.YtfnlankpdnkmoaaW.PrintWords Go.Proofs.YtfnlankpdnkmoaaW.PrintLast Go.Proofs.YtfnlankpdnkmoaaW.PrintMore

/-! ### A state written whole -/
def putL (r : List Value) (k : Nat) : List Value → List Value
  | [] => r
  | v :: t => putL (r.set k v) (k + 1) t
theorem putL_is : ∀ (rem r : List Value) (k : Nat), r.length = k + rem.length → putL r k rem = r.take k ++ rem
  | [], r, k, h => by
    simp only [putL, List.append_nil]
    rw [List.take_of_length_le (by simpa using Nat.le_of_eq h)]
  | v :: t, r, k, h => by
    simp only [List.length_cons] at h
    rw [putL, putL_is t (r.set k v) (k + 1) (by rw [List.length_set]; omega)]
    have hk : k < r.length := by omega
    rw [show (r.set k v).take (k + 1) = r.take k ++ [v] by
      rw [List.take_succ_eq_append_getElem (by rw [List.length_set]; exact hk), List.getElem_set_self, List.take_set, List.set_eq_of_length_le (by rw [List.length_take]; omega)]]
    simp
theorem own_setCells {base : Nat} {e : TypeId} {n q m i : Nat} {s : Sl} (hA : s.A = some ⟨q, 0, none⟩) : ∀ (rem : List Value) (k : Nat) (r : List Value) (w : World) (rows : List (List Value)), (∀ x ∈ rows, x.length = m) → i < rows.length → r.length = m → k + rem.length ≤ m →
    w.ownsRow base e m s.v n (rows.set i r).flatten → (w.setCells q (i * m + k) rem).ownsRow base e m s.v n (rows.set i (putL r k rem)).flatten
  | [], _, _, _, _, _, _, _, _, h => h
  | v :: t, k, r, w, rows, hl, hi, hr, hk, h => by
    simp only [List.length_cons] at hk
    have h1 := own_setAt h hA (i * m + k) v
    have hl' : ∀ x ∈ rows.set i r, x.length = m := fun x hx => by
      rcases List.mem_or_eq_of_mem_set hx with h2 | h2
      · exact hl x h2
      · rw [h2]; exact hr
    rw [flat_set hl' i k (by rw [List.length_set]; exact hi) (by omega) v] at h1
    simp only [List.getElem_set_self, List.set_set] at h1
    have h2 := own_setCells hA t (k + 1) (r.set k v) (w.setCell ⟨q, i * m + k, none⟩ v) rows hl hi (by rw [List.length_set]; exact hr) (by omega) h1
    exact h2
theorem heap_setCells (q : Nat) : ∀ (vs : List Value) (o : Nat) (w : World) (b : Nat), b ≠ q → (w.setCells q o vs).heap[b]? = w.heap[b]?
  | [], _, _, _, _ => rfl
  | v :: t, o, w, b, h => by
    rw [World.setCells, heap_setCells q t (o + 1) _ b h]
    exact Below.heap_setCell w _ _ b h
theorem TabAt.setW {W : World} {base g : Nat} {T : Tb} (h : TabAt W base g T) {q i : Nat} {x : PS} (hA : T.sv.A = some ⟨q, 0, none⟩) (hx : T.xs[i]? = some x) (x' : PS) (hr : x'.regs.length = 16) (hd : DataAt W base x'.dat x'.data) : TabAt (W.setCells q (i * 28) x'.enc) base g (T.put i x') := by
  obtain ⟨hi, e⟩ := h.getx hx
  obtain ⟨cs0, hc0⟩ := own_typed h.st q (by unfold Sl.v; rw [hA]; rfl)
  have keep : ∀ b, b ≠ q → (W.setCells q (i * 28) x'.enc).heap[b]? = W.heap[b]? := fun b hb => heap_setCells q _ _ W b hb
  have hne : ∀ b cs ty, W.heap[b]? = some (.cells cs ty (0, 0)) → ty ≠ 48 → b ≠ q := fun b cs ty hc ht e => by subst e; exact ht (ty_eq hc hc0)
  refine ⟨h.low, (keep g (hne g _ _ h.blk (by decide))).trans h.blk, own_move h.pr fun b hb => by obtain ⟨cs, hc⟩ := own_typed h.pr b hb; exact keep b (hne b cs _ hc (by decide)), ?_, ?_, ?_, by unfold Tb.put; dsimp only; rw [List.length_set]; exact h.len⟩
  · unfold Tb.put
    dsimp only
    rw [List.length_set]
    have h0 : W.ownsRow base 48 28 T.sv.v T.xs.length ((T.xs.map PS.enc).set i x.enc).flatten := by
      rw [show (T.xs.map PS.enc).set i x.enc = T.xs.map PS.enc by rw [← List.map_set, ← e]; simp]
      exact h.st
    have h1 := own_setCells hA x'.enc 0 x.enc W (T.xs.map PS.enc) h.rows_len (by simpa using hi) (x.enc_len (h.r16 hx)) (by rw [x'.enc_len hr]; omega) h0
    rw [putL_is _ _ _ (by rw [x.enc_len (h.r16 hx), x'.enc_len hr]), List.take_zero, List.nil_append, ← List.map_set] at h1
    exact h1
  · intro z hz
    rcases List.mem_or_eq_of_mem_set hz with h1 | h1
    · exact h.regs z h1
    · rw [h1]; exact hr
  · intro z hz
    have mv : ∀ {s : Sl} {ys : List Int}, DataAt W base s ys → DataAt (W.setCells q (i * 28) x'.enc) base s ys := fun hs => hs.move fun b cs hc _ => keep b (hne b cs _ hc (by decide))
    rcases List.mem_or_eq_of_mem_set hz with h1 | h1
    · exact mv (h.dt z h1)
    · rw [h1]; exact mv hd
theorem TK.setW {W w : World} {g : Nat} {s : Sl} (h : TK W w g s) {q : Nat} (hA : s.A = some ⟨q, 0, none⟩) : ∀ (vs : List Value) (o : Nat), TK W (w.setCells q o vs) g s := fun vs => by
  induction vs generalizing w with
  | nil => exact fun _ => h
  | cons v t ih => exact fun o => ih (h.setS hA o v) (o + 1)
/-- A process that sleeps. -/
def PS.dormant (m : Int) : PS := ⟨0, 0, 0, [0, 0, 0, 0, 0, 0, 0, 0, 0, 0, 0, 0, 0, 0, 0, 0], 0, -1, -1, -1, false, 0, 0, ⟨none, 0, 0⟩, [], m⟩
/-- A value stored whole into the block that was made last. -/
theorem wpList_store_new {P : Program} {ops : Array Oper} {rest : List Oper} {op : Oper} {a : Act} {w : World} {Q : Exit → Act → World → Prop} (hgd : op.guard = none) (ty : TypeId) (x y : Operand) (ho : op.op = .store ty x y)
    (c c' : Array Value) (hx : a.eval x = .pointer (some ⟨w.heap.size, 0, none⟩)) (hy : a.eval y = .agg c') (hi : (P.info? ty).map (·.size) = some c'.size) (hs : c.size = c'.size) (h1 : c'.all (·.oneCell') = true)
    (h : wpList P ops Q rest (a.put op.dst undef) (w.alloc (.cells c' ty))) : wpList P ops Q (op :: rest) a (w.alloc (.cells c ty)) :=
  wpList_plain hgd fun _ hK => by
    unfold Oper.wp execOp
    simp only [ho, hx, hy, Instr.storeAt, Instr.sureAddr, Sem.run_bind, Sem.run_pure, Result.andThen_ok, run_storeVar_new w ty c c' hi hs h1]
    exact hK _ _ h
set_option maxHeartbeats 4000000 in
set_option maxRecDepth 100000 in
theorem dormant_is (m : Int) (W : World) : Calls Try.prog 34 #[.int .i64 m] W fun e w' => e = .returned (.agg (PS.dormant m).enc.toArray) ∧ Below W.heap.size W w' := by
  have hu48 := Try.underlying48
  go_enter Try.func34, Try.ntmps34
  go_wp2_with ((with_reducible refine gate_store (t := 48) (p := 2) rfl ?_); refine wpList_store_new rfl 48 (.tmp 2) (.tmp 4) rfl _ (PS.dormant m).enc.toArray rfl rfl (by kernel_rfl) (by kernel_rfl) (by kernel_rfl) ?_)
  exact bodyPost_ret (results_c Try.results34 _ _ W.heap.size 48 _ (0, 0) _ rfl (heap_alloc_new _ _) hu48 rfl (by kernel_rfl)) rfl ⟨rfl, (Below.refl _ _).alloc (Nat.le_refl _) _⟩
theorem tick_is (now : Int) (W : World) : Calls Try.prog 36 #[.int .i64 now] W fun e w' => e = .returned (.bool (decide (0 ≤ now ∧ now < 1099511627776))) ∧ Drawn0 W w' := by
  refine proc_tick.calls now _ W ?_
  unfold proc_tick.f
  by_cases h1 : 0 ≤ now
  · by_cases h2 : now < 1099511627776 <;> simp [h1, h2]
  · simp [h1]
/-- A state in the middle of the row may be written whole. -/
theorem TabAt.there {W : World} {base g : Nat} {T : Tb} (h : TabAt W base g T) {q i : Nat} {x : PS} (hA : T.sv.A = some ⟨q, 0, none⟩) (hx : T.xs[i]? = some x) : W.there q (i * 28) 28 := fun j hj => by
  have hl := x.enc_len (h.r16 hx)
  have h1 := h.sc hA hx j hj (v := x.enc[j]'(by omega)) (List.getElem?_eq_getElem (by omega))
  exact ⟨by rw [h1]; rfl, h.frz hA _⟩
/-- A process that starts. -/
def PS.started (x : PS) (p : PD) (now : Int) (a0 a1 a2 : Int) : PS := { PS.dormant x.miss with pr := p.prio, pc := p.entry, rel := now, dl := dlOf p now, regs := [0, a0, a1, a2, 0, 0, 0, 0, 0, 0, 0, 0, 0, 0, 0, 0] }
theorem At.pcells {W : World} {base g : Nat} {T : Tb} {q i : Nat} {x : PS} {p : PD} (h : At W base g T q i x p) : ∃ r, T.pv.A = some ⟨r, 0, none⟩ ∧ W.cell? ⟨g, 0, none⟩ = some (.slice (some ⟨r, 0, none⟩) T.xs.length T.pv.c) ∧ W.cell? ⟨r, i * 6, none⟩ = some (.int .i64 p.entry) ∧ W.cell? ⟨r, i * 6 + 1, none⟩ = some (.int .i64 p.prio) ∧ W.cell? ⟨r, i * 6 + 2, none⟩ = some (.int .i64 p.period) ∧ W.cell? ⟨r, i * 6 + 3, none⟩ = some (.int .i64 p.limit) ∧ W.cell? ⟨r, i * 6 + 4, none⟩ = some (.int .i64 p.cap) ∧ W.cell? ⟨r, i * 6 + 5, none⟩ = some (.bool p.auto) := by
  obtain ⟨hi, hpe⟩ := List.getElem?_eq_some_iff.1 h.p
  obtain ⟨r, hA⟩ := own_A h.tab.pr (by omega)
  have hc := fun k hk v hv => h.tab.pcell hA hi k hk v (by rw [hpe]; exact hv)
  exact ⟨r, hA, by rw [← hA, ← h.tab.pn]; exact h.tab.c0, hc 0 (by omega) _ rfl, hc 1 (by omega) _ rfl, hc 2 (by omega) _ rfl, hc 3 (by omega) _ rfl, hc 4 (by omega) _ rfl, hc 5 (by omega) _ rfl⟩
theorem At.put {W : World} {base g : Nat} {T : Tb} {q i : Nat} {x x' : PS} {p : PD} (h : At W base g T q i x p) {w' : World} (ht : TabAt w' base g (T.put i x')) : At w' base g (T.put i x') q i x' p := ⟨ht, h.a, T.put_at i x' h.hi, h.p, by rw [T.put_len]; exact h.n⟩
set_option maxHeartbeats 8000000 in
set_option maxRecDepth 100000 in
theorem start_yes (now a0 a1 a2 : Int) (W : World) (base g : Nat) (T : Tb) (q i : Nat) (x : PS) (p : PD) (h : At W base g T q i x p) (hs : x.st = 0) (ht : 0 ≤ now ∧ now < 1099511627776) (hp : 0 ≤ T.place ∧ T.place < 4611686018427387904) :
    Calls Try.prog 10 #[.pointer (some ⟨g, 0, none⟩), .int .i64 ((i : Int) + 1), .int .i64 now, .agg #[.int .i64 a0, .int .i64 a1, .int .i64 a2]] W (TPost W base g T (T.enter i (x.started p now a0 a1 a2) 1) (.bool true)) := by
  have hu48 := Try.underlying48
  have hu86 := Try.underlying86
  have hu28 := Try.underlying28
  have hu46 := Try.underlying46
  have hu41 := Try.underlying41
  obtain ⟨W1, hW1⟩ : ∃ W1, W.alloc (.cells #[.int .i64 a0, .int .i64 a1, .int .i64 a2] 41) = W1 := ⟨_, rfl⟩
  have hB1 : Below W.heap.size W W1 := by rw [← hW1]; exact (Below.refl _ _).alloc (Nat.le_refl _) _
  have h1 := h.below hB1
  have HA := Aside0.mk h1.at_
  have HTK := Aside0.mk (fun (w' : World) => tick_is now w')
  rw [decide_eq_true ht] at HTK
  have y0 := h1.tab.r_st h1.a h1.x
  simp only [Nat.add_zero] at y0
  rw [hs] at y0
  have H1 := Aside0.mk h1
  have HB1 := Aside0.mk hB1
  have hbx : W1.heap[W.heap.size]? = some (.cells #[.int .i64 a0, .int .i64 a1, .int .i64 a2] 41 (0, 0)) := by rw [← hW1]; exact heap_alloc_new _ _
  have HBX := Aside0.mk hbx
  have HDO := Aside0.mk (fun (w' : World) => dormant_is x.miss w')
  obtain ⟨n, hN⟩ : ∃ n, T.xs.length = n := ⟨_, rfl⟩
  have hiN : i < n := by rw [← hN]; exact h1.hi
  have hnn : n ≤ 4294967296 := by rw [← hN]; exact h1.n
  have HN := Aside0.mk hN
  have HP := Aside0.mk hp
  obtain ⟨V, hV⟩ : ∃ V, T.enter i (x.started p now a0 a1 a2) 1 = V := ⟨_, rfl⟩
  rw [hV]
  have HV := Aside0.mk hV
  clear h h1 hbx hs ht hB1 hN hp hV
  subst hW1
  go_enter Try.func10, Try.ntmps10
  go_wp2_with (first
    | (go_at_call 35; refine HA.out.mono ?_; rintro e w' ⟨rfl, rfl⟩)
    | (go_at_call 36; refine (HTK.out _).mono ?_; rintro e w2 ⟨rfl, hd⟩; have hb := Drawn0.below hd; have HB2 := Aside0.mk hb; have h2 := H1.out.below hb; have HBX2 := Aside0.mk ((hb.block W.heap.size (blk_lt HBX.out)).trans HBX.out); obtain ⟨r, hrA, c0, p0, p1, p2, p3, p4, p5⟩ := h2.pcells; rw [HN.out] at c0; have h3 := h2.below ((Below.refl w2.heap.size w2).alloc (Nat.le_refl _) (.cells #[.int .i64 p.entry, .int .i64 p.prio, .int .i64 p.period, .int .i64 p.limit, .int .i64 p.cap, .bool p.auto] 28)); have y27 := h3.tab.r_miss h3.a h3.x; have H3 := Aside0.mk h3; clear h2 h3 hb hd hrA)
    | (go_at_call 34; refine (HDO.out _).mono ?_; rintro e w4 ⟨rfl, hb4⟩; have H4 := Aside0.mk (H3.out.below hb4); have HB4 := Aside0.mk hb4; have HTH := Aside0.mk (H4.out.tab.there H4.out.a H4.out.x); clear hb4)
    | ((with_reducible refine gate_store (t := 48) (p := 42) rfl ?_); refine wpList_store_mid rfl 48 (.tmp 42) (.tmp 41) rfl q (i * 28) (PS.dormant x.miss).enc.toArray rfl rfl ?aT (by kernel_rfl) (by kernel_rfl) ?_; (case aT => exact HTH.out)))
  generalize hw5 : World.setCells _ q (i * 28) _ = w5
  have H5 := Aside0.mk (show At w5 base g (T.put i (PS.dormant x.miss)) q i (PS.dormant x.miss) p from H4.out.put (by rw [← hw5]; exact H4.out.tab.setW H4.out.a H4.out.x (PS.dormant x.miss) rfl DataAt.nil))
  have hgq : W.heap.size ≠ q := fun e => by
    obtain ⟨cs, hc⟩ := own_typed H1.out.tab.st q (by unfold Sl.v; rw [H1.out.a]; rfl)
    rw [← e] at hc
    exact absurd (ty_eq hc HBX.out) (by decide)
  have h2s := HB2.out.size
  have hXq : w2.heap.size ≠ q := fun e => by
    obtain ⟨cs, hc⟩ := own_typed H1.out.tab.st q (by unfold Sl.v; rw [H1.out.a]; rfl)
    have h8 := blk_lt hc
    omega
  have HXB := Aside0.mk (show w5.heap[w2.heap.size]? = some (.cells #[.int .i64 p.entry, .int .i64 p.prio, .int .i64 p.period, .int .i64 p.limit, .int .i64 p.cap, .bool p.auto] 28 (0, 0)) by
    rw [← hw5, heap_setCells q _ _ _ _ hXq, HB4.out.block _ (by simp)]
    exact heap_alloc_new _ _)
  have HBX5 := Aside0.mk (show w5.heap[W.heap.size]? = some (.cells #[.int .i64 a0, .int .i64 a1, .int .i64 a2] 41 (0, 0)) by
    have hl := blk_lt HBX2.out
    rw [← hw5, heap_setCells q _ _ _ _ hgq, HB4.out.block _ (by simp; omega), Below.heap_alloc _ _ _ hl]
    exact HBX2.out)
  have HK5 := Aside0.mk (show TK W w5 g T.sv by
    rw [← hw5]
    refine TK.setW ?_ H4.out.a _ _
    exact ((TK.of_below HB1.out).trans (TK.of_below HB2.out)).trans ((TK.of_below ((Below.refl w2.heap.size w2).alloc (Nat.le_refl _) _)).trans (TK.of_below HB4.out)))
  obtain ⟨X, hX⟩ : ∃ X, w2.heap.size = X := ⟨_, rfl⟩
  obtain ⟨Y, hY⟩ : ∃ Y, W.heap.size = Y := ⟨_, rfl⟩
  simp only [hX, hY] at HXB HBX5 hXq hgq ⊢
  have HD := Aside0.mk (fun (w' : World) (hb : Below w5.heap.size w5 w') => deadline_is w' base g _ (H5.out.below hb).tab i p H5.out.p now H5.out.n)
  have HY := Aside0.mk (show ∀ w6, Below w5.heap.size w5 w6 → At w6 base g (T.put i (PS.dormant x.miss)) q i (PS.dormant x.miss) p ∧ w6.heap[X]? = some (.cells #[.int .i64 p.entry, .int .i64 p.prio, .int .i64 p.period, .int .i64 p.limit, .int .i64 p.cap, .bool p.auto] 28 (0, 0)) ∧ w6.heap[Y]? = some (.cells #[.int .i64 a0, .int .i64 a1, .int .i64 a2] 41 (0, 0)) ∧ TK W w6 g T.sv from fun w6 hb => ⟨H5.out.below hb, (hb.block X (blk_lt HXB.out)).trans HXB.out, (hb.block Y (blk_lt HBX5.out)).trans HBX5.out, HK5.out.trans (TK.of_below hb)⟩)
  have HSB := Aside0.mk (show ∀ w' : World, w'.heap[X]? = some (.cells #[.int .i64 p.entry, .int .i64 p.prio, .int .i64 p.period, .int .i64 p.limit, .int .i64 p.cap, .bool p.auto] 28 (0, 0)) → w'.heap[X]? = some (.cells #[.int .i64 p.entry, .int .i64 p.prio, .int .i64 p.period, .int .i64 p.limit, .int .i64 p.cap, .bool p.auto] 28 (0, 0)) ∧ w'.cell? ⟨X, 0, none⟩ = some (.int .i64 p.entry) ∧ w'.cell? ⟨X, 1, none⟩ = some (.int .i64 p.prio) from fun w' hh => ⟨hh, (blk_cell hh 0).trans rfl, (blk_cell hh 1).trans rfl⟩)
  have HXQ := Aside0.mk hXq
  clear hw5 HA HTK y0 HDO c0 p0 p1 p2 p3 p4 p5 y27 hgq h2s hXq hX hY
  clear HB4 HTH H4 HBX2 HB2 H3 HBX HB1 H1
  obtain ⟨hD0, hD1, hD2⟩ := HSB.out w5 HXB.out
  go_region_held3 (fun w' => w'.heap[X]? = some (.cells #[.int .i64 p.entry, .int .i64 p.prio, .int .i64 p.period, .int .i64 p.limit, .int .i64 p.cap, .bool p.auto] 28 (0, 0)) ∧ w'.cell? ⟨X, 0, none⟩ = some (.int .i64 p.entry) ∧ w'.cell? ⟨X, 1, none⟩ = some (.int .i64 p.prio))
    (first | exact HSB.out _ HXB.out | exact HSB.out _ ((Below.block (by assumption) X (blk_lt HXB.out)).trans HXB.out) | exact HSB.out _ ((Below.heap_setCell _ _ _ _ HXQ.out).trans (And.left (by assumption))))
    (first | (go_at_call 37; refine (HD.out _ (below_drew1 (Below.refl _ _))).mono ?_; rintro e w6 ⟨rfl, hb6⟩; have hb6' : Below w5.heap.size w5 w6 := (below_drew1 (Below.refl _ _)).trans (hb6.mono (Nat.le_refl _)); obtain ⟨h6, hx6, hy6, hk6⟩ := HY.out w6 hb6'; have H6 := Aside0.mk h6; have HX6 := Aside0.mk hx6; have HY6 := Aside0.mk hy6; have HK6 := Aside0.mk hk6; have z1 := h6.tab.r_pr h6.a h6.x; have z19 := h6.tab.r_pc h6.a h6.x; have z20 := h6.tab.r_rel h6.a h6.x; have z21 := h6.tab.r_dl h6.a h6.x; have f1 := h6.tab.frz h6.a (i * 28 + 1); have f19 := h6.tab.frz h6.a (i * 28 + 19); have f20 := h6.tab.frz h6.a (i * 28 + 20); have f21 := h6.tab.frz h6.a (i * 28 + 21); clear h6 hx6 hy6 hk6))
  have t1 := H6.out.tab.w_pr H6.out.a H6.out.x p.prio
  rw [Tb.put_put] at t1
  have hi0 : i < T.xs.length := by rw [HN.out]; exact hiN
  have t2 := t1.w_pc H6.out.a (T.put_at i _ hi0) p.entry
  rw [Tb.put_put] at t2
  have t3 := t2.w_rel H6.out.a (T.put_at i _ hi0) now
  rw [Tb.put_put] at t3
  have t4 := t3.w_dl H6.out.a (T.put_at i _ hi0) (dlOf p now)
  rw [Tb.put_put] at t4
  have k4 := (((HK6.out.setS H6.out.a (i * 28 + 1) (.int .i64 p.prio)).setS H6.out.a (i * 28 + 19) (.int .i64 p.entry)).setS H6.out.a (i * 28 + 20) (.int .i64 now)).setS H6.out.a (i * 28 + 21) (.int .i64 (dlOf p now))
  have hYq : Y ≠ q := fun e => by
    obtain ⟨cs, hc⟩ := own_typed H6.out.tab.st q (by unfold Sl.v; rw [H6.out.a]; rfl)
    rw [← e] at hc
    exact absurd (ty_eq hc HY6.out) (by decide)
  have y4 := ((((Below.heap_setCell (((w6.setCell ⟨q, i * 28 + 1, none⟩ (.int .i64 p.prio)).setCell ⟨q, i * 28 + 19, none⟩ (.int .i64 p.entry)).setCell ⟨q, i * 28 + 20, none⟩ (.int .i64 now)) ⟨q, i * 28 + 21, none⟩ (.int .i64 (dlOf p now)) Y hYq).trans (Below.heap_setCell _ _ _ Y hYq)).trans (Below.heap_setCell _ _ _ Y hYq)).trans (Below.heap_setCell _ _ _ Y hYq)).trans HY6.out
  obtain ⟨w7, hw7⟩ : ∃ w7, ((((w6.setCell ⟨q, i * 28 + 1, none⟩ (.int .i64 p.prio)).setCell ⟨q, i * 28 + 19, none⟩ (.int .i64 p.entry)).setCell ⟨q, i * 28 + 20, none⟩ (.int .i64 now)).setCell ⟨q, i * 28 + 21, none⟩ (.int .i64 (dlOf p now))) = w7 := ⟨_, rfl⟩
  rw [hw7] at t4 k4 y4 ⊢
  have HA7 := Aside0.mk H6.out.a
  have T7 := Aside0.mk t4
  have K7 := Aside0.mk k4
  have r4 := t4.sc H6.out.a (T.put_at i _ hi0) (3 + 1) (by omega) (PS.get_reg _ rfl 1 (by omega))
  have r5 := t4.sc H6.out.a (T.put_at i _ hi0) (3 + 2) (by omega) (PS.get_reg _ rfl 2 (by omega))
  have r6 := t4.sc H6.out.a (T.put_at i _ hi0) (3 + 3) (by omega) (PS.get_reg _ rfl 3 (by omega))
  have g4 := t4.frz H6.out.a (i * 28 + 4)
  have g5 := t4.frz H6.out.a (i * 28 + 5)
  have g6 := t4.frz H6.out.a (i * 28 + 6)
  have b0 := (blk_cell y4 0).trans rfl
  have b1 := (blk_cell y4 1).trans rfl
  have b2 := (blk_cell y4 2).trans rfl
  clear t1 t2 t3 t4 k4 y4 hw7 z1 z19 z20 z21 f1 f19 f20 f21 hb6 hb6' hD0 hD1 hD2
  clear H6 HX6 HY6 HK6 HD HY HSB HXB HBX5 HK5 H5
  go_wp2
  have hcp : (Builtin.copy_ #[32, 32] 3 #[.slice (some ⟨q, i * 28 + 3 + 1, none⟩) 15 15, .slice (some ⟨Y, 0, none⟩) 3 3]).run Try.prog w7.drew = .ok (.int .i64 3) (w7.drew.setCells q (i * 28 + 3 + 1) [.int .i64 a0, .int .i64 a1, .int .i64 a2]) := by
    refine run_copy_cells w7.drew 32 32 3 2 q (i * 28 + 3 + 1) 15 15 ⟨Y, 0, none⟩ 3 3 [.int .i64 a0, .int .i64 a1, .int .i64 a2] Try.underlying32 (by kernel_rfl) rfl ?_ ?_ ?_ ?_
    · intro j v hv
      rw [add_lit]
      match j, hv with
      | 0, hv => cases hv; exact b0
      | 1, hv => cases hv; exact b1
      | 2, hv => cases hv; exact b2
      | j + 3, hv => simp at hv
    · intro j hj
      have hj3 : j = 0 ∨ j = 1 ∨ j = 2 := by simp at hj; omega
      rcases hj3 with rfl | rfl | rfl
      · exact (congrArg Option.isSome r4).trans rfl
      · exact (congrArg Option.isSome r5).trans rfl
      · exact (congrArg Option.isSome r6).trans rfl
    · intro j _
      exact T7.out.frz HA7.out _
    · intro v hv
      simp at hv
      rcases hv with rfl | rfl | rfl <;> rfl
  have hi1 : i < T.xs.length := by rw [HN.out]; exact hiN
  have t5 := T7.out.below (below_drew (Below.refl _ _))
  have t6 := t5.w_reg HA7.out (T.put_at i _ hi1) 1 (by omega) a0
  rw [Tb.put_put] at t6
  have t7 := t6.w_reg HA7.out (T.put_at i _ hi1) 2 (by omega) a1
  rw [Tb.put_put] at t7
  have t8 := t7.w_reg HA7.out (T.put_at i _ hi1) 3 (by omega) a2
  rw [Tb.put_put] at t8
  have k8 := ((((K7.out.trans (TK.of_below (below_drew (Below.refl _ _)))).setS HA7.out (i * 28 + (3 + 1)) (.int .i64 a0)).setS HA7.out (i * 28 + (3 + 2)) (.int .i64 a1)).setS HA7.out (i * 28 + (3 + 3)) (.int .i64 a2))
  have HEN := Aside0.mk (show Calls Try.prog 38 #[.pointer (some ⟨g, 0, none⟩), .pointer (some ⟨q, i * 28, none⟩), .int .i64 1] (w7.drew.setCells q (i * 28 + 3 + 1) [.int .i64 a0, .int .i64 a1, .int .i64 a2]) (TPost W base g T V (.tuple #[])) from by
    have he := enter_is _ base g _ t8 q i _ 1 HA7.out (T.put_at i _ hi1) HP.out
    have hpe : ∀ (z : PS), (T.put i z).enter i z 1 = T.enter i z 1 := fun z => by unfold Tb.enter Tb.take; simp [Tb.put]
    rw [hpe] at he
    have hv := HV.out
    refine Calls.mono he fun e w' hq => ?_
    rw [← hv]
    exact ⟨hq.1, hq.2.1, k8.trans hq.2.2⟩)
  clear t5 t6 t7 t8 k8 r4 r5 r6 g4 g5 g6 b0 b1 b2
  go_region_with (fail)
  generalize w7.drew.setCells q (i * 28 + 3 + 1) [.int .i64 a0, .int .i64 a1, .int .i64 a2] = w8 at *
  go_wp2_with (go_at_call 38; refine HEN.out.mono ?_; rintro e w' hq; have he := hq.1; subst he; have HQ := Aside0.mk hq; clear hq)
  go_ret
  exact ⟨rfl, HQ.out.2⟩
end Go.Proofs.Ytfnlankpdnkmoaa.B
