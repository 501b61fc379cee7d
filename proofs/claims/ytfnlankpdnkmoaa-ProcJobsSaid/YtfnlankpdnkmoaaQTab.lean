/- Proved, plainly: a table of processes in memory: its record, its states, what they hold; a cell of a state written, a state written whole. No program's own step in it. -/
import Derived.Test.YtfnlankpdnkmoaaQRows
import Derived.Deep.MidRow
namespace Go.Proofs.Ytfnlankpdnkmoaa.B
open Go.RowKit Go.Proofs.YtfnlankpdnkmoaaW.PrintWords Go.Proofs.YtfnlankpdnkmoaaW.PrintLast Go.Proofs.YtfnlankpdnkmoaaW.PrintMore

theorem ty_eq {W : World} {b t1 t2 : Nat} {c1 c2 : Array Value} (h1 : W.heap[b]? = some (.cells c1 t1 (0, 0))) (h2 : W.heap[b]? = some (.cells c2 t2 (0, 0))) : t1 = t2 := by
  rw [h1] at h2
  injection h2 with h2
  injection h2
theorem add_lit (q j : Nat) : (⟨q, 0, none⟩ : Addr).add j = ⟨q, j, none⟩ := by unfold Addr.add; split <;> simp_all

/-! ### Rows of rows, laid flat -/
theorem flat_len {α : Type} {m : Nat} : ∀ {rows : List (List α)}, (∀ r ∈ rows, r.length = m) → rows.flatten.length = rows.length * m
  | [], _ => by simp
  | r :: rows, h => by
    rw [List.flatten_cons, List.length_append, h r (List.mem_cons_self ..), flat_len (fun x hx => h x (List.mem_cons_of_mem _ hx)), List.length_cons, Nat.succ_mul]
    omega
theorem flat_at {α : Type} {m : Nat} : ∀ {rows : List (List α)} (_ : ∀ r ∈ rows, r.length = m) (i k : Nat) (hi : i < rows.length) (_ : k < m), rows.flatten[i * m + k]? = (rows[i])[k]?
  | [], _, i, k, hi, _ => absurd hi (Nat.not_lt_zero _)
  | r :: rows, h, 0, k, _, hk => by
    have hr := h r (List.mem_cons_self ..)
    rw [List.flatten_cons, Nat.zero_mul, Nat.zero_add, List.getElem?_append_left (by omega)]
    rfl
  | r :: rows, h, i + 1, k, hi, hk => by
    have hr := h r (List.mem_cons_self ..)
    rw [List.flatten_cons, List.getElem?_append_right (by rw [hr, Nat.succ_mul]; omega), hr, show (i + 1) * m + k - m = i * m + k by rw [Nat.succ_mul]; omega]
    exact flat_at (fun x hx => h x (List.mem_cons_of_mem _ hx)) i k (by simpa using hi) hk
theorem flat_set {α : Type} {m : Nat} : ∀ {rows : List (List α)} (_ : ∀ r ∈ rows, r.length = m) (i k : Nat) (hi : i < rows.length) (_ : k < m) (v : α), rows.flatten.set (i * m + k) v = (rows.set i ((rows[i]).set k v)).flatten
  | [], _, i, k, hi, _, _ => absurd hi (Nat.not_lt_zero _)
  | r :: rows, h, 0, k, _, hk, v => by
    have hr := h r (List.mem_cons_self ..)
    rw [List.flatten_cons, Nat.zero_mul, Nat.zero_add, List.set_append_left _ _ (by omega)]
    rfl
  | r :: rows, h, i + 1, k, hi, hk, v => by
    have hr := h r (List.mem_cons_self ..)
    rw [List.flatten_cons, List.set_append_right _ _ (by rw [hr, Nat.succ_mul]; omega), hr, show (i + 1) * m + k - m = i * m + k by rw [Nat.succ_mul]; omega, flat_set (fun x hx => h x (List.mem_cons_of_mem _ hx)) i k (by simpa using hi) hk v]
    rfl

/-! ### A process's state -/
structure PS where
  st : Int
  pr : Int
  pl : Int
  regs : List Int
  pc : Int
  rel : Int
  dl : Int
  un : Int
  late : Bool
  ob : Int
  ad : Int
  dat : Sl
  data : List Int
  miss : Int
def PS.enc (x : PS) : List Value := .int .i64 x.st :: .int .i64 x.pr :: .int .i64 x.pl :: (nums .i64 x.regs ++ [.int .i64 x.pc, .int .i64 x.rel, .int .i64 x.dl, .int .i64 x.un, .bool x.late, .int .i64 x.ob, .int .i64 x.ad, x.dat.v, .int .i64 x.miss])
theorem PS.enc_len (x : PS) (h : x.regs.length = 16) : x.enc.length = 28 := by
  have h1 : (nums .i64 x.regs).length = 16 := by rw [nums_length]; exact h
  simp [PS.enc, h1]
/-- What a state waits with: numbers of its own, or none. -/
def DataAt (W : World) (base : Nat) (s : Sl) (xs : List Int) : Prop := (s.n = 0 ∧ xs = []) ∨ Own .i64 2 W base s xs
theorem DataAt.nil {W : World} {base : Nat} : DataAt W base ⟨none, 0, 0⟩ [] := .inl ⟨rfl, rfl⟩
theorem DataAt.move {W W' : World} {base : Nat} {s : Sl} {xs : List Int} (h : DataAt W base s xs) (hk : ∀ b cs, W.heap[b]? = some (.cells cs 2 (0, 0)) → base ≤ b → W'.heap[b]? = W.heap[b]?) : DataAt W' base s xs := by
  rcases h with h | h
  · exact .inl h
  · exact .inr (h.move fun b hb => by obtain ⟨cs, hc⟩ := h.typed b hb; exact hk b cs hc (h.lt b hb).1)
theorem DataAt.len {W : World} {base : Nat} {s : Sl} {xs : List Int} (h : DataAt W base s xs) : s.n = xs.length := by
  rcases h with ⟨h1, h2⟩ | h
  · rw [h1, h2]; rfl
  · exact h.len
/-- A process as it is laid down. -/
structure PD where
  entry : Int
  prio : Int
  period : Int
  limit : Int
  cap : Int
  auto : Bool
def PD.enc (x : PD) : List Value := [.int .i64 x.entry, .int .i64 x.prio, .int .i64 x.period, .int .i64 x.limit, .int .i64 x.cap, .bool x.auto]
/-- A table. -/
structure Tb where
  pv : Sl
  ps : List PD
  code : Int
  handler : Int
  sv : Sl
  xs : List PS
  lock : Int
  place : Int
structure TabAt (W : World) (base g : Nat) (T : Tb) : Prop where
  low : base ≤ g
  blk : W.heap[g]? = some (.cells #[.slice T.pv.A T.pv.n T.pv.c, .int .i64 T.code, .int .i64 T.handler, .slice T.sv.A T.sv.n T.sv.c, .int .i64 T.lock, .int .i64 T.place] 86 (0, 0))
  pr : W.ownsRow base 28 6 T.pv.v T.ps.length (T.ps.map PD.enc).flatten
  st : W.ownsRow base 48 28 T.sv.v T.xs.length (T.xs.map PS.enc).flatten
  regs : ∀ x ∈ T.xs, x.regs.length = 16
  dt : ∀ x ∈ T.xs, DataAt W base x.dat x.data
  len : T.ps.length = T.xs.length
theorem own_n {w : World} {base : Nat} {e : TypeId} {size n : Nat} {s : Sl} {xs : List Value} (h : w.ownsRow base e size s.v n xs) : s.n = n := by
  rcases h.2 with ⟨h1, h2⟩ | ⟨g, cap, cur, h1, _⟩
  · unfold Sl.v at h1; injection h1; omega
  · unfold Sl.v at h1; injection h1
theorem own_A {w : World} {base : Nat} {e : TypeId} {size n : Nat} {s : Sl} {xs : List Value} (h : w.ownsRow base e size s.v n xs) (hp : 0 < n) : ∃ q, s.A = some ⟨q, 0, none⟩ := by
  rcases h.2 with ⟨h1, h2⟩ | ⟨q, cap, cur, h1, _⟩
  · omega
  · exact ⟨q, by unfold Sl.v at h1; injection h1⟩
/-- A cell of a row of records written. -/
theorem own_setAt {w : World} {base : Nat} {e : TypeId} {size n q : Nat} {s : Sl} {xs : List Value} (h : w.ownsRow base e size s.v n xs) (hA : s.A = some ⟨q, 0, none⟩) (j : Nat) (u : Value) : (w.setCell ⟨q, j, none⟩ u).ownsRow base e size s.v n (xs.set j u) := by
  refine ⟨by rw [List.length_set]; exact h.1, ?_⟩
  rcases h.2 with ⟨h1, h2⟩ | ⟨g, cap, cur, h1, hb, hh, h3, h4, h5, h6⟩
  · unfold Sl.v at h1; rw [hA] at h1; injection h1 with h1; cases h1
  · have hq : q = g := by unfold Sl.v at h1; rw [hA] at h1; injection h1 with h1; injection h1 with h1; injection h1
    subst hq
    refine .inr ⟨q, cap, cur.setIfInBounds j u, h1, hb, blk_set hh j u, h3, h4, by simp [h5], ?_⟩
    rw [← h6]
    apply List.ext_getElem?
    intro k
    rw [List.getElem?_take, List.getElem?_set]
    simp only [Array.getElem?_toList, Array.getElem?_setIfInBounds, List.length_take, Array.length_toList, List.getElem?_take]
    by_cases e1 : j = k
    · subst e1
      by_cases e2 : j < n * size
      · by_cases e3 : j < cur.size
        · simp [e2, e3]; omega
        · simp [e2, e3]; omega
      · simp [e2]; omega
    · simp [e1]
section
variable {W W' : World} {base g : Nat} {T : Tb}
theorem TabAt.rows_len (h : TabAt W base g T) : ∀ r ∈ T.xs.map PS.enc, r.length = 28 := fun r hr => by
  obtain ⟨x, hx, rfl⟩ := List.mem_map.1 hr
  exact x.enc_len (h.regs x hx)
theorem pd_len (l : List PD) : ∀ r ∈ l.map PD.enc, r.length = 6 := fun r hr => by
  obtain ⟨x, hx, rfl⟩ := List.mem_map.1 hr
  rfl
theorem TabAt.sn (h : TabAt W base g T) : T.sv.n = T.xs.length := own_n h.st
theorem TabAt.pn (h : TabAt W base g T) : T.pv.n = T.xs.length := (own_n h.pr).trans h.len
theorem TabAt.c0 (h : TabAt W base g T) : W.cell? ⟨g, 0, none⟩ = some (.slice T.pv.A T.pv.n T.pv.c) := (blk_cell h.blk 0).trans rfl
theorem TabAt.c1 (h : TabAt W base g T) : W.cell? ⟨g, 1, none⟩ = some (.int .i64 T.code) := (blk_cell h.blk 1).trans rfl
theorem TabAt.c2 (h : TabAt W base g T) : W.cell? ⟨g, 2, none⟩ = some (.int .i64 T.handler) := (blk_cell h.blk 2).trans rfl
theorem TabAt.c3 (h : TabAt W base g T) : W.cell? ⟨g, 3, none⟩ = some (.slice T.sv.A T.sv.n T.sv.c) := (blk_cell h.blk 3).trans rfl
theorem TabAt.c4 (h : TabAt W base g T) : W.cell? ⟨g, 4, none⟩ = some (.int .i64 T.lock) := (blk_cell h.blk 4).trans rfl
theorem TabAt.c5 (h : TabAt W base g T) : W.cell? ⟨g, 5, none⟩ = some (.int .i64 T.place) := (blk_cell h.blk 5).trans rfl
theorem TabAt.fz (h : TabAt W base g T) (j : Nat) : W.frozen? ⟨g, j, none⟩ = false := blk_frozen h.blk j
/-- A state's cell. -/
theorem TabAt.cell (h : TabAt W base g T) {q i : Nat} (hA : T.sv.A = some ⟨q, 0, none⟩) (hi : i < T.xs.length) (k : Nat) (hk : k < 28) (v : Value) (hv : (T.xs[i]).enc[k]? = some v) : W.cell? ⟨q, i * 28 + k, none⟩ = some v := by
  have h1 := h.st.cells (g := q) (by unfold Sl.v; rw [hA]; rfl) (i * 28 + k) v (by rw [flat_at h.rows_len i k (by simpa using hi) hk]; simpa using hv)
  rwa [add_lit] at h1
theorem TabAt.frz (h : TabAt W base g T) {q : Nat} (hA : T.sv.A = some ⟨q, 0, none⟩) (j : Nat) : W.frozen? ⟨q, j, none⟩ = false := by
  obtain ⟨cs, hc⟩ := own_typed h.st q (by unfold Sl.v; rw [hA]; rfl)
  exact blk_frozen hc j
/-- A cell of a process as laid down. -/
theorem TabAt.pcell (h : TabAt W base g T) {q i : Nat} (hA : T.pv.A = some ⟨q, 0, none⟩) (hi : i < T.ps.length) (k : Nat) (hk : k < 6) (v : Value) (hv : (T.ps[i]).enc[k]? = some v) : W.cell? ⟨q, i * 6 + k, none⟩ = some v := by
  have h1 := h.pr.cells (g := q) (by unfold Sl.v; rw [hA]; rfl) (i * 6 + k) v (by rw [flat_at (pd_len T.ps) i k (by simpa using hi) hk]; simpa using hv)
  rwa [add_lit] at h1
/-- The blocks that a table stands on are kept. -/
theorem TabAt.move (h : TabAt W base g T) (hk : ∀ b cs ty, W.heap[b]? = some (.cells cs ty (0, 0)) → base ≤ b → (ty = 86 ∨ ty = 28 ∨ ty = 48 ∨ ty = 2) → W'.heap[b]? = W.heap[b]?) : TabAt W' base g T :=
  ⟨h.low, (hk g _ _ h.blk h.low (.inl rfl)).trans h.blk, own_move h.pr fun b hb => by obtain ⟨cs, hc⟩ := own_typed h.pr b hb; exact hk b cs _ hc (own_base h.pr b hb) (.inr (.inl rfl)),
    own_move h.st fun b hb => by obtain ⟨cs, hc⟩ := own_typed h.st b hb; exact hk b cs _ hc (own_base h.st b hb) (.inr (.inr (.inl rfl))), h.regs, fun x hx => (h.dt x hx).move fun b cs hc hb => hk b cs _ hc hb (.inr (.inr (.inr rfl))), h.len⟩
theorem TabAt.below (h : TabAt W base g T) (hb : Below W.heap.size W W') : TabAt W' base g T := h.move fun b _ _ hc _ _ => hb.block b (blk_lt hc)
/-- A store into the record. -/
theorem TabAt.setG (h : TabAt W base g T) (j : Nat) (v : Value) {T' : Tb} (h1 : T'.pv = T.pv) (h2 : T'.ps = T.ps) (h3 : T'.sv = T.sv) (h4 : T'.xs = T.xs)
    (he : (#[.slice T.pv.A T.pv.n T.pv.c, .int .i64 T.code, .int .i64 T.handler, .slice T.sv.A T.sv.n T.sv.c, .int .i64 T.lock, .int .i64 T.place] : Array Value).setIfInBounds j v = #[.slice T'.pv.A T'.pv.n T'.pv.c, .int .i64 T'.code, .int .i64 T'.handler, .slice T'.sv.A T'.sv.n T'.sv.c, .int .i64 T'.lock, .int .i64 T'.place]) : TabAt (W.setCell ⟨g, j, none⟩ v) base g T' := by
  have keep : ∀ b, b ≠ g → (W.setCell ⟨g, j, none⟩ v).heap[b]? = W.heap[b]? := fun b hb => Below.heap_setCell W _ _ b hb
  have hne : ∀ b cs ty, W.heap[b]? = some (.cells cs ty (0, 0)) → ty ≠ 86 → b ≠ g := fun b cs ty hc ht e => by subst e; exact ht (ty_eq hc h.blk)
  refine ⟨h.low, blk_put h.blk j v he, ?_, ?_, ?_, ?_, ?_⟩
  · rw [h1, h2]; exact own_move h.pr fun b hb => by obtain ⟨cs, hc⟩ := own_typed h.pr b hb; exact keep b (hne b cs _ hc (by decide))
  · rw [h3, h4]; exact own_move h.st fun b hb => by obtain ⟨cs, hc⟩ := own_typed h.st b hb; exact keep b (hne b cs _ hc (by decide))
  · rw [h4]; exact h.regs
  · rw [h4]; exact fun x hx => (h.dt x hx).move fun b cs hc _ => keep b (hne b cs _ hc (by decide))
  · rw [h2, h4]; exact h.len
theorem enc_set {l : List PS} {i k : Nat} (hi : i < l.length) {v : Value} {x' : PS} (he : (l[i]).enc.set k v = x'.enc) : (l.map PS.enc).set i (((l.map PS.enc)[i]'(by simpa using hi)).set k v) = (l.set i x').map PS.enc := by
  rw [List.map_set]
  congr 1
  rw [List.getElem_map]
  exact he
/-- A cell of a state written. -/
theorem TabAt.setS (h : TabAt W base g T) {q i : Nat} (hA : T.sv.A = some ⟨q, 0, none⟩) (hi : i < T.xs.length) (k : Nat) (hk : k < 28) (v : Value) (x' : PS) (he : (T.xs[i]).enc.set k v = x'.enc) (hr : x'.regs.length = 16) (hd : DataAt W base x'.dat x'.data) :
    TabAt (W.setCell ⟨q, i * 28 + k, none⟩ v) base g { T with xs := T.xs.set i x' } := by
  obtain ⟨cs0, hc0⟩ := own_typed h.st q (by unfold Sl.v; rw [hA]; rfl)
  have keep : ∀ b, b ≠ q → (W.setCell ⟨q, i * 28 + k, none⟩ v).heap[b]? = W.heap[b]? := fun b hb => Below.heap_setCell W _ _ b hb
  have hne : ∀ b cs ty, W.heap[b]? = some (.cells cs ty (0, 0)) → ty ≠ 48 → b ≠ q := fun b cs ty hc ht e => by subst e; exact ht (ty_eq hc hc0)
  refine ⟨h.low, (keep g (hne g _ _ h.blk (by decide))).trans h.blk, own_move h.pr fun b hb => by obtain ⟨cs, hc⟩ := own_typed h.pr b hb; exact keep b (hne b cs _ hc (by decide)), ?_, ?_, ?_, by dsimp only; rw [List.length_set]; exact h.len⟩
  · dsimp only
    rw [List.length_set]
    have h1 := own_setAt h.st hA (i * 28 + k) v
    rw [flat_set h.rows_len i k (by simpa using hi) hk v, enc_set hi he] at h1
    exact h1
  · intro x hx
    rcases List.mem_or_eq_of_mem_set hx with h1 | h1
    · exact h.regs x h1
    · rw [h1]; exact hr
  · intro x hx
    have mv : ∀ {s : Sl} {ys : List Int}, DataAt W base s ys → DataAt (W.setCell ⟨q, i * 28 + k, none⟩ v) base s ys := fun hs => hs.move fun b cs hc _ => keep b (hne b cs _ hc (by decide))
    rcases List.mem_or_eq_of_mem_set hx with h1 | h1
    · exact mv (h.dt x h1)
    · rw [h1]; exact mv hd
end
end Go.Proofs.Ytfnlankpdnkmoaa.B
