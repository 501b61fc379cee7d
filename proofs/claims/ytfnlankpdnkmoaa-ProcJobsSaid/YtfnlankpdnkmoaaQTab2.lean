/- Proved, plainly: the fields of a process's state, read and written; chains of stores. No program's own step in it. -/
import Derived.Test.YtfnlankpdnkmoaaQTab
namespace Go.Proofs.Ytfnlankpdnkmoaa.B
open Go.RowKit Go.Proofs.YtfnlankpdnkmoaaW.PrintWords Go.Proofs.YtfnlankpdnkmoaaW.PrintLast Go.Proofs.YtfnlankpdnkmoaaW.PrintMore

theorem PS.get_st (x : PS) (_hr : x.regs.length = 16) : x.enc[0]? = some (.int .i64 x.st) := rfl
theorem PS.set_st (x : PS) (_hr : x.regs.length = 16) (v : Int) : x.enc.set 0 (.int .i64 v) = ({ x with st := v } : PS).enc := rfl
theorem PS.get_pr (x : PS) (_hr : x.regs.length = 16) : x.enc[1]? = some (.int .i64 x.pr) := rfl
theorem PS.set_pr (x : PS) (_hr : x.regs.length = 16) (v : Int) : x.enc.set 1 (.int .i64 v) = ({ x with pr := v } : PS).enc := rfl
theorem PS.get_pl (x : PS) (_hr : x.regs.length = 16) : x.enc[2]? = some (.int .i64 x.pl) := rfl
theorem PS.set_pl (x : PS) (_hr : x.regs.length = 16) (v : Int) : x.enc.set 2 (.int .i64 v) = ({ x with pl := v } : PS).enc := rfl
section
variable (x : PS) (hr : x.regs.length = 16)
include hr
theorem PS.get_pc : x.enc[19]? = some (.int .i64 x.pc) := by unfold PS.enc; simp [nums_length, hr]
theorem PS.set_pc (v : Int) : x.enc.set 19 (.int .i64 v) = ({ x with pc := v } : PS).enc := by unfold PS.enc; simp [nums_length, hr]
theorem PS.get_rel : x.enc[20]? = some (.int .i64 x.rel) := by unfold PS.enc; simp [nums_length, hr]
theorem PS.set_rel (v : Int) : x.enc.set 20 (.int .i64 v) = ({ x with rel := v } : PS).enc := by unfold PS.enc; simp [nums_length, hr]
theorem PS.get_dl : x.enc[21]? = some (.int .i64 x.dl) := by unfold PS.enc; simp [nums_length, hr]
theorem PS.set_dl (v : Int) : x.enc.set 21 (.int .i64 v) = ({ x with dl := v } : PS).enc := by unfold PS.enc; simp [nums_length, hr]
theorem PS.get_un : x.enc[22]? = some (.int .i64 x.un) := by unfold PS.enc; simp [nums_length, hr]
theorem PS.set_un (v : Int) : x.enc.set 22 (.int .i64 v) = ({ x with un := v } : PS).enc := by unfold PS.enc; simp [nums_length, hr]
theorem PS.get_late : x.enc[23]? = some (.bool x.late) := by unfold PS.enc; simp [nums_length, hr]
theorem PS.set_late (v : Bool) : x.enc.set 23 (.bool v) = ({ x with late := v } : PS).enc := by unfold PS.enc; simp [nums_length, hr]
theorem PS.get_ob : x.enc[24]? = some (.int .i64 x.ob) := by unfold PS.enc; simp [nums_length, hr]
theorem PS.set_ob (v : Int) : x.enc.set 24 (.int .i64 v) = ({ x with ob := v } : PS).enc := by unfold PS.enc; simp [nums_length, hr]
theorem PS.get_ad : x.enc[25]? = some (.int .i64 x.ad) := by unfold PS.enc; simp [nums_length, hr]
theorem PS.set_ad (v : Int) : x.enc.set 25 (.int .i64 v) = ({ x with ad := v } : PS).enc := by unfold PS.enc; simp [nums_length, hr]
theorem PS.get_dat : x.enc[26]? = some (.slice x.dat.A x.dat.n x.dat.c) := by unfold PS.enc; simp [nums_length, hr, Sl.v]
theorem PS.set_dat (v : Sl) : x.enc.set 26 (.slice v.A v.n v.c) = ({ x with dat := v } : PS).enc := by unfold PS.enc; simp [nums_length, hr, Sl.v]
theorem PS.get_miss : x.enc[27]? = some (.int .i64 x.miss) := by unfold PS.enc; simp [nums_length, hr]
theorem PS.set_miss (v : Int) : x.enc.set 27 (.int .i64 v) = ({ x with miss := v } : PS).enc := by unfold PS.enc; simp [nums_length, hr]
theorem PS.get_reg (j : Nat) (hj : j < 16) : x.enc[3 + j]? = some (.int .i64 (x.regs[j]'(by omega))) := by
  unfold PS.enc
  rw [show 3 + j = j + 3 by omega]
  simp only [List.getElem?_cons_succ]
  rw [List.getElem?_append_left (by rw [nums_length]; omega)]
  simp [nums, show j < x.regs.length by omega]
theorem PS.set_reg (j : Nat) (hj : j < 16) (v : Int) : x.enc.set (3 + j) (.int .i64 v) = ({ x with regs := x.regs.set j v } : PS).enc := by
  unfold PS.enc
  rw [show 3 + j = j + 3 by omega]
  simp only [List.set_cons_succ]
  rw [List.set_append_left _ _ (by rw [nums_length]; omega)]
  simp [nums, List.map_set]
end
/-- A table with a state put in. -/
def Tb.put (T : Tb) (i : Nat) (x : PS) : Tb := { T with xs := T.xs.set i x }
theorem Tb.put_put (T : Tb) (i : Nat) (x y : PS) : (T.put i x).put i y = T.put i y := by unfold Tb.put; simp
theorem Tb.put_at (T : Tb) (i : Nat) (x : PS) (h : i < T.xs.length) : (T.put i x).xs[i]? = some x := by unfold Tb.put; simp [h]
theorem Tb.put_len (T : Tb) (i : Nat) (x : PS) : (T.put i x).xs.length = T.xs.length := by unfold Tb.put; simp
/-- A step that keeps all but a table's record and states. -/
structure TK (W w' : World) (g : Nat) (s : Sl) : Prop where
  os : w'.os = W.os
  tape : w'.tape = W.tape
  out : w'.output = W.output
  size : W.heap.size ≤ w'.heap.size
  block : ∀ k, k < W.heap.size → k ≠ g → s.v.ownBlock ≠ some k → w'.heap[k]? = W.heap[k]?
section
variable {W w w' : World} {base g : Nat} {T : Tb} {s : Sl}
theorem TK.refl : TK W W g s := ⟨rfl, rfl, rfl, Nat.le_refl _, fun _ _ _ _ => rfl⟩
theorem TK.trans (h : TK W w g s) (k : TK w w' g s) : TK W w' g s := ⟨k.os.trans h.os, k.tape.trans h.tape, k.out.trans h.out, Nat.le_trans h.size k.size, fun b hb h1 h2 => (k.block b (Nat.lt_of_lt_of_le hb h.size) h1 h2).trans (h.block b hb h1 h2)⟩
theorem TK.of_below (h : Below W.heap.size W w') : TK W w' g s := ⟨h.os, h.tape, h.output, h.size, fun b hb _ _ => h.block b hb⟩
theorem TK.setG (h : TK W w g s) (j : Nat) (v : Value) : TK W (w.setCell ⟨g, j, none⟩ v) g s := ⟨h.os, h.tape, h.out, by simp; exact h.size, fun b hb h1 h2 => (Below.heap_setCell w _ _ b h1).trans (h.block b hb h1 h2)⟩
theorem TK.setS (h : TK W w g s) {q : Nat} (hA : s.A = some ⟨q, 0, none⟩) (j : Nat) (v : Value) : TK W (w.setCell ⟨q, j, none⟩ v) g s := ⟨h.os, h.tape, h.out, by simp; exact h.size, fun b hb h1 h2 => (Below.heap_setCell w _ _ b fun e => h2 (by subst e; unfold Sl.v; rw [hA]; rfl)).trans (h.block b hb h1 h2)⟩
theorem TK.below (h : TK W w' g s) (hg : base ≤ g) (hs : ∀ b, s.v.ownBlock = some b → base ≤ b) (hb : base ≤ W.heap.size) : Below base W w' := ⟨h.os, h.tape, h.out, h.size, fun k hk => h.block k (by omega) (by omega) fun e => by have := hs k e; omega⟩
theorem TabAt.bel (h : TabAt W base g T) (hk : TK W w' g T.sv) : Below base W w' := hk.below h.low (fun b hb => own_base h.st b hb) (by have := h.low; have := blk_lt h.blk; omega)
theorem TabAt.getx (_h : TabAt W base g T) {i : Nat} {x : PS} (hx : T.xs[i]? = some x) : ∃ hi : i < T.xs.length, T.xs[i] = x := List.getElem?_eq_some_iff.1 hx
theorem TabAt.r16 (h : TabAt W base g T) {i : Nat} {x : PS} (hx : T.xs[i]? = some x) : x.regs.length = 16 := h.regs x (List.mem_of_getElem? hx)
theorem TabAt.sc (h : TabAt W base g T) {q i : Nat} {x : PS} (hA : T.sv.A = some ⟨q, 0, none⟩) (hx : T.xs[i]? = some x) (k : Nat) (hk : k < 28) {v : Value} (hv : x.enc[k]? = some v) : W.cell? ⟨q, i * 28 + k, none⟩ = some v := by
  obtain ⟨hi, e⟩ := h.getx hx
  exact h.cell hA hi k hk v (by rw [e]; exact hv)
theorem TabAt.pu (h : TabAt W base g T) {q i : Nat} {x : PS} (hA : T.sv.A = some ⟨q, 0, none⟩) (hx : T.xs[i]? = some x) (k : Nat) (hk : k < 28) {v : Value} {x' : PS} (he : x.enc.set k v = x'.enc) (hr : x'.regs.length = 16) (hd : DataAt W base x'.dat x'.data) : TabAt (W.setCell ⟨q, i * 28 + k, none⟩ v) base g (T.put i x') := by
  obtain ⟨hi, e⟩ := h.getx hx
  exact h.setS hA hi k hk v x' (by rw [e]; exact he) hr hd
theorem TabAt.data (h : TabAt W base g T) {i : Nat} {x : PS} (hx : T.xs[i]? = some x) : DataAt W base x.dat x.data := h.dt x (List.mem_of_getElem? hx)
theorem TabAt.ne (h : TabAt W base g T) {q : Nat} (hA : T.sv.A = some ⟨q, 0, none⟩) : q ≠ g := fun e => by
  obtain ⟨cs, hc⟩ := own_typed h.st q (by unfold Sl.v; rw [hA]; rfl)
  rw [e] at hc
  exact absurd (ty_eq hc h.blk) (by decide)
theorem TabAt.setPlace (h : TabAt W base g T) (p : Int) : TabAt (W.setCell ⟨g, 5, none⟩ (.int .i64 p)) base g { T with place := p } := h.setG 5 (.int .i64 p) rfl rfl rfl rfl rfl
theorem TabAt.setLock (h : TabAt W base g T) (p : Int) : TabAt (W.setCell ⟨g, 4, none⟩ (.int .i64 p)) base g { T with lock := p } := h.setG 4 (.int .i64 p) rfl rfl rfl rfl rfl
theorem TabAt.A (h : TabAt W base g T) {i : Nat} {x : PS} (hx : T.xs[i]? = some x) : ∃ q, T.sv.A = some ⟨q, 0, none⟩ := by
  obtain ⟨hi, _⟩ := h.getx hx
  exact own_A h.st (by omega)
end
theorem TabAt.w_st {W : World} {base g : Nat} {T : Tb} (h : TabAt W base g T) {q i : Nat} {x : PS} (hA : T.sv.A = some ⟨q, 0, none⟩) (hx : T.xs[i]? = some x) (v : Int) : TabAt (W.setCell ⟨q, i * 28 + 0, none⟩ (.int .i64 v)) base g (T.put i { x with st := v }) := h.pu hA hx 0 (by omega) (PS.set_st x (h.r16 hx) v) (show x.regs.length = 16 from h.r16 hx) (show DataAt W base x.dat x.data from h.data hx)
theorem TabAt.r_st {W : World} {base g : Nat} {T : Tb} (h : TabAt W base g T) {q i : Nat} {x : PS} (hA : T.sv.A = some ⟨q, 0, none⟩) (hx : T.xs[i]? = some x) : W.cell? ⟨q, i * 28 + 0, none⟩ = some (.int .i64 x.st) := h.sc hA hx 0 (by omega) (PS.get_st x (h.r16 hx))
theorem TabAt.w_pr {W : World} {base g : Nat} {T : Tb} (h : TabAt W base g T) {q i : Nat} {x : PS} (hA : T.sv.A = some ⟨q, 0, none⟩) (hx : T.xs[i]? = some x) (v : Int) : TabAt (W.setCell ⟨q, i * 28 + 1, none⟩ (.int .i64 v)) base g (T.put i { x with pr := v }) := h.pu hA hx 1 (by omega) (PS.set_pr x (h.r16 hx) v) (show x.regs.length = 16 from h.r16 hx) (show DataAt W base x.dat x.data from h.data hx)
theorem TabAt.r_pr {W : World} {base g : Nat} {T : Tb} (h : TabAt W base g T) {q i : Nat} {x : PS} (hA : T.sv.A = some ⟨q, 0, none⟩) (hx : T.xs[i]? = some x) : W.cell? ⟨q, i * 28 + 1, none⟩ = some (.int .i64 x.pr) := h.sc hA hx 1 (by omega) (PS.get_pr x (h.r16 hx))
theorem TabAt.w_pl {W : World} {base g : Nat} {T : Tb} (h : TabAt W base g T) {q i : Nat} {x : PS} (hA : T.sv.A = some ⟨q, 0, none⟩) (hx : T.xs[i]? = some x) (v : Int) : TabAt (W.setCell ⟨q, i * 28 + 2, none⟩ (.int .i64 v)) base g (T.put i { x with pl := v }) := h.pu hA hx 2 (by omega) (PS.set_pl x (h.r16 hx) v) (show x.regs.length = 16 from h.r16 hx) (show DataAt W base x.dat x.data from h.data hx)
theorem TabAt.r_pl {W : World} {base g : Nat} {T : Tb} (h : TabAt W base g T) {q i : Nat} {x : PS} (hA : T.sv.A = some ⟨q, 0, none⟩) (hx : T.xs[i]? = some x) : W.cell? ⟨q, i * 28 + 2, none⟩ = some (.int .i64 x.pl) := h.sc hA hx 2 (by omega) (PS.get_pl x (h.r16 hx))
theorem TabAt.w_pc {W : World} {base g : Nat} {T : Tb} (h : TabAt W base g T) {q i : Nat} {x : PS} (hA : T.sv.A = some ⟨q, 0, none⟩) (hx : T.xs[i]? = some x) (v : Int) : TabAt (W.setCell ⟨q, i * 28 + 19, none⟩ (.int .i64 v)) base g (T.put i { x with pc := v }) := h.pu hA hx 19 (by omega) (PS.set_pc x (h.r16 hx) v) (show x.regs.length = 16 from h.r16 hx) (show DataAt W base x.dat x.data from h.data hx)
theorem TabAt.r_pc {W : World} {base g : Nat} {T : Tb} (h : TabAt W base g T) {q i : Nat} {x : PS} (hA : T.sv.A = some ⟨q, 0, none⟩) (hx : T.xs[i]? = some x) : W.cell? ⟨q, i * 28 + 19, none⟩ = some (.int .i64 x.pc) := h.sc hA hx 19 (by omega) (PS.get_pc x (h.r16 hx))
theorem TabAt.w_rel {W : World} {base g : Nat} {T : Tb} (h : TabAt W base g T) {q i : Nat} {x : PS} (hA : T.sv.A = some ⟨q, 0, none⟩) (hx : T.xs[i]? = some x) (v : Int) : TabAt (W.setCell ⟨q, i * 28 + 20, none⟩ (.int .i64 v)) base g (T.put i { x with rel := v }) := h.pu hA hx 20 (by omega) (PS.set_rel x (h.r16 hx) v) (show x.regs.length = 16 from h.r16 hx) (show DataAt W base x.dat x.data from h.data hx)
theorem TabAt.r_rel {W : World} {base g : Nat} {T : Tb} (h : TabAt W base g T) {q i : Nat} {x : PS} (hA : T.sv.A = some ⟨q, 0, none⟩) (hx : T.xs[i]? = some x) : W.cell? ⟨q, i * 28 + 20, none⟩ = some (.int .i64 x.rel) := h.sc hA hx 20 (by omega) (PS.get_rel x (h.r16 hx))
theorem TabAt.w_dl {W : World} {base g : Nat} {T : Tb} (h : TabAt W base g T) {q i : Nat} {x : PS} (hA : T.sv.A = some ⟨q, 0, none⟩) (hx : T.xs[i]? = some x) (v : Int) : TabAt (W.setCell ⟨q, i * 28 + 21, none⟩ (.int .i64 v)) base g (T.put i { x with dl := v }) := h.pu hA hx 21 (by omega) (PS.set_dl x (h.r16 hx) v) (show x.regs.length = 16 from h.r16 hx) (show DataAt W base x.dat x.data from h.data hx)
theorem TabAt.r_dl {W : World} {base g : Nat} {T : Tb} (h : TabAt W base g T) {q i : Nat} {x : PS} (hA : T.sv.A = some ⟨q, 0, none⟩) (hx : T.xs[i]? = some x) : W.cell? ⟨q, i * 28 + 21, none⟩ = some (.int .i64 x.dl) := h.sc hA hx 21 (by omega) (PS.get_dl x (h.r16 hx))
theorem TabAt.w_un {W : World} {base g : Nat} {T : Tb} (h : TabAt W base g T) {q i : Nat} {x : PS} (hA : T.sv.A = some ⟨q, 0, none⟩) (hx : T.xs[i]? = some x) (v : Int) : TabAt (W.setCell ⟨q, i * 28 + 22, none⟩ (.int .i64 v)) base g (T.put i { x with un := v }) := h.pu hA hx 22 (by omega) (PS.set_un x (h.r16 hx) v) (show x.regs.length = 16 from h.r16 hx) (show DataAt W base x.dat x.data from h.data hx)
theorem TabAt.r_un {W : World} {base g : Nat} {T : Tb} (h : TabAt W base g T) {q i : Nat} {x : PS} (hA : T.sv.A = some ⟨q, 0, none⟩) (hx : T.xs[i]? = some x) : W.cell? ⟨q, i * 28 + 22, none⟩ = some (.int .i64 x.un) := h.sc hA hx 22 (by omega) (PS.get_un x (h.r16 hx))
theorem TabAt.w_late {W : World} {base g : Nat} {T : Tb} (h : TabAt W base g T) {q i : Nat} {x : PS} (hA : T.sv.A = some ⟨q, 0, none⟩) (hx : T.xs[i]? = some x) (v : Bool) : TabAt (W.setCell ⟨q, i * 28 + 23, none⟩ (.bool v)) base g (T.put i { x with late := v }) := h.pu hA hx 23 (by omega) (PS.set_late x (h.r16 hx) v) (show x.regs.length = 16 from h.r16 hx) (show DataAt W base x.dat x.data from h.data hx)
theorem TabAt.r_late {W : World} {base g : Nat} {T : Tb} (h : TabAt W base g T) {q i : Nat} {x : PS} (hA : T.sv.A = some ⟨q, 0, none⟩) (hx : T.xs[i]? = some x) : W.cell? ⟨q, i * 28 + 23, none⟩ = some (.bool x.late) := h.sc hA hx 23 (by omega) (PS.get_late x (h.r16 hx))
theorem TabAt.w_ob {W : World} {base g : Nat} {T : Tb} (h : TabAt W base g T) {q i : Nat} {x : PS} (hA : T.sv.A = some ⟨q, 0, none⟩) (hx : T.xs[i]? = some x) (v : Int) : TabAt (W.setCell ⟨q, i * 28 + 24, none⟩ (.int .i64 v)) base g (T.put i { x with ob := v }) := h.pu hA hx 24 (by omega) (PS.set_ob x (h.r16 hx) v) (show x.regs.length = 16 from h.r16 hx) (show DataAt W base x.dat x.data from h.data hx)
theorem TabAt.r_ob {W : World} {base g : Nat} {T : Tb} (h : TabAt W base g T) {q i : Nat} {x : PS} (hA : T.sv.A = some ⟨q, 0, none⟩) (hx : T.xs[i]? = some x) : W.cell? ⟨q, i * 28 + 24, none⟩ = some (.int .i64 x.ob) := h.sc hA hx 24 (by omega) (PS.get_ob x (h.r16 hx))
theorem TabAt.w_ad {W : World} {base g : Nat} {T : Tb} (h : TabAt W base g T) {q i : Nat} {x : PS} (hA : T.sv.A = some ⟨q, 0, none⟩) (hx : T.xs[i]? = some x) (v : Int) : TabAt (W.setCell ⟨q, i * 28 + 25, none⟩ (.int .i64 v)) base g (T.put i { x with ad := v }) := h.pu hA hx 25 (by omega) (PS.set_ad x (h.r16 hx) v) (show x.regs.length = 16 from h.r16 hx) (show DataAt W base x.dat x.data from h.data hx)
theorem TabAt.r_ad {W : World} {base g : Nat} {T : Tb} (h : TabAt W base g T) {q i : Nat} {x : PS} (hA : T.sv.A = some ⟨q, 0, none⟩) (hx : T.xs[i]? = some x) : W.cell? ⟨q, i * 28 + 25, none⟩ = some (.int .i64 x.ad) := h.sc hA hx 25 (by omega) (PS.get_ad x (h.r16 hx))
theorem TabAt.w_dat {W : World} {base g : Nat} {T : Tb} (h : TabAt W base g T) {q i : Nat} {x : PS} (hA : T.sv.A = some ⟨q, 0, none⟩) (hx : T.xs[i]? = some x) (v : Sl) (ys : List Int) (hd : DataAt W base v ys) : TabAt (W.setCell ⟨q, i * 28 + 26, none⟩ (.slice v.A v.n v.c)) base g (T.put i { x with dat := v, data := ys }) := h.pu hA hx 26 (by omega) (PS.set_dat x (h.r16 hx) v) (show x.regs.length = 16 from h.r16 hx) hd
theorem TabAt.w_miss {W : World} {base g : Nat} {T : Tb} (h : TabAt W base g T) {q i : Nat} {x : PS} (hA : T.sv.A = some ⟨q, 0, none⟩) (hx : T.xs[i]? = some x) (v : Int) : TabAt (W.setCell ⟨q, i * 28 + 27, none⟩ (.int .i64 v)) base g (T.put i { x with miss := v }) := h.pu hA hx 27 (by omega) (PS.set_miss x (h.r16 hx) v) (show x.regs.length = 16 from h.r16 hx) (show DataAt W base x.dat x.data from h.data hx)
theorem TabAt.r_miss {W : World} {base g : Nat} {T : Tb} (h : TabAt W base g T) {q i : Nat} {x : PS} (hA : T.sv.A = some ⟨q, 0, none⟩) (hx : T.xs[i]? = some x) : W.cell? ⟨q, i * 28 + 27, none⟩ = some (.int .i64 x.miss) := h.sc hA hx 27 (by omega) (PS.get_miss x (h.r16 hx))
theorem TabAt.r_dat {W : World} {base g : Nat} {T : Tb} (h : TabAt W base g T) {q i : Nat} {x : PS} (hA : T.sv.A = some ⟨q, 0, none⟩) (hx : T.xs[i]? = some x) : W.cell? ⟨q, i * 28 + 26, none⟩ = some (.slice x.dat.A x.dat.n x.dat.c) := h.sc hA hx 26 (by omega) (PS.get_dat x (h.r16 hx))
theorem TabAt.w_reg {W : World} {base g : Nat} {T : Tb} (h : TabAt W base g T) {q i : Nat} {x : PS} (hA : T.sv.A = some ⟨q, 0, none⟩) (hx : T.xs[i]? = some x) (j : Nat) (hj : j < 16) (v : Int) : TabAt (W.setCell ⟨q, i * 28 + (3 + j), none⟩ (.int .i64 v)) base g (T.put i { x with regs := x.regs.set j v }) := h.pu hA hx (3 + j) (by omega) (PS.set_reg x (h.r16 hx) j hj v) (by dsimp only; rw [List.length_set]; exact h.r16 hx) (show DataAt W base x.dat x.data from h.data hx)
end Go.Proofs.Ytfnlankpdnkmoaa.B
