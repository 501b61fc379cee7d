/- Proved: the contract of slots.stretches' iterator: what comes are the segments that OccMath's play makes; its rests and next releases lie in two blocks of its own. Conditions: the servers may be; the end is at most 2^22. -/
import Derived.Test.YtckdjcidbpnfeaaDoorHPlay
import Derived.Test.YtckdjcidbpnfeaaDoorHRangeD
import Derived.Sort.CutIn
namespace Go.Proofs.YtckdjcidbpnfeaaDoor.B
open Go.RowKit Go.Shelf Go.Proofs.YtckdjcidbpnfeaaDoorW.PrintWords Go.Proofs.YtckdjcidbpnfeaaDoorW.PrintLast Go.Proofs.YtckdjcidbpnfeaaDoorW.PrintMore
attribute [local go_sem] Oper.semAt_some min_two min2_mn

/-- What a round keeps of the iterator's: all below n0, and what lies from m on up to the rows, but for the loop's record. -/
def PKs (n0 m : Nat) (l : Nat) (A B : World) : Prop := A.heap.size ≤ B.heap.size ∧ ∀ k, k < A.heap.size → (k < n0 ∨ (m ≤ k ∧ k ≤ l + 2 ∧ k ≠ l)) → B.heap[k]? = A.heap[k]?

def encSlot (x : Nat × Nat × Nat) : Array Value := #[.agg #[.int .i64 (x.2.1 : Nat), .int .i64 (x.2.2 : Nat)]]

theorem nx_zero (o p : Nat) : OccMath.nx o p 0 = o := by unfold OccMath.nx; rw [if_pos (Nat.zero_le _)]
theorem after_rel {S : OccMath.Sv} {i now : Nat} (hp : 1 ≤ S.p i) : S.rel i (S.after i now) := by
  unfold OccMath.Sv.after
  by_cases c : OccMath.nx (S.o i) (S.p i) now = now
  · rw [if_pos c]
    obtain ⟨h1, h2⟩ := (S.nx_eq i now hp).1 c
    exact ⟨by omega, by rw [show now + S.p i - S.o i = (now - S.o i) + S.p i by omega, Nat.add_mod_right]; exact h2⟩
  · rw [if_neg c]; exact S.nx_rel i now
/-- The next release stays while the tick goes on to it. -/
theorem nx_stay {S : OccMath.Sv} {i now E : Nat} (hp : 1 ≤ S.p i) (h1 : now < E) (h2 : E ≤ S.after i now) : OccMath.nx (S.o i) (S.p i) E = S.after i now := by
  have g1 := S.nx_ge i E hp
  have g2 := S.nx_rel i E
  rcases Nat.lt_trichotomy (OccMath.nx (S.o i) (S.p i) E) (S.after i now) with c | c | c
  · exact absurd g2 (S.after_none i now _ hp (by omega) c)
  · exact c
  · exact absurd (after_rel hp) (S.nx_lt i E _ hp h2 c)

/-- Two rows, either ahead of the other, in the two blocks behind l. -/
def Two (l br bn : Nat) : Prop := (br = l + 1 ∧ bn = l + 2) ∨ (br = l + 2 ∧ bn = l + 1)

theorem kd_put {l b i : Nat} {w w' : World} {v : Value} (h : KD 2 (l + 1) w w') (h1 : l + 1 ≤ b) (h2 : b ≤ l + 2) : KD 2 (l + 1) w (w'.setCell ⟨b, i, none⟩ v) :=
  h.trans ⟨(Below.refl _ _).setCell (p := ⟨b, i, none⟩) h1 _, fun k _ hk => Below.heap_setCell _ _ _ _ (by show k ≠ b; omega)⟩
theorem kd_alloc {l : Nat} {w w' : World} {o : Obj} (h : KD 2 (l + 1) w w') (h1 : l + 1 ≤ w'.heap.size) : KD 2 (l + 1) w (w'.alloc o) :=
  h.trans (KD.of_below ((Below.refl _ _).alloc (Nat.le_refl _) _) h1)
theorem RowAt.far {t : TypeId} {b c n : Nat} {r : Nat → Nat} {w : World} (h : RowAt t b n r w) (i : Nat) (v : Value) (hc : b ≠ c) : RowAt t b n r (w.setCell ⟨c, i, none⟩ v) :=
  h.kept (Below.heap_setCell _ _ _ _ hc)
theorem RowAt.drewN {t : TypeId} {b n : Nat} {r : Nat → Nat} {w : World} (h : RowAt t b n r w) (k : Nat) : RowAt t b n r (w.drewN k) := h
theorem kd_drewN {l : Nat} {w w' : World} (h : KD 2 (l + 1) w w') (k : Nat) : KD 2 (l + 1) w (w'.drewN k) := ⟨pw_below_drewN h.toBelow k, h.far⟩

theorem two_made {l n : Nat} {t : TypeId} {W : World} (hsz : W.heap.size = l + 1) :
    let W2 := ((W.alloc (Obj.cells (madeCells #[Value.int IntKind.i64 0] n) t)).alloc (Obj.cells (madeCells #[Value.int IntKind.i64 0] n) t)).drew
    KD 2 (l + 1) W W2 ∧ RowAt t (l + 1) n (fun _ => 0) W2 ∧ RowAt t (l + 1 + 1) n (fun _ => 0) W2 := by
  have a1 := rowAt_made (t := t) (n := n) (w := W) rfl
  have a2 := rowAt_made (t := t) (n := n) (w := W.alloc (Obj.cells (madeCells #[Value.int IntKind.i64 0] n) t)) rfl
  rw [World.size_alloc, hsz] at a2
  rw [hsz] at a1
  exact ⟨⟨below_drew1 (((Below.refl _ W).alloc (by omega) _).alloc (by simp; omega) _), fun k hk _ => (Below.heap_alloc _ _ _ (by simp; omega)).trans (Below.heap_alloc _ _ _ hk)⟩, a1.alloc _, a2⟩

/-- The next releases while a round goes over the servers: those below i have gone on. -/
def nxs (S : OccMath.Sv) (now i : Nat) : Nat → Nat := fun j => if j < i then S.after j now else OccMath.nx (S.o j) (S.p j) now

theorem row_lt {t : TypeId} {b n : Nat} {r : Nat → Nat} {w : World} (h : RowAt t b n r w) : b < w.heap.size := by obtain ⟨cs, h, _⟩ := h; exact blk_lt h

theorem nxs_succ {S : OccMath.Sv} {now i A n : Nat} (hA : S.after i now = A) : ∀ j, j < n → (fun j => if j = i then A else nxs S now i j) j = nxs S now (i + 1) j := by
  intro j _
  unfold nxs
  by_cases e : j = i
  · subst e; simp only [if_true]; rw [if_pos (by omega), hA]
  · simp only [if_neg e]
    by_cases d : j < i
    · rw [if_pos d, if_pos (by omega)]
    · rw [if_neg d, if_neg (by omega)]
theorem nxs_stay {S : OccMath.Sv} {now i A n : Nat} (hA : S.after i now = A) (hX : OccMath.nx (S.o i) (S.p i) now = A) : ∀ j, j < n → nxs S now i j = nxs S now (i + 1) j := by
  intro j _
  unfold nxs
  by_cases e : j = i
  · subst e; rw [if_neg (by omega), if_pos (by omega), hA, hX]
  · by_cases d : j < i
    · rw [if_pos d, if_pos (by omega)]
    · rw [if_neg d, if_neg (by omega)]
theorem fill_succ {S : OccMath.Sv} {r : Nat → Nat} {now i F n : Nat} (hF : S.fill r now i = F) : ∀ j, j < n → (fun j => if j = i then F else if j < i then S.fill r now j else r j) j = (fun j => if j < i + 1 then S.fill r now j else r j) j := by
  intro j _
  by_cases e : j = i
  · subst e; simp only [if_true]; rw [if_pos (by omega), hF]
  · simp only [if_neg e]
    by_cases d : j < i
    · rw [if_pos d, if_pos (by omega)]
    · rw [if_neg d, if_neg (by omega)]
theorem fill_stay {S : OccMath.Sv} {r : Nat → Nat} {now i n : Nat} (hF : S.fill r now i = r i) : ∀ j, j < n → (fun j => if j < i then S.fill r now j else r j) j = (fun j => if j < i + 1 then S.fill r now j else r j) j := by
  intro j _
  by_cases e : j = i
  · subst e; dsimp only; rw [if_neg (by omega), if_pos (by omega), hF]
  · dsimp only
    by_cases d : j < i
    · rw [if_pos d, if_pos (by omega)]
    · rw [if_neg d, if_neg (by omega)]
theorem until_next {S : OccMath.Sv} {now lim i U A : Nat} (hU : S.until now lim i = U) (hA : S.after i now = A) : S.until now lim (i + 1) = min U A := by
  show min (S.until now lim i) (S.after i now) = _
  rw [hU, hA]
/-- Both rows are written. -/
theorem puts {l br bn n i g : Nat} {r q : Nat → Nat} {w w' : World} {t : TypeId} {o : Obj} {a b : Nat} (HB : KD 2 (l + 1) w w') (HR : RowAt t br n r w') (HN : RowAt t bn n q w') (hs : w'.heap[g]? = some o) (hg : l + 2 < g) (h1 : l + 1 ≤ br) (h2 : br ≤ l + 2) (h3 : l + 1 ≤ bn) (h4 : bn ≤ l + 2) (hne : br ≠ bn) :
    let w3 := ((w'.setCell ⟨br, i, none⟩ (.int .i64 (a : Nat))).setCell ⟨bn, i, none⟩ (.int .i64 (b : Nat))).drew
    KD 2 (l + 1) w w3 ∧ w3.heap[g]? = some o ∧ RowAt t br n (fun j => if j = i then a else r j) w3 ∧ RowAt t bn n (fun j => if j = i then b else q j) w3 := by
  have q1 := kd_put (i := i) (v := .int .i64 (b : Nat)) (kd_put (i := i) (v := .int .i64 (a : Nat)) HB h1 h2) h3 h4
  refine ⟨⟨below_drew1 q1.toBelow, q1.far⟩, ?_, (HR.put i a).far i (.int .i64 (b : Nat)) hne, (HN.far i (.int .i64 (a : Nat)) (Ne.symm hne)).put i b⟩
  exact (Below.heap_setCell _ _ _ _ (by show g ≠ bn; omega)).trans ((Below.heap_setCell _ _ _ _ (by show g ≠ br; omega)).trans hs)

/-- What a round of the caller leaves as it was. -/
theorem round_kept2 {n0 m l0 br bn n b1 b2 : Nat} {A : Option Addr} {c lim : Nat} {l : List S24} {t : TypeId} {r q : Nat → Nat} {w w' : World} (hS : Srv n0 A l w) (hR : RowAt t br n r w) (hN : RowAt t bn n q w) (h1 : w.cell? ⟨b1, 0, none⟩ = some (.slice A l.length c)) (h2 : w.cell? ⟨b2, 0, none⟩ = some (.int .i64 (lim : Nat)))
    (hb1 : m ≤ b1) (hb2 : m ≤ b2) (hl1 : b1 < l0) (hl2 : b2 < l0) (br1 : l0 + 1 ≤ br) (br2 : br ≤ l0 + 2) (bn1 : l0 + 1 ≤ bn) (bn2 : bn ≤ l0 + 2) (hn : n0 ≤ w.heap.size) (hk : PKs n0 m l0 w w') :
    Aside0 (Srv n0 A l w') ∧ Aside0 (RowAt t br n r w') ∧ Aside0 (RowAt t bn n q w') ∧ w'.cell? ⟨b1, 0, none⟩ = some (.slice A l.length c) ∧ w'.cell? ⟨b2, 0, none⟩ = some (.int .i64 (lim : Nat)) :=
  ⟨⟨hS.kept fun k h => hk.2 k (by omega) (.inl h)⟩, ⟨hR.kept (hk.2 _ (row_lt hR) (.inr ⟨by omega, by omega, by omega⟩))⟩, ⟨hN.kept (hk.2 _ (row_lt hN) (.inr ⟨by omega, by omega, by omega⟩))⟩,
    (World.cell?_of_block (w := w) (hk.2 b1 (World.block_lt_of_cell? w ⟨b1, 0, none⟩ h1) (.inr ⟨by omega, by omega, by omega⟩))).trans h1, (World.cell?_of_block (w := w) (hk.2 b2 (World.block_lt_of_cell? w ⟨b2, 0, none⟩ h2) (.inr ⟨by omega, by omega, by omega⟩))).trans h2⟩
theorem nxs_end {S : OccMath.Sv} {now E n : Nat} (hp : ∀ i, i < n → 1 ≤ S.p i) (h1 : now < E) (h2 : ∀ i, i < n → E ≤ S.after i now) : ∀ j, j < n → nxs S now n j = OccMath.nx (S.o j) (S.p j) E := by
  intro j hj
  unfold nxs
  rw [if_pos hj, nx_stay (hp j hj) h1 (h2 j hj)]

set_option maxHeartbeats 4000000 in
set_option maxRecDepth 100000 in
theorem stretches1_is (n0 m b1 b2 : Nat) (A : Option Addr) (c : Nat) (l : List S24) (lim n : Nat) (hn : 1 ≤ n) (hbd : Bd (sv l)) (hlim : lim ≤ 4194304) (w : World) (hs : Srv n0 A l w) (hn0 : n0 ≤ w.heap.size)
    (h1 : w.cell? ⟨b1, 0, none⟩ = some (.slice A l.length c)) (h2 : w.cell? ⟨b2, 0, none⟩ = some (.int .i64 (lim : Nat))) (hb1 : m ≤ b1) (hb2 : m ≤ b2) (hl1 : b1 < w.heap.size) (hl2 : b2 < w.heap.size) :
    SeqCellsD 2 Fence.wide n Tryd.prog 74 #[.pointer (some ⟨b1, 0, none⟩), .pointer (some ⟨b2, 0, none⟩)] encSlot (PKs n0 m)
      (fun xs => xs = (sv l).play lim lim (fun _ => 0) 0) (fun pre => ∃ rest, (sv l).play lim lim (fun _ => 0) 0 = pre ++ rest) (fun pre x => ∃ rest, (sv l).play lim lim (fun _ => 0) 0 = pre ++ x :: rest) w := fun l0 J Jx W hW hsz hwl hJ hJx hY hJ0 => by
  have HS := Aside0.mk (hs.kept fun k hk => hW.block k (by omega))
  have g1 := (hW.cell (p := ⟨b1, 0, none⟩) hl1).trans h1
  have g2 := (hW.cell (p := ⟨b2, 0, none⟩) hl2).trans h2
  have HJ := Aside0.mk hJ
  have HJX := Aside0.mk hJx
  have HY := Aside0.mk hY
  have HJ0 := Aside0.mk hJ0
  clear hs h1 h2 hJ hJx hY hJ0 hW
  have hn32 : l.length ≤ 32 := hbd.1
  have HBD := Aside0.mk hbd.2
  clear hbd
  obtain ⟨i0, hi, hz0, hz1, hz2⟩ := info_parts infoInt
  obtain ⟨full, hfull⟩ : ∃ full, (sv l).play lim lim (fun _ => 0) 0 = full := ⟨_, rfl⟩
  rw [hfull]
  rw [hfull] at HY
  have HF := Aside0.mk hfull
  clear hfull
  have hmk := fun W : World => run_make (P := Tryd.prog) W 47 3 i0 (.int .i64 0) Tryd.underlying47 hi hz0 .i64 .i64 (l.length : Int) (l.length : Int) (by omega) (Int.le_refl _) (by rw [hz2]; omega) (by omega)
  rw [hz1] at hmk
  simp only [Int.toNat_natCast, Nat.mul_one] at hmk
  clear hi hz0 hz1 hz2
  have ne1 : W.heap.size ≠ b1 := Nat.ne_of_gt (World.block_lt_of_cell? W ⟨b1, 0, none⟩ g1)
  have gA : ∀ o, (W.alloc o).cell? ⟨b1, 0, none⟩ = some (.slice A l.length c) := fun o => ((Below.refl W.heap.size W).alloc (Nat.le_refl _) o).cell (World.block_lt_of_cell? W ⟨b1, 0, none⟩ g1) |>.trans g1
  refine callsIn_of_wp Tryd.func74 rfl trivial ?_ rfl
  simp only [Tryd.ntmps74, List.size_toArray, List.length_cons, List.length_nil, Nat.reduceAdd, Nat.reduceSub, Array.replicate_succ, Array.replicate_zero, List.push_toArray, List.append_toArray, List.nil_append, List.cons_append]
  gi_upto_region 0 with (fail)
  gi_cut [4, 5] from 120 (fun v4 v5 W2 => ∃ br bn : Nat, v4 = .slice (some ⟨br, 0, none⟩) l.length l.length ∧ v5 = .slice (some ⟨bn, 0, none⟩) l.length l.length ∧ Two l0 br bn ∧ Aside0 (KD 2 (l0 + 1) W W2) ∧ Aside0 (RowAt 3 br l.length (fun _ => 0) W2) ∧ Aside0 (RowAt 3 bn l.length (fun _ => 0) W2))
  case first =>
    gi_region
    all_goals gi_wp2
    all_goals gi_meet
    · obtain ⟨q1, q2, q3⟩ := two_made (t := 3) (n := l.length) hsz
      exact ⟨l0 + 1, l0 + 1 + 1, rfl, rfl, .inl ⟨rfl, rfl⟩, ⟨q1⟩, ⟨q2⟩, ⟨q3⟩⟩
    · obtain ⟨q1, q2, q3⟩ := two_made (t := 3) (n := l.length) hsz
      exact ⟨l0 + 1 + 1, l0 + 1, rfl, rfl, .inr ⟨rfl, rfl⟩, ⟨q1⟩, ⟨q3⟩, ⟨q2⟩⟩
  case rest =>
    obtain ⟨br, bn, rfl, rfl, htw, HK, HRr, HRn⟩ := hcut
    obtain ⟨br1, br2, bn1, bn2, hne⟩ : l0 + 1 ≤ br ∧ br ≤ l0 + 2 ∧ l0 + 1 ≤ bn ∧ bn ≤ l0 + 2 ∧ br ≠ bn := by unfold Two at htw; omega
    have hws : l0 + 2 < wc.heap.size := by have := row_lt HRr.out; have := row_lt HRn.out; unfold Two at htw; omega
    have HS2 := Aside0.mk (HS.out.kept fun k hk => HK.out.block k (by omega))
    have HJ2 := Aside0.mk (HJ.out [] W wc HJ0.out HK.out)
    replace g1 := (HK.out.toBelow.cell (p := ⟨b1, 0, none⟩) (by omega : b1 < l0 + 1)).trans g1
    replace g2 := (HK.out.toBelow.cell (p := ⟨b2, 0, none⟩) (by omega : b2 < l0 + 1)).trans g2
    clear HS HJ0 HK hmk gA ne1 htw
    gi_wp2
    gi_loopw [21] (fun vi w2 => ∃ i : Nat, vi = .int .i64 (i : Nat) ∧ i ≤ l.length ∧ Aside0 (KD 2 (l0 + 1) wc w2) ∧ Aside0 (RowAt 3 br l.length (fun _ => 0) w2) ∧ Aside0 (RowAt 3 bn l.length (fun j => if j < i then (sv l).o j else 0) w2)) (fun vi _ => l.length - (intOf vi).toNat)
    case atStart => exact ⟨0, rfl, Nat.zero_le _, ⟨KD.refl _ _ _⟩, HRr, ⟨HRn.out.congr fun i hi => by simp⟩⟩
    case round =>
      obtain ⟨i, rfl, hi, HB, HR2, HN2⟩ := hrel
      by_cases hil : i < l.length
      · obtain ⟨ad, hA, hab, x0, x1, x2, x3⟩ := HS2.out i hil
        subst hA
        have hab' : (ad.add (i * 4)).block < l0 + 1 := by omega
        replace x0 := (HB.out.toBelow.cell hab').trans x0
        replace x1 := (HB.out.toBelow.cell (p := ⟨(ad.add (i * 4)).block, (ad.add (i * 4)).off + 1, none⟩) hab').trans x1
        replace x2 := (HB.out.toBelow.cell (p := ⟨(ad.add (i * 4)).block, (ad.add (i * 4)).off + 2, none⟩) hab').trans x2
        replace x3 := (HB.out.toBelow.cell (p := ⟨(ad.add (i * 4)).block, (ad.add (i * 4)).off + 3, none⟩) hab').trans x3
        have hwl2 : l0 + 2 < wr.heap.size := Nat.lt_of_lt_of_le hws HB.out.size
        have hii : (i : Int) < (l.length : Int) := by omega
        gi_upto_region 4 with (fail)
        obtain ⟨w', hw'⟩ : ∃ w', wr.alloc (.cells #[.int .i64 ((sv l).p i), .int .i64 ((sv l).b i), .int .i64 ((sv l).o i), .int .i64 ((sv l).pr i)] 24) = w' := ⟨_, rfl⟩
        rw [hw']
        have bs : w'.heap[wr.heap.size]? = some (.cells #[.int .i64 ((sv l).p i), .int .i64 ((sv l).b i), .int .i64 ((sv l).o i), .int .i64 ((sv l).pr i)] 24 (0, 0)) := by rw [← hw']; exact heap_alloc_new _ _
        have HB3 := Aside0.mk (show KD 2 (l0 + 1) wc w' by rw [← hw']; exact kd_alloc HB.out (by omega))
        have HR3 := Aside0.mk (show RowAt 3 br l.length (fun _ => 0) w' by rw [← hw']; exact HR2.out.alloc _)
        have HN3 := Aside0.mk (show RowAt 3 bn l.length (fun j => if j < i then (sv l).o j else 0) w' by rw [← hw']; exact HN2.out.alloc _)
        have s2 := blk_cell bs 2
        simp only [List.getElem?_toArray, List.getElem?_cons_zero, List.getElem?_cons_succ] at s2
        have nc := HN3.out.cell i hil
        have nf := HN3.out.frozen i
        clear bs hw' x0 x1 x2 x3 hab hab'
        gi_wp2
        go_roundw
        case rel => exact ⟨i + 1, by go_num, by omega, ⟨kd_put HB3.out bn1 bn2⟩, ⟨HR3.out.far _ _ hne⟩, ⟨(HN3.out.put i ((sv l).o i)).congr fun j hj => by
          by_cases e : j = i
          · subst e; simp
          · simp only [if_neg e]; by_cases d : j < i
            · rw [if_pos d, if_pos (by omega)]
            · rw [if_neg d, if_neg (by omega)]⟩⟩
        case measure => simp [intOf]; omega
      · obtain rfl : i = l.length := by omega
        have HR3 := HR2
        have HN3 := Aside0.mk (HN2.out.congr (r' := fun i => OccMath.nx ((sv l).o i) ((sv l).p i) 0) fun i hi => by simp only [if_pos hi]; rw [nx_zero])
        have HS3 := Aside0.mk (HS2.out.kept fun k hk => HB.out.block k (by omega))
        have HJ3 := Aside0.mk (HJ.out [] wc wr HJ2.out HB.out)
        replace g1 := (HB.out.toBelow.cell (p := ⟨b1, 0, none⟩) (by omega : b1 < l0 + 1)).trans g1
        replace g2 := (HB.out.toBelow.cell (p := ⟨b2, 0, none⟩) (by omega : b2 < l0 + 1)).trans g2
        replace hws : l0 + 2 < wr.heap.size := Nat.lt_of_lt_of_le hws HB.out.size
        clear HR2 HN2 HS2 HJ2 HB HRr HRn
        gi_wp2
        gi_loopw [8] (fun v wr => ∃ (k now : Nat) (r : Nat → Nat) (pre : List (Nat × Nat × Nat)), v = .int .i64 (now : Nat) ∧ now ≤ lim ∧ Aside0 (full = pre ++ (sv l).play lim k r now) ∧ Aside0 (lim ≤ now + k ∧ pre.length ≤ now) ∧ Aside0 (J pre wr) ∧ Aside0 (Srv n0 A l wr) ∧ Aside0 (RowAt 3 br l.length r wr) ∧ Aside0 (RowAt 3 bn l.length (fun i => OccMath.nx ((sv l).o i) ((sv l).p i) now) wr) ∧ Aside0 (∀ i, i < l.length → r i ≤ (sv l).b i) ∧
          l0 + 2 < wr.heap.size ∧ wr.cell? ⟨b1, 0, none⟩ = some (.slice A l.length c) ∧ wr.cell? ⟨b2, 0, none⟩ = some (.int .i64 (lim : Nat))) (fun v _ => lim - (intOf v).toNat)
        case atStart => exact ⟨lim, 0, fun _ => 0, [], rfl, Nat.zero_le _, ⟨HF.out.symm⟩, ⟨⟨by omega, Nat.le_refl _⟩⟩, HJ3, HS3, HR3, HN3, ⟨fun i _ => Nat.zero_le _⟩, hws, g1, g2⟩
        case round =>
          clear HR3 HN3 HS3 HJ3 g1 g2 hws HF
          obtain ⟨k, now, r, pre, rfl, hnow, HF, HK, HJc, HS, HR, HN, HRB, hws, g1, g2⟩ := hrel
          by_cases hlt : now < lim
          · obtain ⟨wo, rfl⟩ : ∃ wo, wo = wr := ⟨_, rfl⟩
            gi_wp2
            gi_loopw [9, 10, 38] (fun vu vw vi w2 => ∃ i : Nat, vi = .int .i64 (i : Nat) ∧ i ≤ l.length ∧ vu = .int .i64 ((sv l).until now lim i : Nat) ∧ vw = .int .i64 (OccMath.chosen (sv l).pr ((sv l).fill r now) i : Nat) ∧
              Aside0 (KD 2 (l0 + 1) wo w2) ∧ Aside0 (RowAt 3 br l.length (fun j => if j < i then (sv l).fill r now j else r j) w2) ∧ Aside0 (RowAt 3 bn l.length (nxs (sv l) now i) w2)) (fun _ _ vi _ => l.length - (intOf vi).toNat)
            case atStart => exact ⟨0, rfl, Nat.zero_le _, rfl, rfl, ⟨KD.refl _ _ _⟩, ⟨HR.out.congr fun i hi => by simp⟩, ⟨HN.out.congr fun i hi => by simp [nxs]⟩⟩
            case round =>
              obtain ⟨i, rfl, hi, rfl, rfl, HB, HR2, HN2⟩ := hrel
              by_cases hil : i < l.length
              · obtain ⟨ad, hA, hab, x0, x1, x2, x3⟩ := HS.out i hil
                subst hA
                have hab' : (ad.add (i * 4)).block < l0 + 1 := by omega
                replace x0 := (HB.out.toBelow.cell hab').trans x0
                replace x1 := (HB.out.toBelow.cell (p := ⟨(ad.add (i * 4)).block, (ad.add (i * 4)).off + 1, none⟩) hab').trans x1
                replace x2 := (HB.out.toBelow.cell (p := ⟨(ad.add (i * 4)).block, (ad.add (i * 4)).off + 2, none⟩) hab').trans x2
                replace x3 := (HB.out.toBelow.cell (p := ⟨(ad.add (i * 4)).block, (ad.add (i * 4)).off + 3, none⟩) hab').trans x3
                have HP := Aside0.mk (HBD.out i hil)
                obtain ⟨U, hU⟩ : ∃ U, (sv l).until now lim i = U := ⟨_, rfl⟩
                obtain ⟨C, hC⟩ : ∃ C, OccMath.chosen (sv l).pr ((sv l).fill r now) i = C := ⟨_, rfl⟩
                have hUb : U ≤ lim := by rw [← hU]; exact (sv l).until_le now lim i
                have hCb : C ≤ i := by rw [← hC]; exact OccMath.chosen_le _ _ _
                obtain ⟨X, hX⟩ : ∃ X, OccMath.nx ((sv l).o i) ((sv l).p i) now = X := ⟨_, rfl⟩
                obtain ⟨N, hN⟩ : ∃ N, (sv l).after i now = N := ⟨_, rfl⟩
                obtain ⟨F, hF⟩ : ∃ F, (sv l).fill r now i = F := ⟨_, rfl⟩
                have hXb : now ≤ X ∧ X ≤ 5242880 := by rw [← hX]; obtain ⟨q1, q2, q3, q4, q5, q6⟩ := HP.out; exact nx_bd _ _ _ q1 q2 q5 (by omega)
                obtain ⟨P, hP⟩ : ∃ P, (sv l).p i = P := ⟨_, rfl⟩
                obtain ⟨B, hB⟩ : ∃ B, (sv l).b i = B := ⟨_, rfl⟩
                obtain ⟨O, hO⟩ : ∃ O, (sv l).o i = O := ⟨_, rfl⟩
                obtain ⟨Q, hQ⟩ : ∃ Q, (sv l).pr i = Q := ⟨_, rfl⟩
                have hbd : 1 ≤ P ∧ P ≤ 1048576 ∧ 1 ≤ B ∧ B ≤ P ∧ Q < 256 := by rw [← hP, ← hB, ← hQ]; obtain ⟨q1, q2, q3, q4, q5, q6⟩ := HP.out; exact ⟨q1, q2, q3, q4, q6⟩
                have hNX : (X = now ∧ N = now + P ∧ F = B) ∨ (X ≠ now ∧ N = X ∧ F = r i) := by
                  have h1 := fill_at r HP.out.1 hX hB
                  rw [hF] at h1
                  by_cases e : X = now
                  · rw [if_pos e] at h1
                    exact .inl ⟨e, by rw [← hN]; unfold OccMath.Sv.after; rw [hX, if_pos e, hP], h1⟩
                  · rw [if_neg e] at h1
                    exact .inr ⟨e, by rw [← hN]; unfold OccMath.Sv.after; rw [hX, if_neg e], h1⟩
                have hNb : N ≤ 6291456 := by omega
                have HX := Aside0.mk hX
                have HU := Aside0.mk hU
                have HC := Aside0.mk hC
                have HNa := Aside0.mk hN
                have HFi := Aside0.mk hF
                rw [hU, hC]
                rw [hP] at x0; rw [hB] at x1; rw [hO] at x2; rw [hQ] at x3
                have HE := Aside0.mk (And.intro hP (And.intro hB (And.intro hO hQ)))
                obtain ⟨p1, p2, p3, p4, p5⟩ := hbd
                obtain ⟨X1, X2⟩ := hXb
                have hRi : r i ≤ B := by have := HRB.out i hil; rw [HE.out.2.1] at this; exact this
                have hFb : F ≤ 1048576 := by omega
                have HNX := Aside0.mk hNX
                clear hU hC hX hP hB hO hQ hN hF hNX
                have hwl2 : l0 + 2 < wr.heap.size := Nat.lt_of_lt_of_le hws HB.out.size
                have hii : (i : Int) < (l.length : Int) := by omega
                have y1 := (HB.out.toBelow.cell (p := ⟨b1, 0, none⟩) (by omega : b1 < l0 + 1)).trans g1
                gi_upto_region 12 with (fail)
                obtain ⟨w', hw'⟩ : ∃ w', wr.alloc (.cells #[.int .i64 (P : Nat), .int .i64 (B : Nat), .int .i64 (O : Nat), .int .i64 (Q : Nat)] 24) = w' := ⟨_, rfl⟩
                rw [hw']
                obtain ⟨g, hg⟩ : ∃ g, wr.heap.size = g := ⟨_, rfl⟩
                rw [hg] at hwl2 ⊢
                have bs : w'.heap[g]? = some (.cells #[.int .i64 (P : Nat), .int .i64 (B : Nat), .int .i64 (O : Nat), .int .i64 (Q : Nat)] 24 (0, 0)) := by rw [← hw', ← hg]; exact heap_alloc_new _ _
                have HB3 := Aside0.mk (show KD 2 (l0 + 1) wo w' by rw [← hw']; exact kd_alloc HB.out (by omega))
                have HR3 := Aside0.mk (show RowAt 3 br l.length (fun j => if j < i then (sv l).fill r now j else r j) w' by rw [← hw']; exact HR2.out.alloc _)
                have HN3 := Aside0.mk (show RowAt 3 bn l.length (nxs (sv l) now i) w' by rw [← hw']; exact HN2.out.alloc _)
                clear hw' x0 x1 x2 x3 hab hab' HB HR2 HN2 y1 hg
                have s0 := blk_cell bs 0
                have s1 := blk_cell bs 1
                simp only [List.getElem?_toArray, List.getElem?_cons_zero, List.getElem?_cons_succ] at s0 s1
                have nc := HN3.out.cell i hil
                rw [show nxs (sv l) now i i = X by unfold nxs; rw [if_neg (by omega), HX.out]] at nc
                have nf := HN3.out.frozen i
                have rc := HR3.out.cell i hil
                have rf := HR3.out.frozen i
                have BS := Aside0.mk bs
                clear bs
                gi_upto_if 48 with (fail)
                gi_cut [] from 120 (fun w3 => Aside0 (KD 2 (l0 + 1) wo w3) ∧ Aside0 (w3.heap[g]? = some (.cells #[.int .i64 (P : Nat), .int .i64 (B : Nat), .int .i64 (O : Nat), .int .i64 (Q : Nat)] 24 (0, 0))) ∧
                  Aside0 (RowAt 3 br l.length (fun j => if j < i + 1 then (sv l).fill r now j else r j) w3) ∧ Aside0 (RowAt 3 bn l.length (nxs (sv l) now (i + 1)) w3))
                case first =>
                  rcases HNX.out with ⟨e1, e2, e3⟩ | ⟨e1, e2, e3⟩
                  · have hne1 : ((X : Int) == (now : Int)) = true := by simp [e1]
                    have hne2 : ((X : Int) = (now : Int)) := by omega
                    gi_wp2
                    gi_region
                    all_goals gi_wp2
                    all_goals gi_meet
                    obtain ⟨q1, q2, q3, q4⟩ := puts (i := i) (a := B) (b := now + P) HB3.out HR3.out HN3.out BS.out hwl2 br1 br2 bn1 bn2 hne
                    rw [show ((now + P : Nat) : Int) = (now : Int) + (P : Int) by omega] at q1 q2 q3 q4
                    exact ⟨⟨q1⟩, ⟨q2⟩, ⟨q3.congr (fill_succ (HFi.out.trans e3))⟩, ⟨q4.congr (nxs_succ (HNa.out.trans e2))⟩⟩
                  · have hne1 : ((X : Int) == (now : Int)) = false := by rw [beq_eq_false_iff_ne]; omega
                    have hne2 : ¬ ((X : Int) = (now : Int)) := by omega
                    gi_wp2
                    gi_meet
                    exact ⟨HB3, BS, ⟨HR3.out.congr (fill_stay (HFi.out.trans e3))⟩, ⟨HN3.out.congr (nxs_stay HNa.out (HX.out.trans e2.symm))⟩⟩
                case rest =>
                  obtain ⟨HB4, BS4, HR4, HN4⟩ := hcut
                  clear HB3 BS HR3 HN3 nc nf rc rf s0 s1 HNX
                  have s3 := blk_cell BS4.out 3
                  simp only [List.getElem?_toArray, List.getElem?_cons_zero, List.getElem?_cons_succ] at s3
                  have rc := HR4.out.cell i hil
                  rw [if_pos (Nat.lt_succ_self i), HFi.out] at rc
                  have nc := HN4.out.cell i hil
                  rw [show nxs (sv l) now (i + 1) i = N by unfold nxs; rw [if_pos (by omega), HNa.out]] at nc
                  have y1 := (HB4.out.toBelow.cell (p := ⟨b1, 0, none⟩) (by omega : b1 < l0 + 1)).trans g1
                  by_cases hz : 0 < F
                  · have hpos : decide ((0 : Int) < (F : Int)) = true := decide_eq_true (by omega)
                    have hpos2 : decide (0 < F) = true := decide_eq_true (by omega)
                    cases C with
                    | zero =>
                      gi_wp2
                      gi_quiet (fail)
                      gi_wp2
                      go_roundw
                      case rel => exact ⟨i + 1, by go_num, by omega, by rw [until_next HU.out HNa.out, ← mnI_nat], by rw [chosen_step HC.out (D := i + 1) (by rw [HFi.out, if_pos ⟨by omega, .inl rfl⟩])]; rfl, ⟨kd_drewN HB4.out _⟩, ⟨HR4.out⟩, ⟨HN4.out⟩⟩
                      case measure => simp [intOf]; omega
                    | succ D =>
                      obtain ⟨ad', e', hab2, _, _, _, z3⟩ := HS.out D (by omega)
                      obtain rfl := Option.some.inj e'
                      replace z3 := (HB4.out.toBelow.cell (p := ⟨(ad.add (D * 4)).block, (ad.add (D * 4)).off + 3, none⟩) (by show (ad.add (D * 4)).block < l0 + 1; omega)).trans z3
                      obtain ⟨Q2, hQ2⟩ : ∃ Q2, (sv l).pr D = Q2 := ⟨_, rfl⟩
                      rw [hQ2] at z3
                      have HQ2 := Aside0.mk hQ2
                      clear hQ2 hab2 e'
                      have hd1 : ¬ (((D + 1 : Nat) : Int) = 0) := by omega
                      have hd2 : ((D : Int) + 1 == 0) = false := by rw [beq_eq_false_iff_ne]; omega
                      have hd3 : (D : Int) < (l.length : Int) := by omega
                      have hd4 : (0 : Int) ≤ (D : Int) := by omega
                      rw [show ((D + 1 : Nat) : Int) = (D : Int) + 1 from rfl]
                      by_cases hq : Q2 < Q
                      · have hq1 : decide (Q2 < Q) = true := decide_eq_true hq
                        have hq2 : decide ((Q2 : Int) < (Q : Int)) = true := decide_eq_true (by omega)
                        gi_wp2
                        gi_quiet (fail)
                        gi_wp2
                        go_roundw
                        case rel => exact ⟨i + 1, by go_num, by omega, by rw [until_next HU.out HNa.out, ← mnI_nat], by rw [chosen_step HC.out (D := i + 1) (by rw [HFi.out, Nat.add_sub_cancel, HQ2.out, HE.out.2.2.2, if_pos ⟨by omega, .inr hq⟩])]; rfl, ⟨kd_drewN HB4.out _⟩, ⟨HR4.out⟩, ⟨HN4.out⟩⟩
                        case measure => simp [intOf]; omega
                      · have hq1 : decide (Q2 < Q) = false := decide_eq_false hq
                        have hq2 : decide ((Q2 : Int) < (Q : Int)) = false := decide_eq_false (by omega)
                        gi_wp2
                        gi_quiet (fail)
                        gi_wp2
                        go_roundw
                        case rel => exact ⟨i + 1, by go_num, by omega, by rw [until_next HU.out HNa.out, ← mnI_nat], by rw [chosen_step HC.out (D := D + 1) (by rw [HFi.out, Nat.add_sub_cancel, HQ2.out, HE.out.2.2.2, if_neg (fun h => by omega)])]; rfl, ⟨kd_drewN HB4.out _⟩, ⟨HR4.out⟩, ⟨HN4.out⟩⟩
                        case measure => simp [intOf]; omega
                  · obtain rfl : F = 0 := by omega
                    gi_wp2
                    gi_quiet (fail)
                    gi_wp2
                    go_roundw
                    case rel => exact ⟨i + 1, by go_num, by omega, by rw [until_next HU.out HNa.out, ← mnI_nat], by rw [chosen_step HC.out (D := C) (by rw [HFi.out, if_neg (fun h => by omega)])], ⟨kd_drewN HB4.out _⟩, ⟨HR4.out⟩, ⟨HN4.out⟩⟩
                    case measure => simp [intOf]; omega
              · -- the inner loop's end
                obtain rfl : i = l.length := by omega
                obtain ⟨U, hU⟩ : ∃ U, (sv l).until now lim l.length = U := ⟨_, rfl⟩
                obtain ⟨C, hC⟩ : ∃ C, OccMath.chosen (sv l).pr ((sv l).fill r now) l.length = C := ⟨_, rfl⟩
                have hUb : U ≤ lim := by rw [← hU]; exact (sv l).until_le now lim _
                have hUg : now < U := by rw [← hU]; exact (sv l).until_gt now lim hlt _ fun i hi => (HBD.out i hi).1
                have HUa := Aside0.mk (show ∀ i, i < l.length → U ≤ (sv l).after i now from fun i hi => by rw [← hU]; exact (sv l).until_after now lim _ i hi)
                have hCb : C ≤ l.length := by rw [← hC]; exact OccMath.chosen_le _ _ _
                have HPos := Aside0.mk (fun h => OccMath.chosen_pos (sv l).pr ((sv l).fill r now) l.length h)
                have HR3 := Aside0.mk (HR2.out.congr (r' := (sv l).fill r now) fun j hj => by rw [if_pos hj])
                have HFB := Aside0.mk (show ∀ i, i < l.length → (sv l).fill r now i ≤ (sv l).b i from fun i hi => by unfold OccMath.Sv.fill; split; exact Nat.le_refl _; exact HRB.out i hi)
                have HJn := Aside0.mk (HJ.out pre _ wr HJc.out HB.out)
                have HSn := Aside0.mk (HS.out.kept fun k hk => HB.out.block k (by omega))
                have y1 := (HB.out.toBelow.cell (p := ⟨b1, 0, none⟩) (by omega : b1 < l0 + 1)).trans g1
                have y2 := (HB.out.toBelow.cell (p := ⟨b2, 0, none⟩) (by omega : b2 < l0 + 1)).trans g2
                have hws2 : l0 + 2 < wr.heap.size := Nat.lt_of_lt_of_le hws HB.out.size
                obtain ⟨kk, rfl⟩ : ∃ kk, k = kk + 1 := by
                  cases k with
                  | zero => have := HK.out.1; omega
                  | succ kk => exact ⟨kk, rfl⟩
                have HF2 := Aside0.mk (play_one (sv l) lim kk r now hlt hU hC)
                rw [hU, hC]
                rw [hC] at HPos
                clear hU hC HR HR2 HN HJc HS HRB g1 g2 hws
                cases C with
                | zero =>
                  have HF3 := Aside0.mk (HF2.out.1 rfl)
                  have HN3 := Aside0.mk (HN2.out.congr (nxs_end (fun i hi => (HBD.out i hi).1) hUg HUa.out))
                  clear HF2 HN2
                  obtain ⟨fn, tmps, assign, body, hy, hR⟩ := HY.out pre (now, U - now, 0) wr HJn.out ⟨_, by rw [HF.out, HF3.out]⟩ hws2
                  simp only [encSlot, show ((U - now : Nat) : Int) = (U : Int) - (now : Int) by omega, show ((0 : Nat) : Int) = 0 from rfl] at hy
                  gi_wp2
                  refine hR.mono ?_
                  rintro e W3 (⟨rfl, hJ3, hk3⟩ | ⟨rfl, hJx3⟩)
                  · obtain ⟨E1, E2, E3, e3, e4⟩ := round_kept2 HSn.out HR3.out HN3.out y1 y2 hb1 hb2 (by omega) (by omega) br1 br2 bn1 bn2 (by omega) hk3
                    have J3 := Aside0.mk hJ3
                    have hws3 : l0 + 2 < W3.heap.size := Nat.lt_of_lt_of_le hws2 hk3.1
                    clear hJ3 hk3 hR hy y1 y2
                    gi_wp2
                    go_roundw
                    case rel =>
                      refine ⟨kk, U, _, pre ++ [(now, U - now, 0)], rfl, hUb, ⟨by rw [HF.out, HF3.out, List.append_assoc]; rfl⟩, ⟨⟨by have := HK.out.1; omega, by have := HK.out.2; simp; omega⟩⟩, J3, E1, E2, E3, HFB, hws3, e3, e4⟩
                    case measure => simp [intOf]; omega
                  · gi_wp2
                    refine bodyPost_ret (results_none rfl _ _ _) rfl ?_
                    exact ⟨⟨_, rfl⟩, .inr ⟨_, ⟨_, by rw [HF.out, HF3.out, ← List.append_cons]⟩, hJx3⟩⟩
                | succ D =>
                  have hDl : D < l.length := by omega
                  have HF3 := Aside0.mk (HF2.out.2 D rfl)
                  obtain ⟨G, hG⟩ : ∃ G, (sv l).fill r now D = G := ⟨_, rfl⟩
                  have hGp : 0 < G := by rw [← hG]; exact HPos.out (Nat.succ_pos D)
                  have hGb : G ≤ 1048576 := by rw [← hG]; have h1 := HFB.out D hDl; obtain ⟨_, q2, _, q4, _⟩ := HBD.out D hDl; omega
                  have rc := HR3.out.cell D hDl
                  have fz := HR3.out.frozen D
                  rw [hG] at rc HF3
                  have HG := Aside0.mk hG
                  clear hG HF2 HPos
                  obtain ⟨E, hE⟩ : ∃ E, min U (now + G) = E := ⟨_, rfl⟩
                  have hEm : mnI (U : Int) ((now : Int) + (G : Int)) = (E : Int) := by rw [← hE]; exact mnI_nat U (now + G)
                  have HF4 := Aside0.mk (HF3.out E hE.symm)
                  have hEb : now < E ∧ E ≤ U ∧ E - now ≤ G := by omega
                  obtain ⟨hE1, hE2, hE3⟩ := hEb
                  have HN3 := Aside0.mk (HN2.out.congr (nxs_end (fun i hi => (HBD.out i hi).1) hE1 (fun i hi => Nat.le_trans hE2 (HUa.out i hi))))
                  have hd3 : (D : Int) < (l.length : Int) := by omega
                  have hd4 : (0 : Int) ≤ (D : Int) := by omega
                  clear HF3 hE HN2
                  rw [show ((D + 1 : Nat) : Int) = (D : Int) + 1 from rfl]
                  gi_wp2
                  obtain ⟨w3, hw3⟩ : ∃ w3, wr.setCell ⟨br, D, none⟩ (.int .i64 ((G : Int) - ((E : Int) - (now : Int)))) = w3 := ⟨_, rfl⟩
                  rw [hw3]
                  have hB3 : KD 2 (l0 + 1) wr w3 := by rw [← hw3]; exact kd_put (KD.refl _ _ _) br1 br2
                  have HR4 := Aside0.mk (show RowAt 3 br l.length (fun i => if i = D then G - (E - now) else (sv l).fill r now i) w3 by
                    have := HR3.out.put D (G - (E - now))
                    rw [show ((G - (E - now) : Nat) : Int) = (G : Int) - ((E : Int) - (now : Int)) by omega, hw3] at this; exact this)
                  have HN4 := Aside0.mk (show RowAt 3 bn l.length _ w3 by have := HN3.out.far (c := br) D (.int .i64 ((G : Int) - ((E : Int) - (now : Int)))) (Ne.symm hne); rw [hw3] at this; exact this)
                  have HJ4 := Aside0.mk (HJ.out pre _ w3 HJn.out hB3)
                  have HS4 := Aside0.mk (HSn.out.kept fun k hk => hB3.block k (by omega))
                  replace y1 := (hB3.toBelow.cell (p := ⟨b1, 0, none⟩) (by omega : b1 < l0 + 1)).trans y1
                  replace y2 := (hB3.toBelow.cell (p := ⟨b2, 0, none⟩) (by omega : b2 < l0 + 1)).trans y2
                  have hws3 : l0 + 2 < w3.heap.size := Nat.lt_of_lt_of_le hws2 hB3.size
                  clear hB3 hw3 HR3 HN3 HJn HSn rc fz
                  obtain ⟨fn, tmps, assign, body, hy, hR⟩ := HY.out pre (now, E - now, D + 1) w3 HJ4.out ⟨_, by rw [HF.out, HF4.out]⟩ hws3
                  simp only [encSlot, show ((E - now : Nat) : Int) = (E : Int) - (now : Int) by omega, show ((D + 1 : Nat) : Int) = (D : Int) + 1 from rfl] at hy
                  rw [hy]
                  gi_wp2
                  refine hR.mono ?_
                  rintro e W3 (⟨rfl, hJ3, hk3⟩ | ⟨rfl, hJx3⟩)
                  · obtain ⟨E1, E2, E3, e3, e4⟩ := round_kept2 HS4.out HR4.out HN4.out y1 y2 hb1 hb2 (by omega) (by omega) br1 br2 bn1 bn2 (by omega) hk3
                    have J3 := Aside0.mk hJ3
                    have hws4 : l0 + 2 < W3.heap.size := Nat.lt_of_lt_of_le hws3 hk3.1
                    clear hJ3 hk3 hR hy y1 y2
                    gi_wp2
                    go_roundw
                    case rel =>
                      refine ⟨kk, E, _, pre ++ [(now, E - now, D + 1)], rfl, by omega, ⟨by rw [HF.out, HF4.out, List.append_assoc]; rfl⟩, ⟨⟨by have := HK.out.1; omega, by have := HK.out.2; simp; omega⟩⟩, J3, E1, E2, E3, ⟨fun i hi => ?_⟩, hws4, e3, e4⟩
                      have h1 := HFB.out i hi
                      by_cases c : i = D
                      · subst c; rw [HG.out] at h1; simp only [if_true]; omega
                      · simp only [if_neg c]; exact h1
                    case measure => simp [intOf]; omega
                  · gi_wp2
                    refine bodyPost_ret (results_none rfl _ _ _) rfl ?_
                    exact ⟨⟨_, rfl⟩, .inr ⟨_, ⟨_, by rw [HF.out, HF4.out, ← List.append_cons]⟩, hJx3⟩⟩
          · have hl : (sv l).play lim k r now = [] := by
              cases k with
              | zero => rfl
              | succ k => unfold OccMath.Sv.play; rw [if_neg hlt]
            have HE := Aside0.mk (show pre = full by rw [HF.out, hl, List.append_nil])
            clear hl
            gi_wp2
            go_end0
            exact ⟨⟨_, rfl⟩, .inl ⟨pre, HE.out, HJc.out⟩⟩
end Go.Proofs.YtckdjcidbpnfeaaDoor.B
