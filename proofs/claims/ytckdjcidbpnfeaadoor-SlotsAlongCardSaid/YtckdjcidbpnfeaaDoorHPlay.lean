/- Proved: the contract of occ.play's iterator: what comes are the segments that OccMath's play makes; its rests lie in a block of its own. Conditions: the servers may be; the end is at most 2^22. -/
import Derived.Test.YtckdjcidbpnfeaaDoorHNext
import Derived.Test.YtckdjcidbpnfeaaDoorHRange
import Derived.RangeFuncBound
import Derived.RangeFuncCalls
import Derived.RangeFuncLeaves
import Derived.Shelf.Abstract
import Derived.Shelf.RegionOpen
import Derived.WalkKit
import Derived.OwnWalkIn
import Derived.TacticsInMore
import Derived.LoopNIn
import Derived.LoopIn
import Derived.Sort.QuietIn
namespace Go.Proofs.YtckdjcidbpnfeaaDoor.B
open Go.RowKit Go.Shelf Go.Proofs.YtckdjcidbpnfeaaDoorW.PrintWords Go.Proofs.YtckdjcidbpnfeaaDoorW.PrintLast Go.Proofs.YtckdjcidbpnfeaaDoorW.PrintMore
attribute [local go_sem] Oper.semAt_some min_two

/-- What a round keeps of the iterator's: all below n0, and what lies from m on up to the rests, but for the loop's record. -/
def PKp (n0 m : Nat) (l : Nat) (A B : World) : Prop := A.heap.size ≤ B.heap.size ∧ ∀ k, k < A.heap.size → (k < n0 ∨ (m ≤ k ∧ k ≤ l + 1 ∧ k ≠ l)) → B.heap[k]? = A.heap[k]?

def encSeg (x : Nat × Nat × Nat) : Array Value := #[.int .i64 (x.1 : Nat), .agg #[.int .i64 (x.2.1 : Nat), .int .i64 (x.2.2 : Nat)]]

/-- The lesser. -/
def mnI (x y : Int) : Int := if y < x then y else x
theorem mnI_nat (x y : Nat) : mnI (x : Int) (y : Int) = (min x y : Nat) := by unfold mnI; split <;> omega
theorem min2_mn (k k' : IntKind) (x y : Int) : Builtin.min2 (.int k x) (.int k' y) = pure (.int k (mnI x y)) := min2_int k k' x y
attribute [local go_sem] min2_mn

theorem row_put {l0 n b1 : Nat} {r : Nat → Nat} {wr0 w' w3 : World} {v : Value} {t u : TypeId} {cs : Array Value} {g i B : Nat} (HB : K1 (l0 + 1) wr0 w') (HR : RowAt t (l0 + 1) n r w') (h1 : wr0.cell? ⟨b1, 0, none⟩ = some v) (hl1 : b1 < l0 + 1)
    (hs : w'.heap[g]? = some (.cells cs u (0, 0))) (hg : l0 + 1 < g) (hw3 : w'.setCell ⟨l0 + 1, i, none⟩ (.int .i64 (B : Nat)) = w3) :
    w3.heap[g]? = some (.cells cs u (0, 0)) ∧ K1 (l0 + 1) wr0 w3 ∧ RowAt t (l0 + 1) n (fun j => if j = i then B else r j) w3 ∧ w3.cell? ⟨b1, 0, none⟩ = some v := by
  subst hw3
  have hB2 : K1 (l0 + 1) wr0 (w'.setCell ⟨l0 + 1, i, none⟩ (.int .i64 (B : Nat))) := HB.trans ⟨(Below.refl _ _).setCell (p := ⟨l0 + 1, i, none⟩) (Nat.le_refl _) _, fun k _ hk => Below.heap_setCell _ _ _ _ hk⟩
  exact ⟨blk_far hs (by simp; omega) _, hB2, HR.put i B, (hB2.toBelow.cell (p := ⟨b1, 0, none⟩) hl1).trans h1⟩

theorem after_next {l0 n b1 : Nat} {r : Nat → Nat} {wr0 wr w' : World} {v : Value} {t u : TypeId} {cs : Array Value} (HB : K1 (l0 + 1) wr0 wr) (HR : RowAt t (l0 + 1) n r wr) (h1 : wr0.cell? ⟨b1, 0, none⟩ = some v) (hl1 : b1 < l0 + 1)
    (hb : Below (wr.alloc (.cells cs u)).heap.size (wr.alloc (.cells cs u)) w') :
    w'.heap[wr.heap.size]? = some (.cells cs u (0, 0)) ∧ K1 (l0 + 1) wr0 w' ∧ RowAt t (l0 + 1) n r w' ∧ w'.cell? ⟨b1, 0, none⟩ = some v ∧ l0 + 1 < wr.heap.size := by
  have hlt : l0 + 1 < wr.heap.size := by obtain ⟨cs, h, _⟩ := HR; exact blk_lt h
  have hB1 : K1 (l0 + 1) wr0 (wr.alloc (.cells cs u)) := HB.trans (K1.of_below ((Below.refl _ _).alloc (Nat.le_refl _) _) (by omega))
  have hB2 : K1 (l0 + 1) wr0 w' := hB1.trans (K1.of_below hb (by simp; omega))
  refine ⟨(hb.block _ (by simp)).trans (heap_alloc_new _ _), hB2, (HR.alloc _).kept (hb.block _ (by simp; omega)), (hB2.toBelow.cell (p := ⟨b1, 0, none⟩) hl1).trans h1, hlt⟩

theorem until_step {S : OccMath.Sv} {now lim i U X P : Nat} (hU : S.until now lim i = U) (hX : OccMath.nx (S.o i) (S.p i) now = X) (hP : S.p i = P) : S.until now lim (i + 1) = min U (if X = now then now + P else X) := by
  show min (S.until now lim i) (S.after i now) = _
  unfold OccMath.Sv.after
  rw [hU, hX, hP]
theorem fill_at {S : OccMath.Sv} {now i X B : Nat} (r : Nat → Nat) (hp : 1 ≤ S.p i) (hX : OccMath.nx (S.o i) (S.p i) now = X) (hB : S.b i = B) : S.fill r now i = if X = now then B else r i := by
  unfold OccMath.Sv.fill
  rw [← hX, hB]
  by_cases c : S.rel i now
  · rw [if_pos c, if_pos ((S.nx_eq i now hp).2 c)]
  · rw [if_neg c, if_neg (fun e => c ((S.nx_eq i now hp).1 e))]
theorem fill_row {S : OccMath.Sv} {now i X B n : Nat} (r : Nat → Nat) (hp : 1 ≤ S.p i) (hX : OccMath.nx (S.o i) (S.p i) now = X) (hB : S.b i = B) {r1 : Nat → Nat}
    (h : (X = now ∧ r1 = fun j => if j = i then B else if j < i then S.fill r now j else r j) ∨ (X ≠ now ∧ r1 = fun j => if j < i then S.fill r now j else r j)) :
    ∀ j, j < n → r1 j = if j < i + 1 then S.fill r now j else r j := by
  intro j _
  have hf := fill_at r hp hX hB
  rcases h with ⟨e, rfl⟩ | ⟨e, rfl⟩
  · rw [if_pos e] at hf
    by_cases c : j = i
    · subst c; simp only [if_true]; rw [if_pos (by omega), hf]
    · simp only [if_neg c]
      by_cases d : j < i
      · rw [if_pos d, if_pos (by omega)]
      · rw [if_neg d, if_neg (by omega)]
  · rw [if_neg e] at hf
    by_cases c : j = i
    · subst c; simp only [Nat.lt_irrefl, if_false]; rw [if_pos (by omega), hf]
    · by_cases d : j < i
      · simp only [if_pos d]; rw [if_pos (by omega)]
      · simp only [if_neg d]; rw [if_neg (by omega)]
/-- One segment of play. -/
theorem play_one (S : OccMath.Sv) (lim k : Nat) (r : Nat → Nat) (now : Nat) (h : now < lim) {U C : Nat} (hU : S.until now lim S.n = U) (hC : OccMath.chosen S.pr (S.fill r now) S.n = C) :
    (C = 0 → S.play lim (k + 1) r now = (now, U - now, 0) :: S.play lim k (S.fill r now) U) ∧
    (∀ D, C = D + 1 → ∀ E, E = min U (now + S.fill r now D) → S.play lim (k + 1) r now = (now, E - now, D + 1) :: S.play lim k (fun i => if i = D then S.fill r now D - (E - now) else S.fill r now i) E) := by
  have e : S.play lim (k + 1) r now = if now < lim then (now, S.stop (S.fill r now) now lim - now, OccMath.chosen S.pr (S.fill r now) S.n) ::
        S.play lim k (fun i => S.fill r now i - (if OccMath.chosen S.pr (S.fill r now) S.n = i + 1 then S.stop (S.fill r now) now lim - now else 0)) (S.stop (S.fill r now) now lim) else [] := rfl
  rw [e, if_pos h, hC]
  unfold OccMath.Sv.stop
  rw [hC, hU]
  constructor
  · rintro rfl
    simp only [Nat.lt_irrefl, if_false]
    congr 2
  · rintro D rfl E rfl
    rw [if_pos (Nat.succ_pos D), Nat.add_sub_cancel]
    congr 2
    funext i
    by_cases c : i = D
    · subst c; rw [if_pos rfl, if_pos rfl]
    · rw [if_neg (by omega), if_neg c, Nat.sub_zero]

/-- What a round of the caller leaves as it was. -/
theorem round_kept {n0 m l0 n b1 b2 : Nat} {A : Option Addr} {l : List S24} {t : TypeId} {r : Nat → Nat} {w w' : World} {v1 v2 : Value} (hS : Srv n0 A l w) (hR : RowAt t (l0 + 1) n r w) (h1 : w.cell? ⟨b1, 0, none⟩ = some v1) (h2 : w.cell? ⟨b2, 0, none⟩ = some v2)
    (hb1 : m ≤ b1) (hb2 : m ≤ b2) (hl1 : b1 < l0) (hl2 : b2 < l0) (hn : n0 ≤ w.heap.size) (hk : PKp n0 m l0 w w') :
    Srv n0 A l w' ∧ RowAt t (l0 + 1) n r w' ∧ w'.cell? ⟨b1, 0, none⟩ = some v1 ∧ w'.cell? ⟨b2, 0, none⟩ = some v2 :=
  ⟨hS.kept fun k h => hk.2 k (by omega) (.inl h), hR.kept (hk.2 _ (by obtain ⟨cs, h, _⟩ := hR; exact blk_lt h) (.inr ⟨by omega, by omega, by omega⟩)),
    (World.cell?_of_block (w := w) (hk.2 b1 (World.block_lt_of_cell? w ⟨b1, 0, none⟩ h1) (.inr ⟨by omega, by omega, by omega⟩))).trans h1, (World.cell?_of_block (w := w) (hk.2 b2 (World.block_lt_of_cell? w ⟨b2, 0, none⟩ h2) (.inr ⟨by omega, by omega, by omega⟩))).trans h2⟩
theorem below_drewN_ {B : Nat} {w w' : World} (h : K1 B w w') (m : Nat) : K1 B w (w'.drewN m) := ⟨pw_below_drewN h.toBelow m, h.far⟩
theorem chosen_step {pr f : Nat → Nat} {i C D : Nat} (hC : OccMath.chosen pr f i = C) (h : D = if 0 < f i ∧ (C = 0 ∨ pr (C - 1) < pr i) then i + 1 else C) : OccMath.chosen pr f (i + 1) = D := by
  rw [h, ← hC]; rfl

set_option maxHeartbeats 4000000 in
set_option maxRecDepth 100000 in
theorem play1_is (n0 m b1 b2 : Nat) (A : Option Addr) (c : Nat) (l : List S24) (lim n : Nat) (hn : 1 ≤ n) (hbd : Bd (sv l)) (hlim : lim ≤ 4194304) (w : World) (hs : Srv n0 A l w) (hn0 : n0 ≤ w.heap.size)
    (h1 : w.cell? ⟨b1, 0, none⟩ = some (.slice A l.length c)) (h2 : w.cell? ⟨b2, 0, none⟩ = some (.int .i64 (lim : Nat))) (hb1 : m ≤ b1) (hb2 : m ≤ b2) (hl1 : b1 < w.heap.size) (hl2 : b2 < w.heap.size) :
    SeqCells Fence.wide n Tryd.prog 83 #[.pointer (some ⟨b1, 0, none⟩), .pointer (some ⟨b2, 0, none⟩)] encSeg (PKp n0 m)
      (fun xs => xs = (sv l).play lim lim (fun _ => 0) 0) (fun pre => ∃ rest, (sv l).play lim lim (fun _ => 0) 0 = pre ++ rest) (fun pre x => ∃ rest, (sv l).play lim lim (fun _ => 0) 0 = pre ++ x :: rest) w := fun l0 J Jx W hW hsz hwl hJ hJx hY hJ0 => by
  have HS := Aside0.mk (hs.kept fun k hk => hW.block k (by omega))
  have g1 := (hW.cell (p := ⟨b1, 0, none⟩) hl1).trans h1
  have g2 := (hW.cell (p := ⟨b2, 0, none⟩) hl2).trans h2
  have HJ := Aside0.mk hJ
  have HJX := Aside0.mk hJx
  have HY := Aside0.mk hY
  have HJ0 := Aside0.mk hJ0
  clear hs h1 h2 hJ hJx hY hJ0 hW
  have hn32 : l.length ≤ 32 := hbd.1
  have HBD := Aside0.mk hbd.2
  clear hbd
  obtain ⟨i0, hi, hz0, hz1, hz2⟩ := info_parts infoInt
  obtain ⟨full, hfull⟩ : ∃ full, (sv l).play lim lim (fun _ => 0) 0 = full := ⟨_, rfl⟩
  rw [hfull]
  rw [hfull] at HY
  have HF := Aside0.mk hfull
  clear hfull
  have hmk := run_make (P := Tryd.prog) W 47 3 i0 (.int .i64 0) Tryd.underlying47 hi hz0 .i64 .i64 (l.length : Int) (l.length : Int) (by omega) (Int.le_refl _) (by rw [hz2]; omega) (by omega)
  rw [hz1] at hmk
  simp only [Int.toNat_natCast, Nat.mul_one] at hmk
  obtain ⟨W2, hW2⟩ : ∃ W2, W.alloc (.cells (madeCells (Value.int .i64 0).cells l.length) 3) = W2 := ⟨_, rfl⟩
  rw [hW2] at hmk
  have HR0 := Aside0.mk (rowAt_made (t := 3) (n := l.length) hW2.symm)
  have hB2 : Below (l0 + 1) W W2 := by rw [← hW2, ← hsz]; exact (Below.refl _ _).alloc (Nat.le_refl _) _
  rw [hsz] at hmk HR0
  have g1' := (hB2.cell (p := ⟨b1, 0, none⟩) (by omega : b1 < l0 + 1)).trans g1
  have g2' := (hB2.cell (p := ⟨b2, 0, none⟩) (by omega : b2 < l0 + 1)).trans g2
  have HS2 := Aside0.mk (HS.out.kept fun k hk => hB2.block k (by omega))
  have HJ2 := Aside0.mk (HJ.out [] W W2 HJ0.out (by rw [← hW2, ← hsz]; exact K1.of_below ((Below.refl _ _).alloc (Nat.le_refl _) _) (Nat.le_refl _)))
  clear hW2 hi hz0 hz1 hz2
  refine callsIn_of_wp Tryd.func83 rfl trivial ?_ rfl
  simp only [Tryd.ntmps83, List.size_toArray, List.length_cons, List.length_nil, Nat.reduceAdd, Nat.reduceSub, Array.replicate_succ, Array.replicate_zero, List.push_toArray, List.append_toArray, List.nil_append, List.cons_append]
  gi_wp2
  gi_loopw [5] (fun v wr => ∃ (k now : Nat) (r : Nat → Nat) (pre : List (Nat × Nat × Nat)), v = .int .i64 (now : Nat) ∧ now ≤ lim ∧ Aside0 (full = pre ++ (sv l).play lim k r now) ∧ Aside0 (lim ≤ now + k ∧ pre.length ≤ now) ∧ Aside0 (J pre wr) ∧ Aside0 (Srv n0 A l wr) ∧ Aside0 (RowAt 3 (l0 + 1) l.length r wr) ∧ Aside0 (∀ i, i < l.length → r i ≤ (sv l).b i) ∧
    wr.cell? ⟨b1, 0, none⟩ = some (.slice A l.length c) ∧ wr.cell? ⟨b2, 0, none⟩ = some (.int .i64 (lim : Nat))) (fun v _ => lim - (intOf v).toNat)
  case atStart => exact ⟨lim, 0, fun _ => 0, [], rfl, Nat.zero_le _, ⟨HF.out.symm⟩, ⟨⟨by omega, Nat.le_refl _⟩⟩, HJ2, HS2, HR0, ⟨fun i _ => Nat.zero_le _⟩, g1', g2'⟩
  case round =>
    clear HS g1 g2 HJ0 HF hmk HR0 hB2 g1' g2' HS2 HJ2
    obtain ⟨k, now, r, pre, rfl, hnow, HF, HK, HJc, HS, HR, HRB, g1, g2⟩ := hrel
    by_cases hlt : now < lim
    · gi_wp2
      gi_loopw [6, 7, 21] (fun vu vw vi w2 => ∃ i : Nat, vi = .int .i64 (i : Nat) ∧ i ≤ l.length ∧ vu = .int .i64 ((sv l).until now lim i : Nat) ∧ vw = .int .i64 (OccMath.chosen (sv l).pr ((sv l).fill r now) i : Nat) ∧
        Aside0 (K1 (l0 + 1) wr w2) ∧ Aside0 (RowAt 3 (l0 + 1) l.length (fun j => if j < i then (sv l).fill r now j else r j) w2)) (fun _ _ vi _ => l.length - (intOf vi).toNat)
      case atStart => exact ⟨0, rfl, Nat.zero_le _, rfl, rfl, ⟨K1.refl _ _⟩, ⟨HR.out.congr fun i hi => by simp⟩⟩
      case round =>
        obtain ⟨i, rfl, hi, rfl, rfl, HB, HR2⟩ := hrel
        by_cases hil : i < l.length
        · obtain ⟨ad, hA, hab, x0, x1, x2, x3⟩ := HS.out i hil
          subst hA
          have hab' : (ad.add (i * 4)).block < l0 + 1 := by omega
          replace x0 := (HB.out.toBelow.cell hab').trans x0
          replace x1 := (HB.out.toBelow.cell (p := ⟨(ad.add (i * 4)).block, (ad.add (i * 4)).off + 1, none⟩) hab').trans x1
          replace x2 := (HB.out.toBelow.cell (p := ⟨(ad.add (i * 4)).block, (ad.add (i * 4)).off + 2, none⟩) hab').trans x2
          replace x3 := (HB.out.toBelow.cell (p := ⟨(ad.add (i * 4)).block, (ad.add (i * 4)).off + 3, none⟩) hab').trans x3
          have y1 := (HB.out.toBelow.cell (p := ⟨b1, 0, none⟩) (by omega : b1 < l0 + 1)).trans g1
          have HP := Aside0.mk (HBD.out i hil)
          obtain ⟨U, hU⟩ : ∃ U, (sv l).until now lim i = U := ⟨_, rfl⟩
          obtain ⟨C, hC⟩ : ∃ C, OccMath.chosen (sv l).pr ((sv l).fill r now) i = C := ⟨_, rfl⟩
          have hUb : U ≤ lim := by rw [← hU]; exact (sv l).until_le now lim i
          have hCb : C ≤ i := by rw [← hC]; exact OccMath.chosen_le _ _ _
          obtain ⟨X, hX⟩ : ∃ X, OccMath.nx ((sv l).o i) ((sv l).p i) now = X := ⟨_, rfl⟩
          have hXb : now ≤ X ∧ X ≤ 5242880 := by rw [← hX]; obtain ⟨q1, q2, q3, q4, q5, q6⟩ := HP.out; exact nx_bd _ _ _ q1 q2 q5 (by omega)
          have HN := Aside0.mk (fun w => NextAt_is ((sv l).o i) ((sv l).p i) now HP.out.1 HP.out.2.1 HP.out.2.2.2.2.1 (by omega) w)
          rw [hX] at HN
          have HX := Aside0.mk hX
          have HU := Aside0.mk hU
          have HC := Aside0.mk hC
          rw [hU, hC]
          obtain ⟨P, hP⟩ : ∃ P, (sv l).p i = P := ⟨_, rfl⟩
          obtain ⟨B, hB⟩ : ∃ B, (sv l).b i = B := ⟨_, rfl⟩
          obtain ⟨O, hO⟩ : ∃ O, (sv l).o i = O := ⟨_, rfl⟩
          obtain ⟨Q, hQ⟩ : ∃ Q, (sv l).pr i = Q := ⟨_, rfl⟩
          have hbd : 1 ≤ P ∧ P ≤ 1048576 ∧ 1 ≤ B ∧ B ≤ P ∧ Q < 256 := by rw [← hP, ← hB, ← hQ]; obtain ⟨q1, q2, q3, q4, q5, q6⟩ := HP.out; exact ⟨q1, q2, q3, q4, q6⟩
          rw [hP] at x0 HN; rw [hB] at x1; rw [hO] at x2 HN; rw [hQ] at x3
          have HE := Aside0.mk (And.intro hP (And.intro hB (And.intro hO hQ)))
          obtain ⟨p1, p2, p3, p4, p5⟩ := hbd
          obtain ⟨X1, X2⟩ := hXb
          clear hU hC hX hP hB hO hQ
          have hb1' : b1 < l0 + 1 := by omega
          by_cases rel : X = now
          · subst rel
            gi_wp2
            refine ⟨trivial, ?_⟩
            gi_at_call 84
            refine (callsIn_wide.2 (HN.out _)).mono ?_
            rintro e w' ⟨rfl, hb⟩
            obtain ⟨bs, hB', hR', y1', hlt'⟩ := after_next HB.out HR2.out g1 hb1' hb
            have s0 := blk_cell bs 0
            have s1 := blk_cell bs 1
            have rc := hR'.cell i hil
            have fz := hR'.frozen i
            simp only [List.getElem?_toArray, List.getElem?_cons_zero, List.getElem?_cons_succ, Nat.lt_irrefl, if_false] at s0 s1 rc
            have HB' := Aside0.mk hB'
            have HR' := Aside0.mk hR'
            have BS := Aside0.mk bs
            clear hb hB' hR' bs
            have hne1 : wr.heap.size ≠ l0 + 1 := by omega
            have hne2 : l0 + 1 ≠ wr.heap.size := by omega
            gi_wp2
            obtain ⟨w3, hw3⟩ : ∃ w3, w'.setCell ⟨l0 + 1, i, none⟩ (.int .i64 (B : Nat)) = w3 := ⟨_, rfl⟩
            obtain ⟨bs, hB', hR', y3⟩ := row_put HB'.out HR'.out g1 hb1' BS.out hlt' hw3
            rw [hw3]
            have rc3 := hR'.cell i hil
            simp only [if_true] at rc3
            have s3 := blk_cell bs 3
            simp only [List.getElem?_toArray, List.getElem?_cons_zero, List.getElem?_cons_succ] at s3
            have HB3 := Aside0.mk hB'
            have HR3 := Aside0.mk (hR'.congr (r' := fun j => if j < i + 1 then (sv l).fill r X j else r j) (fill_row r HP.out.1 HX.out HE.out.2.1 (.inl ⟨rfl, rfl⟩)))
            have hfi := Aside0.mk (show (sv l).fill r X i = B by rw [fill_at r HP.out.1 HX.out HE.out.2.1, if_pos rfl])
            clear hB' hR' bs hw3 rc fz s0 s1 hne1 hne2 y1'
            have hpos : decide ((0 : Int) < (B : Int)) = true := decide_eq_true (by omega)
            have hpos2 : decide (0 < B) = true := decide_eq_true (by omega)
            have hpos3 : 0 < B := by omega
            cases C with
            | zero =>
              gi_quiet (fail)
              gi_wp2
              go_roundw
              case rel => exact ⟨i + 1, by go_num, by omega, by rw [until_step HU.out HX.out HE.out.1, if_pos rfl, ← mnI_nat]; rfl, by rw [chosen_step HC.out (D := i + 1) (by rw [hfi.out, if_pos ⟨by omega, .inl rfl⟩])]; rfl, ⟨below_drewN_ HB3.out _⟩, ⟨HR3.out⟩⟩
              case measure => simp [intOf]; omega
            | succ D =>
              obtain ⟨ad', e', hab2, _, _, _, z3⟩ := HS.out D (by omega)
              obtain rfl := Option.some.inj e'
              replace z3 := (HB3.out.cell (p := ⟨(ad.add (D * 4)).block, (ad.add (D * 4)).off + 3, none⟩) (by show (ad.add (D * 4)).block < l0 + 1; omega)).trans z3
              obtain ⟨Q2, hQ2⟩ : ∃ Q2, (sv l).pr D = Q2 := ⟨_, rfl⟩
              rw [hQ2] at z3
              have HQ2 := Aside0.mk hQ2
              clear hQ2 hab2 e'
              have hd1 : ¬ (((D + 1 : Nat) : Int) = 0) := by omega
              have hd2 : ((D : Int) + 1 == 0) = false := by rw [beq_eq_false_iff_ne]; omega
              have hd3 : (D : Int) < (l.length : Int) := by omega
              have hd4 : (0 : Int) ≤ (D : Int) := by omega
              rw [show ((D + 1 : Nat) : Int) = (D : Int) + 1 from rfl]
              by_cases hq : Q2 < Q
              · have hq1 : decide (Q2 < Q) = true := decide_eq_true hq
                have hq2 : decide ((Q2 : Int) < (Q : Int)) = true := decide_eq_true (by omega)
                gi_quiet (fail)
                gi_wp2
                go_roundw
                case rel => exact ⟨i + 1, by go_num, by omega, by rw [until_step HU.out HX.out HE.out.1, if_pos rfl, ← mnI_nat]; rfl, by rw [chosen_step HC.out (D := i + 1) (by rw [hfi.out, Nat.add_sub_cancel, HQ2.out, HE.out.2.2.2, if_pos ⟨by omega, .inr hq⟩])]; rfl, ⟨below_drewN_ HB3.out _⟩, ⟨HR3.out⟩⟩
                case measure => simp [intOf]; omega
                
              · have hq1 : decide (Q2 < Q) = false := decide_eq_false hq
                have hq2 : decide ((Q2 : Int) < (Q : Int)) = false := decide_eq_false (by omega)
                gi_quiet (fail)
                gi_wp2
                go_roundw
                case rel => exact ⟨i + 1, by go_num, by omega, by rw [until_step HU.out HX.out HE.out.1, if_pos rfl, ← mnI_nat]; rfl, by rw [chosen_step HC.out (D := D + 1) (by rw [hfi.out, Nat.add_sub_cancel, HQ2.out, HE.out.2.2.2, if_neg (fun h => by omega)])]; rfl, ⟨below_drewN_ HB3.out _⟩, ⟨HR3.out⟩⟩
                case measure => simp [intOf]; omega
                
          · gi_wp2
            refine ⟨trivial, ?_⟩
            gi_at_call 84
            refine (callsIn_wide.2 (HN.out _)).mono ?_
            rintro e w' ⟨rfl, hb⟩
            obtain ⟨bs, hB', hR', y1', hlt'⟩ := after_next HB.out HR2.out g1 hb1' hb
            have s0 := blk_cell bs 0
            have s3 := blk_cell bs 3
            have rc3 := hR'.cell i hil
            simp only [List.getElem?_toArray, List.getElem?_cons_zero, List.getElem?_cons_succ, Nat.lt_irrefl, if_false] at s0 s3 rc3
            have y3 := y1'
            have HB3 := Aside0.mk hB'
            have HR3 := Aside0.mk (hR'.congr (r' := fun j => if j < i + 1 then (sv l).fill r now j else r j) (fill_row r HP.out.1 HX.out HE.out.2.1 (.inr ⟨rel, rfl⟩)))
            have hfi := Aside0.mk (show (sv l).fill r now i = r i by rw [fill_at r HP.out.1 HX.out HE.out.2.1, if_neg rel])
            clear hb hB' hR' bs y1'
            have hrel1 : ¬ ((X : Int) = (now : Int)) := by omega
            generalize hRI : r i = RI at rc3 hfi
            have HRI := Aside0.mk hRI
            clear hRI
            obtain ⟨w3, hw3⟩ : ∃ w3, w' = w3 := ⟨_, rfl⟩
            subst hw3
            gi_wp2
            
            by_cases hz : 0 < RI
            · have hpos : decide ((0 : Int) < (RI : Int)) = true := decide_eq_true (by omega)
              have hpos2 : decide (0 < RI) = true := decide_eq_true (by omega)
              
              cases C with
              | zero =>
                gi_quiet (fail)
                gi_wp2
                go_roundw
                case rel => exact ⟨i + 1, by go_num, by omega, by rw [until_step HU.out HX.out HE.out.1, if_neg rel, ← mnI_nat], by rw [chosen_step HC.out (D := i + 1) (by rw [hfi.out, if_pos ⟨by omega, .inl rfl⟩])]; rfl, ⟨below_drewN_ HB3.out _⟩, ⟨HR3.out⟩⟩
                case measure => simp [intOf]; omega
              | succ D =>
                obtain ⟨ad', e', hab2, _, _, _, z3⟩ := HS.out D (by omega)
                obtain rfl := Option.some.inj e'
                replace z3 := (HB3.out.cell (p := ⟨(ad.add (D * 4)).block, (ad.add (D * 4)).off + 3, none⟩) (by show (ad.add (D * 4)).block < l0 + 1; omega)).trans z3
                obtain ⟨Q2, hQ2⟩ : ∃ Q2, (sv l).pr D = Q2 := ⟨_, rfl⟩
                rw [hQ2] at z3
                have HQ2 := Aside0.mk hQ2
                clear hQ2 hab2 e'
                have hd1 : ¬ (((D + 1 : Nat) : Int) = 0) := by omega
                have hd2 : ((D : Int) + 1 == 0) = false := by rw [beq_eq_false_iff_ne]; omega
                have hd3 : (D : Int) < (l.length : Int) := by omega
                have hd4 : (0 : Int) ≤ (D : Int) := by omega
                rw [show ((D + 1 : Nat) : Int) = (D : Int) + 1 from rfl]
                by_cases hq : Q2 < Q
                · have hq1 : decide (Q2 < Q) = true := decide_eq_true hq
                  have hq2 : decide ((Q2 : Int) < (Q : Int)) = true := decide_eq_true (by omega)
                  gi_quiet (fail)
                  gi_wp2
                  go_roundw
                  case rel => exact ⟨i + 1, by go_num, by omega, by rw [until_step HU.out HX.out HE.out.1, if_neg rel, ← mnI_nat], by rw [chosen_step HC.out (D := i + 1) (by rw [hfi.out, Nat.add_sub_cancel, HQ2.out, HE.out.2.2.2, if_pos ⟨by omega, .inr hq⟩])]; rfl, ⟨below_drewN_ HB3.out _⟩, ⟨HR3.out⟩⟩
                  case measure => simp [intOf]; omega
                  
                · have hq1 : decide (Q2 < Q) = false := decide_eq_false hq
                  have hq2 : decide ((Q2 : Int) < (Q : Int)) = false := decide_eq_false (by omega)
                  gi_quiet (fail)
                  gi_wp2
                  go_roundw
                  case rel => exact ⟨i + 1, by go_num, by omega, by rw [until_step HU.out HX.out HE.out.1, if_neg rel, ← mnI_nat], by rw [chosen_step HC.out (D := D + 1) (by rw [hfi.out, Nat.add_sub_cancel, HQ2.out, HE.out.2.2.2, if_neg (fun h => by omega)])]; rfl, ⟨below_drewN_ HB3.out _⟩, ⟨HR3.out⟩⟩
                  case measure => simp [intOf]; omega
                  
            · obtain rfl : RI = 0 := by omega
              gi_quiet (fail)
              gi_wp2
              go_roundw
              case rel => exact ⟨i + 1, by go_num, by omega, by rw [until_step HU.out HX.out HE.out.1, if_neg rel, ← mnI_nat], by rw [chosen_step HC.out (D := C) (by rw [hfi.out, if_neg (fun h => by omega)])], ⟨below_drewN_ HB3.out _⟩, ⟨HR3.out⟩⟩
              case measure => simp [intOf]; omega
        · -- the inner loop's end
          obtain rfl : i = l.length := by omega
          obtain ⟨U, hU⟩ : ∃ U, (sv l).until now lim l.length = U := ⟨_, rfl⟩
          obtain ⟨C, hC⟩ : ∃ C, OccMath.chosen (sv l).pr ((sv l).fill r now) l.length = C := ⟨_, rfl⟩
          have hUb : U ≤ lim := by rw [← hU]; exact (sv l).until_le now lim _
          have hUg : now < U := by rw [← hU]; exact (sv l).until_gt now lim hlt _ fun i hi => (HBD.out i hi).1
          have hCb : C ≤ l.length := by rw [← hC]; exact OccMath.chosen_le _ _ _
          have HPos := Aside0.mk (fun h => OccMath.chosen_pos (sv l).pr ((sv l).fill r now) l.length h)
          have HR3 := Aside0.mk (HR2.out.congr (r' := (sv l).fill r now) fun j hj => by rw [if_pos hj])
          have HFB := Aside0.mk (show ∀ i, i < l.length → (sv l).fill r now i ≤ (sv l).b i from fun i hi => by unfold OccMath.Sv.fill; split; exact Nat.le_refl _; exact HRB.out i hi)
          have HJn := Aside0.mk (HJ.out pre _ wr HJc.out HB.out)
          have HSn := Aside0.mk (HS.out.kept fun k hk => HB.out.block k (by omega))
          have y1 := (HB.out.toBelow.cell (p := ⟨b1, 0, none⟩) (by omega : b1 < l0 + 1)).trans g1
          have y2 := (HB.out.toBelow.cell (p := ⟨b2, 0, none⟩) (by omega : b2 < l0 + 1)).trans g2
          obtain ⟨kk, rfl⟩ : ∃ kk, k = kk + 1 := by
            cases k with
            | zero => have := HK.out.1; omega
            | succ kk => exact ⟨kk, rfl⟩
          have HF2 := Aside0.mk (play_one (sv l) lim kk r now hlt hU hC)
          rw [hU, hC]
          rw [hC] at HPos
          clear hU hC HR HR2 HJc HS HRB g1 g2
          cases C with
          | zero =>
            have HF3 := Aside0.mk (HF2.out.1 rfl)
            clear HF2
            obtain ⟨fn, tmps, assign, body, hy, hR⟩ := HY.out pre (now, U - now, 0) wr HJn.out ⟨_, by rw [HF.out, HF3.out]⟩ (by obtain ⟨cs, h, _⟩ := HR3.out; exact blk_lt h)
            simp only [encSeg, show ((U - now : Nat) : Int) = (U : Int) - (now : Int) by omega, show ((0 : Nat) : Int) = 0 from rfl] at hy
            gi_wp2
            refine hR.mono ?_
            rintro e W3 (⟨rfl, hJ3, hk3⟩ | ⟨rfl, hJx3⟩)
            · obtain ⟨e1, e2, e3, e4⟩ := round_kept HSn.out HR3.out y1 y2 hb1 hb2 (by omega) (by omega) (by obtain ⟨cs, h, _⟩ := HR3.out; have := blk_lt h; omega) hk3
              have E1 := Aside0.mk e1
              have E2 := Aside0.mk e2
              have J3 := Aside0.mk hJ3
              clear e1 e2 hJ3 hk3 hR hy y1 y2
              gi_wp2
              go_roundw
              case rel =>
                refine ⟨kk, U, _, pre ++ [(now, U - now, 0)], rfl, hUb, ⟨by rw [HF.out, HF3.out, List.append_assoc]; rfl⟩, ⟨⟨by have := HK.out.1; omega, by have := HK.out.2; simp; omega⟩⟩, J3, E1, E2, HFB, e3, e4⟩
              case measure => simp [intOf]; omega
            · gi_wp2
              refine bodyPost_ret (results_none rfl _ _ _) rfl ?_
              exact ⟨⟨_, rfl⟩, .inr ⟨_, ⟨_, by rw [HF.out, HF3.out, ← List.append_cons]⟩, hJx3⟩⟩
          | succ D =>
            have hDl : D < l.length := by omega
            have HF3 := Aside0.mk (HF2.out.2 D rfl)
            obtain ⟨G, hG⟩ : ∃ G, (sv l).fill r now D = G := ⟨_, rfl⟩
            have hGp : 0 < G := by rw [← hG]; exact HPos.out (Nat.succ_pos D)
            have hGb : G ≤ 1048576 := by rw [← hG]; have h1 := HFB.out D hDl; obtain ⟨_, q2, _, q4, _⟩ := HBD.out D hDl; omega
            have rc := HR3.out.cell D hDl
            have fz := HR3.out.frozen D
            rw [hG] at rc HF3
            have HG := Aside0.mk hG
            clear hG HF2 HPos
            obtain ⟨E, hE⟩ : ∃ E, min U (now + G) = E := ⟨_, rfl⟩
            have hEm : mnI (U : Int) ((now : Int) + (G : Int)) = (E : Int) := by rw [← hE]; exact mnI_nat U (now + G)
            have HF4 := Aside0.mk (HF3.out E hE.symm)
            have hEb : now < E ∧ E ≤ U ∧ E - now ≤ G := by omega
            obtain ⟨hE1, hE2, hE3⟩ := hEb
            have hd3 : (D : Int) < (l.length : Int) := by omega
            have hd4 : (0 : Int) ≤ (D : Int) := by omega
            clear HF3 hE
            rw [show ((D + 1 : Nat) : Int) = (D : Int) + 1 from rfl]
            gi_wp2
            obtain ⟨w3, hw3⟩ : ∃ w3, wr.setCell ⟨l0 + 1, D, none⟩ (.int .i64 ((G : Int) - ((E : Int) - (now : Int)))) = w3 := ⟨_, rfl⟩
            rw [hw3]
            have hB3 : K1 (l0 + 1) wr w3 := by rw [← hw3]; exact ⟨(Below.refl _ _).setCell (p := ⟨l0 + 1, D, none⟩) (Nat.le_refl _) _, fun k _ hk => Below.heap_setCell _ _ _ _ hk⟩
            have HR4 := Aside0.mk (show RowAt 3 (l0 + 1) l.length (fun i => if i = D then G - (E - now) else (sv l).fill r now i) w3 by
              have := HR3.out.put D (G - (E - now))
              rw [show ((G - (E - now) : Nat) : Int) = (G : Int) - ((E : Int) - (now : Int)) by omega, hw3] at this; exact this)
            have HJ4 := Aside0.mk (HJ.out pre _ w3 HJn.out hB3)
            have HS4 := Aside0.mk (HSn.out.kept fun k hk => hB3.block k (by omega))
            replace y1 := (hB3.toBelow.cell (p := ⟨b1, 0, none⟩) (by omega : b1 < l0 + 1)).trans y1
            replace y2 := (hB3.toBelow.cell (p := ⟨b2, 0, none⟩) (by omega : b2 < l0 + 1)).trans y2
            clear hB3 hw3 HR3 HJn HSn rc fz
            obtain ⟨fn, tmps, assign, body, hy, hR⟩ := HY.out pre (now, E - now, D + 1) w3 HJ4.out ⟨_, by rw [HF.out, HF4.out]⟩ (by obtain ⟨cs, h, _⟩ := HR4.out; exact blk_lt h)
            simp only [encSeg, show ((E - now : Nat) : Int) = (E : Int) - (now : Int) by omega, show ((D + 1 : Nat) : Int) = (D : Int) + 1 from rfl] at hy
            rw [hy]
            gi_wp2
            refine hR.mono ?_
            rintro e W3 (⟨rfl, hJ3, hk3⟩ | ⟨rfl, hJx3⟩)
            · obtain ⟨e1, e2, e3, e4⟩ := round_kept HS4.out HR4.out y1 y2 hb1 hb2 (by omega) (by omega) (by obtain ⟨cs, h, _⟩ := HR4.out; have := blk_lt h; omega) hk3
              have E1 := Aside0.mk e1
              have E2 := Aside0.mk e2
              have J3 := Aside0.mk hJ3
              clear e1 e2 hJ3 hk3 hR hy y1 y2
              gi_wp2
              go_roundw
              case rel =>
                refine ⟨kk, E, _, pre ++ [(now, E - now, D + 1)], rfl, by omega, ⟨by rw [HF.out, HF4.out, List.append_assoc]; rfl⟩, ⟨⟨by have := HK.out.1; omega, by have := HK.out.2; simp; omega⟩⟩, J3, E1, E2, ⟨fun i hi => ?_⟩, e3, e4⟩
                have h1 := HFB.out i hi
                by_cases c : i = D
                · subst c; rw [HG.out] at h1; simp only [if_true]; omega
                · simp only [if_neg c]; exact h1
              case measure => simp [intOf]; omega
            · gi_wp2
              refine bodyPost_ret (results_none rfl _ _ _) rfl ?_
              exact ⟨⟨_, rfl⟩, .inr ⟨_, ⟨_, by rw [HF.out, HF4.out, ← List.append_cons]⟩, hJx3⟩⟩
    · have hl : (sv l).play lim k r now = [] := by
        cases k with
        | zero => rfl
        | succ k => unfold OccMath.Sv.play; rw [if_neg hlt]
      have HE := Aside0.mk (show pre = full by rw [HF.out, hl, List.append_nil])
      clear hl
      gi_wp2
      go_end0
      exact ⟨⟨_, rfl⟩, .inl ⟨pre, HE.out, HJc.out⟩⟩
end Go.Proofs.YtckdjcidbpnfeaaDoor.B
