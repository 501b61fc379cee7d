/- Proved: two Writers, two Outs and a shelf, all apart: what calls on them keep; the shelf's keep at any number of lists. Conditions: bounds of the lengths. the contract of the codec law's untold: the script once more on two Writers. Conditions: bounds of the lengths. the law CodecWrites: every call on a Writer, in every order. Conditions: bounds of the lengths. -/
import Derived.Test.YtceeoifbimlkdaaHListsW
import Derived.Test.YtceeoifbimlkdaaHStands
import Derived.Test.YtceeoifbimlkdaaHOpenOps
namespace Go.Proofs.Ytceeoifbimlkdaa.B
open Go.RowKit Go.Proofs.YtceeoifbimlkdaaW.PrintWords Go.Proofs.YtceeoifbimlkdaaW.PrintLast Go.Proofs.YtceeoifbimlkdaaW.PrintMore

/-- What a Writer and an Out lead to. -/
def PFoot (g : Nat) (v : Value) (q : Nat) (u : Value) (b : Nat) : Prop := b = g ∨ b = q ∨ v.ownBlock = some b ∨ u.ownBlock = some b
section
variable {w w' : World} {base g q : Nat} {v v' u u' : Value} {s s' t : List Int × Int}
theorem WO.foot_lt (h : WO w base g v s q u t) (b : Nat) (hf : PFoot g v q u b) : base ≤ b ∧ b < w.heap.size := by
  rcases hf with rfl | rfl | hf | hf
  · exact ⟨h.wr.low, blk_lt h.wr.blk⟩
  · exact ⟨h.ou.low, blk_lt h.ou.blk⟩
  · exact row_lt h.wr.row hf
  · exact row_lt h.ou.row hf
theorem WO.move (h : WO w base g v s q u t) (hm : ∀ b, PFoot g v q u b → w'.heap[b]? = w.heap[b]?) : WO w' base g v s q u t :=
  ⟨⟨h.wr.low, (hm g (.inl rfl)).trans h.wr.blk, row_kept h.wr.row fun k e => hm k (.inr (.inr (.inl e)))⟩, ⟨h.ou.low, (hm q (.inr (.inl rfl))).trans h.ou.blk, row_kept h.ou.row fun k e => hm k (.inr (.inr (.inr e)))⟩, h.ne⟩
theorem PK.foot (h : PK w w' g v v' q u u') (b : Nat) (hf : PFoot g v' q u' b) : PFoot g v q u b ∨ w.heap.size ≤ b := by
  rcases hf with rfl | rfl | hf | hf
  · exact .inl (.inl rfl)
  · exact .inl (.inr (.inl rfl))
  · rcases h.own with e | ⟨k, e, hk⟩
    · exact .inl (.inr (.inr (.inl (by rw [← e, hf]))))
    · rw [hf] at e; cases e; exact .inr hk
  · rcases h.own2 with e | ⟨k, e, hk⟩
    · exact .inl (.inr (.inr (.inr (by rw [← e, hf]))))
    · rw [hf] at e; cases e; exact .inr hk
theorem PK.out (h : PK w w' g v v' q u u') (b : Nat) (hb : b < w.heap.size) (hf : ¬ PFoot g v q u b) : w'.heap[b]? = w.heap[b]? :=
  h.block b hb (fun e => hf (.inl e)) (fun e => hf (.inr (.inr (.inl e.symm)))) (fun e => hf (.inr (.inl e))) (fun e => hf (.inr (.inr (.inr e.symm))))
end
structure UnAt (W0 w : World) (g : Nat) (v : Value) (q : Nat) (u : Value) (s : List Int × Int) (g2 : Nat) (v2 : Value) (q2 : Nat) (u2 : Value) (s2 : List Int × Int) (G : Nat) (AB : Option Addr) (cB : Nat) (AH : Option Addr) (cH N : Nat) (bs hs : Nat → Sl) (fb fh : Nat → List Int) (t : Sl) (ts : List Int) : Prop where
  p1 : WO w W0.heap.size g v s q u s
  p2 : WO w W0.heap.size g2 v2 s2 q2 u2 s2
  sh : ShAt w W0.heap.size G AB cB AH cH N N bs hs fb fh
  tt : Own .u8 5 w W0.heap.size t ts
  a12 : ∀ b, PFoot g v q u b → ¬ PFoot g2 v2 q2 u2 b
  a1 : ∀ b, PFoot g v q u b → ¬ ShFoot G AB cB AH cH N N bs hs b
  a2 : ∀ b, PFoot g2 v2 q2 u2 b → ¬ ShFoot G AB cB AH cH N N bs hs b
  atf : ∀ b, t.v.ownBlock = some b → ¬ PFoot g v q u b ∧ ¬ PFoot g2 v2 q2 u2 b ∧ ¬ ShFoot G AB cB AH cH N N bs hs b
  eq : ∀ i, i < N → fb i = fh i ∧ (fb i).length ≤ 4398046511104
  hN : N ≤ 400
  bel : Below W0.heap.size W0 w
section
variable {W0 w w' : World} {g q g2 q2 G : Nat} {v v' u u' v2 u2 : Value} {s s' s2 : List Int × Int} {AB : Option Addr} {cB : Nat} {AH : Option Addr} {cH N : Nat} {bs hs : Nat → Sl} {fb fh : Nat → List Int} {t : Sl} {ts : List Int}
theorem UnAt.below (k : UnAt W0 w g v q u s g2 v2 q2 u2 s2 G AB cB AH cH N bs hs fb fh t ts) (hb : Below w.heap.size w w') : UnAt W0 w' g v q u s g2 v2 q2 u2 s2 G AB cB AH cH N bs hs fb fh t ts :=
  ⟨k.p1.below hb, k.p2.below hb, k.sh.below hb, k.tt.below hb, k.a12, k.a1, k.a2, k.atf, k.eq, k.hN, k.bel.trans (hb.mono k.bel.size)⟩
theorem UnAt.swap (k : UnAt W0 w g v q u s g2 v2 q2 u2 s2 G AB cB AH cH N bs hs fb fh t ts) : UnAt W0 w g2 v2 q2 u2 s2 g v q u s G AB cB AH cH N bs hs fb fh t ts :=
  ⟨k.p2, k.p1, k.sh, k.tt, fun b h1 h2 => k.a12 b h2 h1, k.a2, k.a1, fun b hb => ⟨(k.atf b hb).2.1, (k.atf b hb).1, (k.atf b hb).2.2⟩, k.eq, k.hN, k.bel⟩
theorem UnAt.forget (k : UnAt W0 w g v q u s g2 v2 q2 u2 s2 G AB cB AH cH N bs hs fb fh t ts) : UnAt W0 w g v q u s g2 v2 q2 u2 s2 G AB cB AH cH N bs hs fb fh ⟨none, 0, 0⟩ [] :=
  ⟨k.p1, k.p2, k.sh, Own.nil, k.a12, k.a1, k.a2, fun b hb => (by cases hb), k.eq, k.hN, k.bel⟩
theorem UnAt.put1 (k : UnAt W0 w g v q u s g2 v2 q2 u2 s2 G AB cB AH cH N bs hs fb fh t ts) (hw : WO w' W0.heap.size g v' s' q u' s') (hp : PK w w' g v v' q u u') : UnAt W0 w' g v' q u' s' g2 v2 q2 u2 s2 G AB cB AH cH N bs hs fb fh t ts := by
  refine ⟨hw, k.p2.move fun b hb => hp.out b (k.p2.foot_lt b hb).2 (fun h => k.a12 b h hb), k.sh.move fun b hb => hp.out b (k.sh.foot_lt b hb).2 (fun h => k.a1 b h hb), k.tt.move fun b hb => hp.out b (k.tt.lt b hb).2 (k.atf b hb).1, ?_, ?_, k.a2, ?_, k.eq, k.hN, k.bel.trans (hp.bel k.p1 k.bel.size)⟩
  · intro b h1 h2
    rcases hp.foot b h1 with h | h
    · exact k.a12 b h h2
    · have := (k.p2.foot_lt b h2).2; omega
  · intro b h1 h2
    rcases hp.foot b h1 with h | h
    · exact k.a1 b h h2
    · have := (k.sh.foot_lt b h2).2; omega
  · intro b hb
    refine ⟨fun h1 => ?_, (k.atf b hb).2⟩
    rcases hp.foot b h1 with h | h
    · exact (k.atf b hb).1 h
    · have := (k.tt.lt b hb).2; omega
/-- A loose row is laid beside. -/
theorem UnAt.setT (k : UnAt W0 w g v q u s g2 v2 q2 u2 s2 G AB cB AH cH N bs hs fb fh t ts) {x : Sl} {xs : List Int} (hx : Own .u8 5 w W0.heap.size x xs) (hf : ∀ b, x.v.ownBlock = some b → ¬ PFoot g v q u b ∧ ¬ PFoot g2 v2 q2 u2 b ∧ ¬ ShFoot G AB cB AH cH N N bs hs b) : UnAt W0 w g v q u s g2 v2 q2 u2 s2 G AB cB AH cH N bs hs fb fh x xs :=
  ⟨k.p1, k.p2, k.sh, hx, k.a12, k.a1, k.a2, hf, k.eq, k.hN, k.bel⟩
/-- New memory is apart. -/
theorem UnAt.new (k : UnAt W0 w g v q u s g2 v2 q2 u2 s2 G AB cB AH cH N bs hs fb fh t ts) (b : Nat) (hb : w.heap.size ≤ b) : ¬ PFoot g v q u b ∧ ¬ PFoot g2 v2 q2 u2 b ∧ ¬ ShFoot G AB cB AH cH N N bs hs b :=
  ⟨fun h => by have := (k.p1.foot_lt b h).2; omega, fun h => by have := (k.p2.foot_lt b h).2; omega, fun h => by have := (k.sh.foot_lt b h).2; omega⟩
end
set_option maxHeartbeats 4000000 in
set_option maxRecDepth 100000 in
/-- keep, of a shelf of 400 lists. -/
theorem keep_full (W : World) (base g : Nat) (AB : Option Addr) (cB : Nat) (AH : Option Addr) (cH N : Nat) (bs hs : Nat → Sl) (fb fh : Nat → List Int) (k : ShAt W base g AB cB AH cH N N bs hs fb fh) (hN : ¬ N < 400) (x y : Value) :
    Calls Try.prog 69 #[.pointer (some ⟨g, 0, none⟩), x, y] W fun e w' => e = .returned (.tuple #[]) ∧ W = w' := by
  have hu91 := Try.underlying91
  have c0 := k.c0
  have hN1 : ¬ ((N : Int) < 400) := by omega
  clear k hN
  go_enter Try.func69, Try.ntmps69
  go_wp2
  go_end0
  exact ⟨rfl, rfl⟩
/-- What keep leaves. -/
def UPost (W0 : World) (g : Nat) (v : Value) (q : Nat) (u : Value) (s : List Int × Int) (g2 : Nat) (v2 : Value) (q2 : Nat) (u2 : Value) (s2 : List Int × Int) (G : Nat) (t : Sl) (ts : List Int) (e : Ending) (w' : World) : Prop :=
  e = .returned (.tuple #[]) ∧ ∃ AB cB AH cH N bs hs fb fh, UnAt W0 w' g v q u s g2 v2 q2 u2 s2 G AB cB AH cH N bs hs fb fh t ts
theorem un_keep {W0 w : World} {g q g2 q2 G : Nat} {v u v2 u2 : Value} {s s2 : List Int × Int} {AB : Option Addr} {cB : Nat} {AH : Option Addr} {cH N : Nat} {bs hs : Nat → Sl} {fb fh : Nat → List Int} {t : Sl} {ts : List Int} (k : UnAt W0 w g v q u s g2 v2 q2 u2 s2 G AB cB AH cH N bs hs fb fh t ts)
    (lA : Option Addr) (ln lc : Nat) (xs : List Int) (hl : Own .u8 5 w W0.heap.size ⟨lA, ln, lc⟩ xs) (hf : ∀ b, (Value.slice lA ln lc).ownBlock = some b → ¬ PFoot g v q u b ∧ ¬ PFoot g2 v2 q2 u2 b ∧ ¬ ShFoot G AB cB AH cH N N bs hs b) (hft : ∀ b, (Value.slice lA ln lc).ownBlock = some b → t.v.ownBlock ≠ some b)
    (B : Option Addr) (n d : Nat) (hy : Kd.C (Kd.int .u8) w B n xs) (hlen : xs.length ≤ 4398046511104) :
    Calls Try.prog 69 #[.pointer (some ⟨G, 0, none⟩), .slice lA ln lc, .slice B n d] w (UPost W0 g v q u s g2 v2 q2 u2 s2 G t ts) := by
  by_cases hN : N < 400
  · refine (keep_is w W0.heap.size G AB cB AH cH N bs hs fb fh k.sh hN ⟨lA, ln, lc⟩ xs hl (fun b hb => (hf b hb).2.2) B n d xs hy hlen).mono ?_
    rintro e w' ⟨rfl, AB', cB', AH', cH', w0, hsh, hbel, hpr, hw0, hB', hH'⟩
    have out : ∀ b, b < w.heap.size → ¬ ShFoot G AB cB AH cH N N bs hs b → w'.heap[b]? = w.heap[b]? := fun b hb hn => hpr b hb (fun e => hn (.inl e)) (fun e => hn (.inr (.inl e))) (fun e => hn (.inr (.inr (.inl e))))
    have foot : ∀ b, ShFoot G AB' cB' AH' cH' (N + 1) (N + 1) (fun i => if i = N then ⟨lA, ln, lc⟩ else bs i) (fun i => if i = N then w0 else hs i) b → ShFoot G AB cB AH cH N N bs hs b ∨ (Value.slice lA ln lc).ownBlock = some b ∨ w.heap.size ≤ b := by
      intro b h
      rcases h with h | h | h | ⟨i, hi, h⟩ | ⟨i, hi, h⟩
      · exact .inl (.inl h)
      · rcases hB' b h with h2 | h2
        · exact .inl (.inr (.inl h2))
        · exact .inr (.inr h2)
      · rcases hH' b h with h2 | h2
        · exact .inl (.inr (.inr (.inl h2)))
        · exact .inr (.inr h2)
      · by_cases e : i = N
        · simp only [if_pos e] at h
          exact .inr (.inl h)
        · simp only [if_neg e] at h
          exact .inl (.inr (.inr (.inr (.inl ⟨i, by omega, h⟩))))
      · by_cases e : i = N
        · simp only [if_pos e] at h
          exact .inr (.inr (hw0 b h))
        · simp only [if_neg e] at h
          exact .inl (.inr (.inr (.inr (.inr ⟨i, by omega, h⟩))))
    refine ⟨rfl, AB', cB', AH', cH', N + 1, _, _, _, _, k.p1.move fun b hb => out b (k.p1.foot_lt b hb).2 (k.a1 b hb), k.p2.move fun b hb => out b (k.p2.foot_lt b hb).2 (k.a2 b hb), hsh, k.tt.move fun b hb => out b (k.tt.lt b hb).2 (k.atf b hb).2.2, k.a12, ?_, ?_, ?_, ?_, by omega, k.bel.trans hbel⟩
    · intro b hb h
      rcases foot b h with h | h | h
      · exact k.a1 b hb h
      · exact (hf b h).1 hb
      · have := (k.p1.foot_lt b hb).2; omega
    · intro b hb h
      rcases foot b h with h | h | h
      · exact k.a2 b hb h
      · exact (hf b h).2.1 hb
      · have := (k.p2.foot_lt b hb).2; omega
    · intro b hb
      refine ⟨(k.atf b hb).1, (k.atf b hb).2.1, fun h => ?_⟩
      rcases foot b h with h | h | h
      · exact (k.atf b hb).2.2 h
      · exact hft b h hb
      · have := (k.tt.lt b hb).2; omega
    · intro i hi
      show (if i = N then xs else fb i) = (if i = N then xs else fh i) ∧ (if i = N then xs else fb i).length ≤ _
      by_cases e : i = N
      · rw [if_pos e, if_pos e]; exact ⟨rfl, hlen⟩
      · rw [if_neg e, if_neg e]; exact k.eq i (by omega)
  · refine (keep_full w W0.heap.size G AB cB AH cH N bs hs fb fh k.sh hN _ _).mono ?_
    rintro e w' ⟨rfl, rfl⟩
    exact ⟨rfl, AB, cB, AH, cH, N, bs, hs, fb, fh, k⟩
theorem done_reads2 {W : World} {base q : Nat} {u : Value} {s : List Int × Int} (h : OutAt W base q u s.1 s.2) {B : Option Addr} {m d : Nat} (e : (if s.2 = 0 then u else .slice none 0 0) = .slice B m d) : Kd.C (Kd.int .u8) W B m (if s.2 = 0 then s.1 else []) := by
  obtain ⟨B', m', d', e', _, h'⟩ := done_reads h
  rw [e] at e'
  cases e'
  exact h'


/-- Two Writers, two Outs and a shelf, with the states' bound. -/
def UnI (W0 : World) (g q g2 q2 G : Nat) (v u v2 u2 : Value) (s : List Int × Int) (m : Nat) (w : World) : Prop :=
  s.1.length ≤ m * 2097160 ∧ ∃ AB cB AH cH N bs hs fb fh, UnAt W0 w g v q u s g2 v2 q2 u2 s G AB cB AH cH N bs hs fb fh ⟨none, 0, 0⟩ []
theorem UnI.bel {W0 w : World} {g q g2 q2 G : Nat} {v u v2 u2 : Value} {s : List Int × Int} {m : Nat} (h : UnI W0 g q g2 q2 G v u v2 u2 s m w) : Below W0.heap.size W0 w := by
  obtain ⟨-, AB, cB, AH, cH, N, bs, hs, fb, fh, k⟩ := h
  exact k.bel
theorem UnI.below {W0 w w' : World} {g q g2 q2 G : Nat} {v u v2 u2 : Value} {s : List Int × Int} {m : Nat} (h : UnI W0 g q g2 q2 G v u v2 u2 s m w) (hb : Below w.heap.size w w') : UnI W0 g q g2 q2 G v u v2 u2 s m w' := by
  obtain ⟨h1, AB, cB, AH, cH, N, bs, hs, fb, fh, k⟩ := h
  exact ⟨h1, AB, cB, AH, cH, N, bs, hs, fb, fh, k.below hb⟩
theorem UnI.step {W0 w : World} {g q g2 q2 G : Nat} {v u v2 u2 : Value} {s : List Int × Int} {m : Nat} (h : UnI W0 g q g2 q2 G v u v2 u2 s m w) : UnI W0 g q g2 q2 G v u v2 u2 s (m + 1) w := by
  obtain ⟨h1, h2⟩ := h
  exact ⟨Nat.le_trans h1 (Nat.mul_le_mul_right _ (Nat.le_succ m)), h2⟩
theorem UnI.start {W w1 w2 w5 : World} (h1 : WrAt w1 W.heap.size W.heap.size (.slice none 0 0) [] 0) (b1 : Below W.heap.size W w1) (h2 : WrAt w2 w1.heap.size w1.heap.size (.slice none 0 0) [] 0) (b2 : Below w1.heap.size w1 w2)
    (e : ((w2.alloc (.cells #[.slice none 0 0, .int .i64 0] 53)).alloc (.cells #[.slice none 0 0, .int .i64 0] 53)).alloc (.cells #[.slice none 0 0, .slice none 0 0, .slice none 0 0, .slice none 0 0] 91) = w5) :
    UnI W W.heap.size w2.heap.size w1.heap.size (w2.heap.size + 1) (w2.heap.size + 1 + 1) (.slice none 0 0) (.slice none 0 0) (.slice none 0 0) (.slice none 0 0) ([], 0) 0 w5 := by
  have z1 := blk_lt h1.blk
  have z2 := blk_lt h2.blk
  have z0 := b1.size
  obtain ⟨w3, e3⟩ : ∃ w3, w2.alloc (.cells #[.slice none 0 0, .int .i64 0] 53) = w3 := ⟨_, rfl⟩
  obtain ⟨w4, e4⟩ : ∃ w4, w3.alloc (.cells #[.slice none 0 0, .int .i64 0] 53) = w4 := ⟨_, rfl⟩
  rw [e3, e4] at e
  have s3 : w3.heap.size = w2.heap.size + 1 := by rw [← e3]; simp
  have s4 : w4.heap.size = w2.heap.size + 1 + 1 := by rw [← e4]; simp [s3]
  have b3 : Below w2.heap.size w2 w3 := by rw [← e3]; exact (Below.refl _ _).alloc (Nat.le_refl _) _
  have b4 : Below w3.heap.size w3 w4 := by rw [← e4]; exact (Below.refl _ _).alloc (Nat.le_refl _) _
  have b5 : Below w4.heap.size w4 w5 := by rw [← e]; exact (Below.refl _ _).alloc (Nat.le_refl _) _
  have k3 : w3.heap[w2.heap.size]? = some (.cells #[.slice none 0 0, .int .i64 0] 53 (0, 0)) := by rw [← e3]; exact heap_alloc_new _ _
  have k4 : w4.heap[w2.heap.size + 1]? = some (.cells #[.slice none 0 0, .int .i64 0] 53 (0, 0)) := by rw [← s3, ← e4]; exact heap_alloc_new _ _
  have k5 : w5.heap[w2.heap.size + 1 + 1]? = some (.cells #[.slice none 0 0, .slice none 0 0, .slice none 0 0, .slice none 0 0] 91 (0, 0)) := by rw [← s4, ← e]; exact heap_alloc_new _ _
  have c25 : Below w2.heap.size w2 w5 := (b3.trans (b4.mono (by omega))).trans (b5.mono (by omega))
  have c15 : Below w1.heap.size w1 w5 := b2.trans (c25.mono b2.size)
  have z12 := b2.size
  have foot1 : ∀ b, PFoot W.heap.size (.slice none 0 0) w2.heap.size (.slice none 0 0) b → b = W.heap.size ∨ b = w2.heap.size := by
    rintro b (h | h | h | h)
    · exact .inl h
    · exact .inr h
    · cases h
    · cases h
  have foot2 : ∀ b, PFoot w1.heap.size (.slice none 0 0) (w2.heap.size + 1) (.slice none 0 0) b → b = w1.heap.size ∨ b = w2.heap.size + 1 := by
    rintro b (h | h | h | h)
    · exact .inl h
    · exact .inr h
    · cases h
    · cases h
  have footS : ∀ b, ShFoot (w2.heap.size + 1 + 1) none 0 none 0 0 0 (fun _ => ⟨none, 0, 0⟩) (fun _ => ⟨none, 0, 0⟩) b → b = w2.heap.size + 1 + 1 := by
    rintro b (h | h | h | ⟨i, hi, h⟩ | ⟨i, hi, h⟩)
    · exact h
    · cases h
    · cases h
    · omega
    · omega
  refine ⟨Nat.zero_le _, none, 0, none, 0, 0, (fun _ => ⟨none, 0, 0⟩), (fun _ => ⟨none, 0, 0⟩), (fun _ => []), (fun _ => []), ⟨h1.below c15, ⟨by omega, (b5.block _ (by omega)).trans ((b4.block _ (by omega)).trans k3), Kd.R_nil _ _ _ _ _⟩, fun b hb => (by cases hb)⟩,
    ⟨⟨by omega, (c25.block w1.heap.size z2).trans h2.blk, Kd.R_nil _ _ _ _ _⟩, ⟨by omega, (b5.block _ (by omega)).trans k4, Kd.R_nil _ _ _ _ _⟩, fun b hb => (by cases hb)⟩,
    ⟨by omega, k5, World.ownsRow_nil _ _ _ _, World.ownsRow_nil _ _ _ _, ne_nil _, fun i hi => absurd hi (Nat.not_lt_zero _), fun i hi => absurd hi (Nat.not_lt_zero _), fun i j hi => absurd hi (Nat.not_lt_zero _), fun i j hi => absurd hi (Nat.not_lt_zero _), fun i j hi => absurd hi (Nat.not_lt_zero _)⟩,
    Own.nil, ?_, ?_, ?_, fun b hb => (by cases hb), fun i hi => absurd hi (Nat.not_lt_zero _), Nat.zero_le _, b1.trans (c15.mono z0)⟩
  · intro b x1 x2
    rcases foot1 b x1 with h | h <;> rcases foot2 b x2 with h3 | h3 <;> omega
  · intro b x1 x2
    have := footS b x2
    rcases foot1 b x1 with h | h <;> omega
  · intro b x1 x2
    have := footS b x2
    rcases foot2 b x1 with h | h <;> omega
set_option maxHeartbeats 16000000 in
set_option maxRecDepth 100000 in
theorem untold_is (A1 : Option Addr) (c1 : Nat) (ops : List OpL) (w : World) (hop : OpsAtC w A1 ops) (hl1 : ops.length ≤ 1048576) (hls : ∀ o ∈ ops, o.bytes.length + o.list.length ≤ 1048576) :
    Calls Try.prog 38 #[.slice A1 ops.length c1] w fun e w' => e = .returned (.bool true) ∧ Below w.heap.size w w' := by
  have hu58 := Try.underlying58
  have hu53 := Try.underlying53
  have hu91 := Try.underlying91
  have HOP := Aside0.mk hop
  have HLS := Aside0.mk hls
  obtain ⟨n, hn⟩ : ∃ n, ops.length = n := ⟨_, rfl⟩
  rw [hn] at hl1
  rw [hn]
  have HN := Aside0.mk hn
  clear hop hls hn
  have HW1 := Aside0.mk (newWriter_is w)
  go_enter Try.func38, Try.ntmps38
  go_wp2_with (first
    | (go_at_call 35; have HCC := HW1.out; (with_reducible refine HCC.mono ?_); rintro e w1 ⟨rfl, hw1, hb1⟩; have HX1 := Aside0.mk hw1; have HB1 := Aside0.mk hb1; have HW2 := Aside0.mk (newWriter_is w1); clear hw1 hb1 HCC HW1)
    | (go_at_call 35; have HCC := HW2.out; (with_reducible refine HCC.mono ?_); rintro e w2 ⟨rfl, hw2, hb2⟩; have HI0 := Aside0.mk (UnI.start HX1.out HB1.out hw2 hb2 rfl); clear hw2 hb2 HCC HW2 HX1 HB1))
  obtain ⟨g, hg⟩ : ∃ g, w.heap.size = g := ⟨_, rfl⟩
  obtain ⟨g2, hg2⟩ : ∃ g2, w1.heap.size = g2 := ⟨_, rfl⟩
  obtain ⟨q, hq⟩ : ∃ q, w2.heap.size = q := ⟨_, rfl⟩
  obtain ⟨w5, hw5⟩ : ∃ w5, ((w2.alloc (.cells #[.slice none 0 0, .int .i64 0] 53)).alloc (.cells #[.slice none 0 0, .int .i64 0] 53)).alloc (.cells #[.slice none 0 0, .slice none 0 0, .slice none 0 0, .slice none 0 0] 91) = w5 := ⟨_, rfl⟩
  obtain ⟨q2, hq2⟩ : ∃ q2, q + 1 = q2 := ⟨_, rfl⟩
  obtain ⟨G, hG⟩ : ∃ G, q2 + 1 = G := ⟨_, rfl⟩
  rw [hw5, hg, hg2, hq, hq2, hG] at HI0
  rw [hw5]
  simp only [hg, hg2, hq, hq2, hG]
  clear hw5 hg hg2 hq hq2 hG
  have HNL := Aside0.mk hl1
  have hnl : n < 4294967296 := by omega
  clear hl1
  go_loopw [8] (fun v8 wr => ∃ (i : Nat) (v u v2 u2 : Value) (s : List Int × Int), v8 = .int .i64 (i : Nat) ∧ i ≤ n + 1 ∧ Aside0 (UnI w g q g2 q2 G v u v2 u2 s i wr)) (fun v8 _ => n + 1 - (intOf v8).toNat)
  case atStart => exact ⟨0, _, _, _, _, _, rfl, Nat.zero_le _, HI0⟩
  case round =>
    clear HI0
    obtain ⟨i, v, u, v2, u2, s, rfl, hi, HU⟩ := hrel
    by_cases hin : i < n
    · have hii : (i : Int) < (n : Int) := by omega
      have hii2 : (i : Int) ≤ (n : Int) := by omega
      have hopl : i < ops.length := by have := HN.out; omega
      obtain ⟨ad, B1, d1, B2, d2, e, hla, y0, y1, y2, y3, y4, y5, y6, j1, j2, j3, j4⟩ := HOP.out i hopl
      cases e
      have hbe := HU.out.bel.trans (((Below.refl wr.heap.size wr).alloc (Nat.le_refl _) (.cells #[.int .i64 8, .int .i64 0, .int .i64 0, .bool false, .slice none 0 0, .slice none 0 0, .int .i64 0] 58)).mono HU.out.bel.size)
      have x0 := (hbe.cell (p := ad.add (i * 7)) hla).trans y0
      have x1 := (hbe.cell (p := ⟨(ad.add (i * 7)).block, (ad.add (i * 7)).off + 1, none⟩) hla).trans y1
      have x2 := (hbe.cell (p := ⟨(ad.add (i * 7)).block, (ad.add (i * 7)).off + 2, none⟩) hla).trans y2
      have x3 := (hbe.cell (p := ⟨(ad.add (i * 7)).block, (ad.add (i * 7)).off + 3, none⟩) hla).trans y3
      have x4 := (hbe.cell (p := ⟨(ad.add (i * 7)).block, (ad.add (i * 7)).off + 4, none⟩) hla).trans y4
      have x5 := (hbe.cell (p := ⟨(ad.add (i * 7)).block, (ad.add (i * 7)).off + 5, none⟩) hla).trans y5
      have x6 := (hbe.cell (p := ⟨(ad.add (i * 7)).block, (ad.add (i * 7)).off + 6, none⟩) hla).trans y6
      have hol := HLS.out _ (List.getElem_mem hopl)
      have HJ1 := Aside0.mk j1
      have HJ2 := Aside0.mk j2
      have HJ3 := Aside0.mk j3
      have HJ4 := Aside0.mk j4
      obtain ⟨o, ho⟩ : ∃ o, ops[i] = o := ⟨_, rfl⟩
      rw [ho] at x0 x1 x2 x3 x4 x5 x6 HJ1 HJ2 HJ3 HJ4 hol
      obtain ⟨kind, on, wide, flag, bytes, list, most⟩ := o
      dsimp only at x0 x1 x2 x3 x4 x5 x6 HJ1 HJ2 HJ3 HJ4 hol
      obtain ⟨N1, hN1⟩ : ∃ N, bytes.length = N := ⟨_, rfl⟩
      obtain ⟨N2, hN2⟩ : ∃ N, list.length = N := ⟨_, rfl⟩
      rw [hN1] at x4 HJ1 HJ3
      rw [hN2] at x5 HJ2 HJ4
      have HNN := Aside0.mk (And.intro hN1 (And.intro hN2 (show N1 + N2 ≤ 1048576 by rw [← hN1, ← hN2]; exact hol)))
      have HBXS := Aside0.mk ((Below.refl wr.heap.size wr).alloc (Nat.le_refl _) (.cells #[.int .i64 kind, .int .i64 on, .int .i64 wide, .bool flag, .slice B1 N1 d1, .slice B2 N2 d2, .int .i64 most] 58))
      have HU1 := Aside0.mk (HU.out.below HBXS.out)
      have HBX := Aside0.mk (heap_alloc_new wr (.cells #[.int .i64 kind, .int .i64 on, .int .i64 wide, .bool flag, .slice B1 N1 d1, .slice B2 N2 d2, .int .i64 most] 58))
      clear y0 y1 y2 y3 y4 y5 y6 j1 j2 j3 j4 hla hbe ho hopl hol hN1 hN2
      by_cases k8 : kind = 8
      · subst k8
        go_wp2
        go_loopw [10] (fun v10 wq => ∃ (k : Nat), v10 = .int .i64 (k : Nat) ∧ k ≤ 2 ∧ Aside0 (UnI w g q g2 q2 G v u v2 u2 s i wq)) (fun v10 _ => 2 - (intOf v10).toNat)
        case atStart => exact ⟨0, rfl, Nat.zero_le _, HU1⟩
        case round =>
          clear HU HU1 HOP HLS
          obtain ⟨k, rfl, hk, HQ⟩ := hrel
          by_cases hk2 : k < 2
          · have hkk : (k : Int) < 2 := by omega
            obtain ⟨hbd, AB, cB, AH, cH, N, bs, hs, fb, fh, hK⟩ := HQ.out
            have HBD := Aside0.mk (show s.1.length ≤ 2199031644160 by have := HNL.out; omega)
            have K := Aside0.mk hK
            have D1 := Aside0.mk (wDone_any wr w.heap.size g v s hK.p1.wr (by have := HBD.out; omega))
            have HBM := Aside0.mk hbd
            clear hK hbd
            go_wp2_with (first
              | (go_at_call 59; have HCC := D1.out; (with_reducible refine HCC.mono ?_); rintro e w1 ⟨v7, rfl, hr, hb⟩; obtain ⟨a1, a2, a3, rfl, ho⟩ := R_own hr; have HA1 := Aside0.mk (ho); have U1 := Aside0.mk (K.out.below hb); have D2 := Aside0.mk (wDone_any w1 w.heap.size g2 v2 s U1.out.p2.wr (by have := HBD.out; omega)); clear hr hb ho; clear HCC D1)
              | (go_at_call 59; have HCC := D2.out; (with_reducible refine HCC.mono ?_); rintro e w2 ⟨v8, rfl, hr, hb⟩; obtain ⟨b1, b2, b3, rfl, ho⟩ := R_own hr; have HA2 := Aside0.mk (HA1.out.below hb); have HO2 := Aside0.mk (ho); have HSZ := Aside0.mk (HA1.out.lt); have U2 := Aside0.mk (U1.out.below hb); obtain ⟨B, m, d, hbv, hmd, hrd⟩ := done_reads U2.out.p1.ou; have D3 := Aside0.mk (show Calls Try.prog 88 #[.pointer (some ⟨q, 0, none⟩)] w2 (fun e w' => e = .returned (.tuple #[.slice B m d, .int .i64 s.2]) ∧ Below w2.heap.size w2 w') from by have h9 := oDone_is w2 w.heap.size q u s U2.out.p1.ou; rw [hbv] at h9; exact h9); have HBV := Aside0.mk hbv; clear hr hb ho hmd hrd hbv; clear HCC D2)
              | (go_at_call 88; have HCC := D3.out; (with_reducible refine HCC.mono ?_); rintro e w3 ⟨rfl, hb⟩; have U3 := Aside0.mk ((U2.out.below hb).setT ((HO2.out.below hb).lower U1.out.bel.size) (fun b hb => U1.out.new b (HO2.out.lt b hb).1)); have D4 := Aside0.mk (un_keep U3.out a1 a2 a3 _ ((HA2.out.below hb).lower K.out.bel.size) (fun b hb => K.out.new b (HA2.out.lt b hb).1) (fun b h1 h2 => (by have := (HSZ.out b h1).2; have := (HO2.out.lt b h2).1; omega)) B m d (done_reads2 U3.out.p1.ou HBV.out) (by have := HBD.out; split; omega; exact Nat.zero_le _)); clear hb; clear HCC D3)
              | (go_at_call 69; have HCC := D4.out; (with_reducible refine HCC.mono ?_); rintro e w4 ⟨rfl, AB4, cB4, AH4, cH4, N4, bs4, hs4, fb4, fh4, K4⟩; have U4 := Aside0.mk (K4); have D5 := Aside0.mk (un_keep K4.forget b1 b2 b3 _ K4.tt K4.atf (fun b h1 h2 => (by cases h2)) B m d (done_reads2 K4.p1.ou HBV.out) (by have := HBD.out; split; omega; exact Nat.zero_le _)); clear K4; clear HCC D4)
              | (go_at_call 69; have HCC := D5.out; (with_reducible refine HCC.mono ?_); rintro e w10 ⟨rfl, AB5, cB5, AH5, cH5, N5, bs5, hs5, fb5, fh5, K5⟩; have U5 := Aside0.mk (K5); clear K5; clear HCC D5))
            go_roundw
            case rel => exact ⟨k + 1, by go_num, by omega, ⟨HBM.out, AB5, cB5, AH5, cH5, N5, bs5, hs5, fb5, fh5, U5.out⟩⟩
            case measure => simp [intOf]; omega
          · have hkk : ¬ ((k : Int) < 2) := by omega
            clear hk2
            go_wp2
            go_roundw
            case rel => exact ⟨i + 1, v, u, v2, u2, s, by go_num, by omega, ⟨HQ.out.step⟩⟩
            case measure => simp [intOf]; omega
      have q8 : (kind == 8) = false := by rw [beq_eq_false_iff_ne]; exact k8
      have r8 : (kind != 8) = true := by rw [bne_iff_ne]; exact k8
      obtain ⟨hbd, AB, cB, AH, cH, N, bs, hs, fb, fh, hK⟩ := HU1.out
      have HBD := Aside0.mk (show s.1.length ≤ 2199031644160 by have := HNL.out; omega)
      have HBM := Aside0.mk hbd
      have K := Aside0.mk hK
      have HPF := Aside0.mk (show (∀ b, PFoot g v q u b → b < wr.heap.size) ∧ ∀ b, PFoot g2 v2 q2 u2 b → b < wr.heap.size from by
        obtain ⟨_, AB', cB', AH', cH', N', bs', hs', fb', fh', k⟩ := HU.out
        exact ⟨fun b hb => (k.p1.foot_lt b hb).2, fun b hb => (k.p2.foot_lt b hb).2⟩)
      have HRB := Aside0.mk (fun (w' : World) (hb : Below w.heap.size w w') => put_is ⟨kind, on, wide, flag, bytes, list, most⟩ B1 d1 B2 d2 w w' hb (by have := HNN.out; rw [this.1]; exact HJ1.out) (by have := HNN.out; rw [this.1]; exact HJ3.out) (by have := HNN.out; rw [this.2.1]; exact HJ2.out) (by have := HNN.out; rw [this.2.1]; exact HJ4.out))
      obtain ⟨s', hs'⟩ : ∃ s', wOp s ⟨kind, on, wide, flag, bytes, list, most⟩ = s' := ⟨_, rfl⟩
      have HSL := Aside0.mk (show s'.1.length ≤ (i + 1) * 2097160 by have h9 := wOp_len s ⟨kind, on, wide, flag, bytes, list, most⟩; rw [hs'] at h9; have := HNN.out; have := HBM.out; dsimp only at h9; rw [Nat.succ_mul]; omega)
      have HBO := Aside0.mk (show s.1.length + 8 + bytes.length + 2 * list.length ≤ 4398046511104 ∧ list.length < 4294967296 by have := HNN.out; have := HBD.out; omega)
      simp only [HNN.out.1, HNN.out.2.1] at HRB
      have HSE := Aside0.mk hs'
      have HLP := Aside0.mk (fun (w' : World) (hb : Below w.heap.size w w') => listsPlaced_is B2 d2 list B1 d1 bytes w' (by have := HNN.out; rw [this.2.1]; exact Kd.C_below HJ2.out hb) (by have := HNN.out; rw [this.2.1]; exact HJ4.out) (by have := HNN.out; rw [this.1]; exact Kd.C_below HJ1.out hb) (by have := HNN.out; rw [this.1]; exact HJ3.out) (by have := HNN.out; omega) (by have := HNN.out; omega))
      simp only [HNN.out.1, HNN.out.2.1] at HLP HBO
      obtain ⟨p, hp⟩ : ∃ p, wr.heap.size = p := ⟨_, rfl⟩
      obtain ⟨W1, hW1⟩ : ∃ W1, wr.alloc (.cells #[.int .i64 kind, .int .i64 on, .int .i64 wide, .bool flag, .slice B1 N1 d1, .slice B2 N2 d2, .int .i64 most] 58) = W1 := ⟨_, rfl⟩
      have HPL := Aside0.mk (show p < W1.heap.size by rw [← hW1, ← hp]; simp)
      rw [hp, hW1] at HBX
      rw [hp] at HPF
      rw [hW1] at K HBXS
      have HWE := Aside0.mk hW1
      have HPE := Aside0.mk hp
      clear hs' hbd hK HU HU1 hW1 hp HOP HLS
      by_cases k7 : kind = 7
      · subst k7
        have HLP1 := Aside0.mk (HLP.out W1 K.out.bel)
        have hW1 := HWE.out
        have hp := HPE.out
        subst hp
        subst hW1
        clear HWE HPE
        go_wp2_with (first
          | (go_at_call 89; have HCC := HLP1.out; (with_reducible refine HCC.mono ?_); rintro e w6 ⟨rfl, hb⟩; have K6 := Aside0.mk (K.out.below hb); have HB6 := Aside0.mk ((hb.block wr.heap.size HPL.out).trans HBX.out); have z0 : w6.cell? ⟨wr.heap.size, 0, none⟩ = some (.int .i64 7) := (blk_cell HB6.out 0).trans rfl; have z1 : w6.cell? ⟨wr.heap.size, 1, none⟩ = some (.int .i64 on) := (blk_cell HB6.out 1).trans rfl; have z2 : w6.cell? ⟨wr.heap.size, 2, none⟩ = some (.int .i64 wide) := (blk_cell HB6.out 2).trans rfl; have z3 : w6.cell? ⟨wr.heap.size, 3, none⟩ = some (.bool flag) := (blk_cell HB6.out 3).trans rfl; have z4 : w6.cell? ⟨wr.heap.size, 4, none⟩ = some (.slice B1 N1 d1) := (blk_cell HB6.out 4).trans rfl; have z5 : w6.cell? ⟨wr.heap.size, 5, none⟩ = some (.slice B2 N2 d2) := (blk_cell HB6.out 5).trans rfl; have z6 : w6.cell? ⟨wr.heap.size, 6, none⟩ = some (.int .i64 most) := (blk_cell HB6.out 6).trans rfl; have HP6 := Aside0.mk (Nat.lt_of_lt_of_le HPL.out hb.size); have P1 := Aside0.mk (HRB.out w6 K6.out.bel g v q u s K6.out.p1 HBO.out.1 HBO.out.2); clear hb; clear HCC HLP1)
          | (go_at_call 36; have HCC := P1.out; (with_reducible refine HCC.mono ?_); rintro e w7 ⟨rfl, v7, u7, hwo, hpk⟩; have K7 := Aside0.mk (K6.out.put1 hwo hpk); have HB7 := Aside0.mk ((hpk.out wr.heap.size HP6.out (fun h => Nat.lt_irrefl _ (HPF.out.1 _ h))).trans HB6.out); have z0 : w7.cell? ⟨wr.heap.size, 0, none⟩ = some (.int .i64 7) := (blk_cell HB7.out 0).trans rfl; have z1 : w7.cell? ⟨wr.heap.size, 1, none⟩ = some (.int .i64 on) := (blk_cell HB7.out 1).trans rfl; have z2 : w7.cell? ⟨wr.heap.size, 2, none⟩ = some (.int .i64 wide) := (blk_cell HB7.out 2).trans rfl; have z3 : w7.cell? ⟨wr.heap.size, 3, none⟩ = some (.bool flag) := (blk_cell HB7.out 3).trans rfl; have z4 : w7.cell? ⟨wr.heap.size, 4, none⟩ = some (.slice B1 N1 d1) := (blk_cell HB7.out 4).trans rfl; have z5 : w7.cell? ⟨wr.heap.size, 5, none⟩ = some (.slice B2 N2 d2) := (blk_cell HB7.out 5).trans rfl; have z6 : w7.cell? ⟨wr.heap.size, 6, none⟩ = some (.int .i64 most) := (blk_cell HB7.out 6).trans rfl; have HP7 := Aside0.mk (Nat.lt_of_lt_of_le HP6.out hpk.size); have P2 := Aside0.mk (HRB.out w7 K7.out.bel g2 v2 q2 u2 s K7.out.p2 HBO.out.1 HBO.out.2); clear hwo hpk; clear HCC P1)
          | (go_at_call 36; have HCC := P2.out; (with_reducible refine HCC.mono ?_); rintro e w8 ⟨rfl, v8, u8, hwo, hpk⟩; have K8 := Aside0.mk ((K7.out.swap.put1 hwo hpk).swap); clear hwo hpk; clear HCC P2))
        go_roundw
        case rel => exact ⟨i + 1, v7, u7, v8, u8, s', by go_num, by omega, ⟨HSL.out, AB, cB, AH, cH, N, bs, hs, fb, fh, by have h9 := K8.out; rw [HSE.out] at h9; exact h9⟩⟩
        case measure => simp [intOf]; omega
      by_cases k6 : kind = 6
      · subst k6
        have HLP1 := Aside0.mk (HLP.out W1 K.out.bel)
        have hW1 := HWE.out
        have hp := HPE.out
        subst hp
        subst hW1
        clear HWE HPE
        go_wp2_with (first
          | (go_at_call 89; have HCC := HLP1.out; (with_reducible refine HCC.mono ?_); rintro e w6 ⟨rfl, hb⟩; have K6 := Aside0.mk (K.out.below hb); have HB6 := Aside0.mk ((hb.block wr.heap.size HPL.out).trans HBX.out); have z0 : w6.cell? ⟨wr.heap.size, 0, none⟩ = some (.int .i64 6) := (blk_cell HB6.out 0).trans rfl; have z1 : w6.cell? ⟨wr.heap.size, 1, none⟩ = some (.int .i64 on) := (blk_cell HB6.out 1).trans rfl; have z2 : w6.cell? ⟨wr.heap.size, 2, none⟩ = some (.int .i64 wide) := (blk_cell HB6.out 2).trans rfl; have z3 : w6.cell? ⟨wr.heap.size, 3, none⟩ = some (.bool flag) := (blk_cell HB6.out 3).trans rfl; have z4 : w6.cell? ⟨wr.heap.size, 4, none⟩ = some (.slice B1 N1 d1) := (blk_cell HB6.out 4).trans rfl; have z5 : w6.cell? ⟨wr.heap.size, 5, none⟩ = some (.slice B2 N2 d2) := (blk_cell HB6.out 5).trans rfl; have z6 : w6.cell? ⟨wr.heap.size, 6, none⟩ = some (.int .i64 most) := (blk_cell HB6.out 6).trans rfl; have HP6 := Aside0.mk (Nat.lt_of_lt_of_le HPL.out hb.size); have P1 := Aside0.mk (HRB.out w6 K6.out.bel g v q u s K6.out.p1 HBO.out.1 HBO.out.2); clear hb; clear HCC HLP1)
          | (go_at_call 36; have HCC := P1.out; (with_reducible refine HCC.mono ?_); rintro e w7 ⟨rfl, v7, u7, hwo, hpk⟩; have K7 := Aside0.mk (K6.out.put1 hwo hpk); have HB7 := Aside0.mk ((hpk.out wr.heap.size HP6.out (fun h => Nat.lt_irrefl _ (HPF.out.1 _ h))).trans HB6.out); have z0 : w7.cell? ⟨wr.heap.size, 0, none⟩ = some (.int .i64 6) := (blk_cell HB7.out 0).trans rfl; have z1 : w7.cell? ⟨wr.heap.size, 1, none⟩ = some (.int .i64 on) := (blk_cell HB7.out 1).trans rfl; have z2 : w7.cell? ⟨wr.heap.size, 2, none⟩ = some (.int .i64 wide) := (blk_cell HB7.out 2).trans rfl; have z3 : w7.cell? ⟨wr.heap.size, 3, none⟩ = some (.bool flag) := (blk_cell HB7.out 3).trans rfl; have z4 : w7.cell? ⟨wr.heap.size, 4, none⟩ = some (.slice B1 N1 d1) := (blk_cell HB7.out 4).trans rfl; have z5 : w7.cell? ⟨wr.heap.size, 5, none⟩ = some (.slice B2 N2 d2) := (blk_cell HB7.out 5).trans rfl; have z6 : w7.cell? ⟨wr.heap.size, 6, none⟩ = some (.int .i64 most) := (blk_cell HB7.out 6).trans rfl; have HP7 := Aside0.mk (Nat.lt_of_lt_of_le HP6.out hpk.size); have P2 := Aside0.mk (HRB.out w7 K7.out.bel g2 v2 q2 u2 s K7.out.p2 HBO.out.1 HBO.out.2); clear hwo hpk; clear HCC P1)
          | (go_at_call 36; have HCC := P2.out; (with_reducible refine HCC.mono ?_); rintro e w8 ⟨rfl, v8, u8, hwo, hpk⟩; have K8 := Aside0.mk ((K7.out.swap.put1 hwo hpk).swap); clear hwo hpk; clear HCC P2))
        go_roundw
        case rel => exact ⟨i + 1, v7, u7, v8, u8, s', by go_num, by omega, ⟨HSL.out, AB, cB, AH, cH, N, bs, hs, fb, fh, by have h9 := K8.out; rw [HSE.out] at h9; exact h9⟩⟩
        case measure => simp [intOf]; omega
      have q7 : (kind == 7) = false := by rw [beq_eq_false_iff_ne]; exact k7
      have q6 : (kind == 6) = false := by rw [beq_eq_false_iff_ne]; exact k6
      have K6 := K
      have HB6 := HBX
      have HP6 := HPL
      have P1 := Aside0.mk (HRB.out W1 K.out.bel g v q u s K.out.p1 HBO.out.1 HBO.out.2)
      have hW1 := HWE.out
      have hp := HPE.out
      subst hp
      subst hW1
      clear HWE HPE HLP
      go_wp2_with (first
        | (go_at_call 36; have HCC := P1.out; (with_reducible refine HCC.mono ?_); rintro e w7 ⟨rfl, v7, u7, hwo, hpk⟩; have K7 := Aside0.mk (K6.out.put1 hwo hpk); have HB7 := Aside0.mk ((hpk.out wr.heap.size HP6.out (fun h => Nat.lt_irrefl _ (HPF.out.1 _ h))).trans HB6.out); have z0 : w7.cell? ⟨wr.heap.size, 0, none⟩ = some (.int .i64 kind) := (blk_cell HB7.out 0).trans rfl; have z1 : w7.cell? ⟨wr.heap.size, 1, none⟩ = some (.int .i64 on) := (blk_cell HB7.out 1).trans rfl; have z2 : w7.cell? ⟨wr.heap.size, 2, none⟩ = some (.int .i64 wide) := (blk_cell HB7.out 2).trans rfl; have z3 : w7.cell? ⟨wr.heap.size, 3, none⟩ = some (.bool flag) := (blk_cell HB7.out 3).trans rfl; have z4 : w7.cell? ⟨wr.heap.size, 4, none⟩ = some (.slice B1 N1 d1) := (blk_cell HB7.out 4).trans rfl; have z5 : w7.cell? ⟨wr.heap.size, 5, none⟩ = some (.slice B2 N2 d2) := (blk_cell HB7.out 5).trans rfl; have z6 : w7.cell? ⟨wr.heap.size, 6, none⟩ = some (.int .i64 most) := (blk_cell HB7.out 6).trans rfl; have HP7 := Aside0.mk (Nat.lt_of_lt_of_le HP6.out hpk.size); have P2 := Aside0.mk (HRB.out w7 K7.out.bel g2 v2 q2 u2 s K7.out.p2 HBO.out.1 HBO.out.2); clear hwo hpk; clear HCC P1)
        | (go_at_call 36; have HCC := P2.out; (with_reducible refine HCC.mono ?_); rintro e w8 ⟨rfl, v8, u8, hwo, hpk⟩; have K8 := Aside0.mk ((K7.out.swap.put1 hwo hpk).swap); clear hwo hpk; clear HCC P2))
      go_roundw
      case rel => exact ⟨i + 1, v7, u7, v8, u8, s', by go_num, by omega, ⟨HSL.out, AB, cB, AH, cH, N, bs, hs, fb, fh, by have h9 := K8.out; rw [HSE.out] at h9; exact h9⟩⟩
      case measure => simp [intOf]; omega
    · by_cases hie : i = n
      · have hne : ¬ ((i : Int) < (n : Int)) := by omega
        have hii2 : (i : Int) ≤ (n : Int) := by omega
        have HU1 := Aside0.mk (HU.out.below ((Below.refl wr.heap.size wr).alloc (Nat.le_refl _) (.cells #[.int .i64 8, .int .i64 0, .int .i64 0, .bool false, .slice none 0 0, .slice none 0 0, .int .i64 0] 58)))
        clear hie
        go_wp2
        go_loopw [10] (fun v10 wq => ∃ (k : Nat), v10 = .int .i64 (k : Nat) ∧ k ≤ 2 ∧ Aside0 (UnI w g q g2 q2 G v u v2 u2 s i wq)) (fun v10 _ => 2 - (intOf v10).toNat)
        case atStart => exact ⟨0, rfl, Nat.zero_le _, HU1⟩
        case round =>
          clear HU HU1 HOP HLS
          obtain ⟨k, rfl, hk, HQ⟩ := hrel
          by_cases hk2 : k < 2
          · have hkk : (k : Int) < 2 := by omega
            obtain ⟨hbd, AB, cB, AH, cH, N, bs, hs, fb, fh, hK⟩ := HQ.out
            have HBD := Aside0.mk (show s.1.length ≤ 2199031644160 by have := HNL.out; omega)
            have K := Aside0.mk hK
            have D1 := Aside0.mk (wDone_any wr w.heap.size g v s hK.p1.wr (by have := HBD.out; omega))
            have HBM := Aside0.mk hbd
            clear hK hbd
            go_wp2_with (first
              | (go_at_call 59; have HCC := D1.out; (with_reducible refine HCC.mono ?_); rintro e w1 ⟨v7, rfl, hr, hb⟩; obtain ⟨a1, a2, a3, rfl, ho⟩ := R_own hr; have HA1 := Aside0.mk (ho); have U1 := Aside0.mk (K.out.below hb); have D2 := Aside0.mk (wDone_any w1 w.heap.size g2 v2 s U1.out.p2.wr (by have := HBD.out; omega)); clear hr hb ho; clear HCC D1)
              | (go_at_call 59; have HCC := D2.out; (with_reducible refine HCC.mono ?_); rintro e w2 ⟨v8, rfl, hr, hb⟩; obtain ⟨b1, b2, b3, rfl, ho⟩ := R_own hr; have HA2 := Aside0.mk (HA1.out.below hb); have HO2 := Aside0.mk (ho); have HSZ := Aside0.mk (HA1.out.lt); have U2 := Aside0.mk (U1.out.below hb); obtain ⟨B, m, d, hbv, hmd, hrd⟩ := done_reads U2.out.p1.ou; have D3 := Aside0.mk (show Calls Try.prog 88 #[.pointer (some ⟨q, 0, none⟩)] w2 (fun e w' => e = .returned (.tuple #[.slice B m d, .int .i64 s.2]) ∧ Below w2.heap.size w2 w') from by have h9 := oDone_is w2 w.heap.size q u s U2.out.p1.ou; rw [hbv] at h9; exact h9); have HBV := Aside0.mk hbv; clear hr hb ho hmd hrd hbv; clear HCC D2)
              | (go_at_call 88; have HCC := D3.out; (with_reducible refine HCC.mono ?_); rintro e w3 ⟨rfl, hb⟩; have U3 := Aside0.mk ((U2.out.below hb).setT ((HO2.out.below hb).lower U1.out.bel.size) (fun b hb => U1.out.new b (HO2.out.lt b hb).1)); have D4 := Aside0.mk (un_keep U3.out a1 a2 a3 _ ((HA2.out.below hb).lower K.out.bel.size) (fun b hb => K.out.new b (HA2.out.lt b hb).1) (fun b h1 h2 => (by have := (HSZ.out b h1).2; have := (HO2.out.lt b h2).1; omega)) B m d (done_reads2 U3.out.p1.ou HBV.out) (by have := HBD.out; split; omega; exact Nat.zero_le _)); clear hb; clear HCC D3)
              | (go_at_call 69; have HCC := D4.out; (with_reducible refine HCC.mono ?_); rintro e w4 ⟨rfl, AB4, cB4, AH4, cH4, N4, bs4, hs4, fb4, fh4, K4⟩; have U4 := Aside0.mk (K4); have D5 := Aside0.mk (un_keep K4.forget b1 b2 b3 _ K4.tt K4.atf (fun b h1 h2 => (by cases h2)) B m d (done_reads2 K4.p1.ou HBV.out) (by have := HBD.out; split; omega; exact Nat.zero_le _)); clear K4; clear HCC D4)
              | (go_at_call 69; have HCC := D5.out; (with_reducible refine HCC.mono ?_); rintro e w10 ⟨rfl, AB5, cB5, AH5, cH5, N5, bs5, hs5, fb5, fh5, K5⟩; have U5 := Aside0.mk (K5); clear K5; clear HCC D5))
            go_roundw
            case rel => exact ⟨k + 1, by go_num, by omega, ⟨HBM.out, AB5, cB5, AH5, cH5, N5, bs5, hs5, fb5, fh5, U5.out⟩⟩
            case measure => simp [intOf]; omega
          · have hkk : ¬ ((k : Int) < 2) := by omega
            clear hk2
            go_wp2
            go_roundw
            case rel => exact ⟨i + 1, v, u, v2, u2, s, by go_num, by omega, ⟨HQ.out.step⟩⟩
            case measure => simp [intOf]; omega
      · have hne : ¬ ((i : Int) ≤ (n : Int)) := by omega
        obtain ⟨-, AB, cB, AH, cH, N, bs, hs, fb, fh, k⟩ := HU.out
        have HSD := Aside0.mk (stands_is wr w.heap.size G AB cB AH cH N bs hs fb fh k.sh k.hN k.eq)
        have HBE := Aside0.mk k.bel
        clear k hie hin hi
        go_wp2_with (go_at_call 70; have HCC := HSD.out; (with_reducible refine HCC.mono ?_); rintro e w9 ⟨rfl, hb⟩; have HB9 := Aside0.mk (HBE.out.trans hb); clear hb HCC)
        go_ret
        exact ⟨rfl, HB9.out⟩


theorem OpsAtC.below {w W' : World} {A : Option Addr} {ops : List OpL} (h : OpsAtC w A ops) (hb : Below w.heap.size w W') : OpsAtC W' A ops := fun i hi => by
  obtain ⟨ad, A1, c1, A2, c2, e, hla, y0, y1, y2, y3, y4, y5, y6, j1, j2, j3, j4⟩ := h i hi
  exact ⟨ad, A1, c1, A2, c2, e, Nat.lt_of_lt_of_le hla hb.size, (hb.cell (p := ad.add (i * 7)) hla).trans y0, (hb.cell (p := ⟨(ad.add (i * 7)).block, (ad.add (i * 7)).off + 1, none⟩) hla).trans y1, (hb.cell (p := ⟨(ad.add (i * 7)).block, (ad.add (i * 7)).off + 2, none⟩) hla).trans y2, (hb.cell (p := ⟨(ad.add (i * 7)).block, (ad.add (i * 7)).off + 3, none⟩) hla).trans y3, (hb.cell (p := ⟨(ad.add (i * 7)).block, (ad.add (i * 7)).off + 4, none⟩) hla).trans y4, (hb.cell (p := ⟨(ad.add (i * 7)).block, (ad.add (i * 7)).off + 5, none⟩) hla).trans y5, (hb.cell (p := ⟨(ad.add (i * 7)).block, (ad.add (i * 7)).off + 6, none⟩) hla).trans y6, Kd.C_below j1 hb, Kd.C_below j2 hb, j3, j4⟩
/-- The law's Writer and Out in a round. -/
structure WsI (W0 : World) (g q : Nat) (v u : Value) (s : List Int × Int) (m : Nat) (w : World) : Prop where
  len : s.1.length ≤ m * 2097160
  wo : WO w W0.heap.size g v s q u s
  bel : Below W0.heap.size W0 w
theorem WsI.start {W w1 w2 : World} (h1 : WrAt w1 W.heap.size W.heap.size (.slice none 0 0) [] 0) (b1 : Below W.heap.size W w1) (e : w1.alloc (.cells #[.slice none 0 0, .int .i64 0] 53) = w2) :
    WsI W W.heap.size w1.heap.size (.slice none 0 0) (.slice none 0 0) ([], 0) 0 w2 := by
  have b2 : Below w1.heap.size w1 w2 := by rw [← e]; exact (Below.refl _ _).alloc (Nat.le_refl _) _
  exact ⟨Nat.zero_le _, ⟨h1.below b2, ⟨b1.size, by rw [← e]; exact heap_alloc_new _ _, Kd.R_nil _ _ _ _ _⟩, fun b hb => (by cases hb)⟩, b1.trans (b2.mono b1.size)⟩
theorem WsI.put {W0 w w' : World} {g q : Nat} {v u v' u' : Value} {s s' : List Int × Int} {m : Nat} (h : WsI W0 g q v u s m w) (hw : WO w' W0.heap.size g v' s' q u' s') (hp : PK w w' g v v' q u u') (hl : s'.1.length ≤ (m + 1) * 2097160) : WsI W0 g q v' u' s' (m + 1) w' :=
  ⟨hl, hw, h.bel.trans (hp.bel h.wo h.bel.size)⟩
set_option maxHeartbeats 16000000 in
set_option maxRecDepth 100000 in
theorem codecWrites_is (A1 : Option Addr) (c1 : Nat) (ops : List OpL) (w : World) (hop : OpsAtC w A1 ops) (hl1 : ops.length ≤ 1048576) (hls : ∀ o ∈ ops, o.bytes.length + o.list.length ≤ 1048576) :
    Calls Try.prog 8 #[.slice A1 ops.length c1] w fun e w' => e = .returned (.bool true) ∧ Below w.heap.size w w' := by
  have hu58 := Try.underlying58
  have hu53 := Try.underlying53
  have HOP := Aside0.mk hop
  have HLS := Aside0.mk hls
  have HUN := Aside0.mk (fun (W' : World) (hb : Below w.heap.size w W') => untold_is A1 c1 ops W' (hop.below hb) hl1 hls)
  obtain ⟨n, hn⟩ : ∃ n, ops.length = n := ⟨_, rfl⟩
  rw [hn] at hl1 HUN
  rw [hn]
  have HN := Aside0.mk hn
  clear hop hls hn
  have HW1 := Aside0.mk (newWriter_is w)
  go_enter Try.func8, Try.ntmps8
  go_wp2_with (go_at_call 35; have HCC := HW1.out; (with_reducible refine HCC.mono ?_); rintro e w1 ⟨rfl, hw1, hb1⟩; have HI0 := Aside0.mk (WsI.start hw1 hb1 rfl); clear hw1 hb1 HCC HW1)
  obtain ⟨g, hg⟩ : ∃ g, w.heap.size = g := ⟨_, rfl⟩
  obtain ⟨q, hq⟩ : ∃ q, w1.heap.size = q := ⟨_, rfl⟩
  obtain ⟨w5, hw5⟩ : ∃ w5, w1.alloc (.cells #[.slice none 0 0, .int .i64 0] 53) = w5 := ⟨_, rfl⟩
  rw [hw5, hg, hq] at HI0
  rw [hw5]
  simp only [hg, hq]
  clear hw5 hg hq
  have HNL := Aside0.mk hl1
  have hnl : n < 4294967296 := by omega
  clear hl1
  go_loopw [5] (fun v5 wr => ∃ (i : Nat) (v u : Value) (s : List Int × Int), v5 = .int .i64 (i : Nat) ∧ i ≤ n ∧ Aside0 (WsI w g q v u s i wr)) (fun v5 _ => n - (intOf v5).toNat)
  case atStart => exact ⟨0, _, _, _, rfl, Nat.zero_le _, HI0⟩
  case round =>
    clear HI0
    obtain ⟨i, v, u, s, rfl, hi, HU⟩ := hrel
    by_cases hin : i < n
    · have hii : (i : Int) < (n : Int) := by omega
      have hopl : i < ops.length := by have := HN.out; omega
      obtain ⟨ad, B1, d1, B2, d2, e, hla, y0, y1, y2, y3, y4, y5, y6, j1, j2, j3, j4⟩ := HOP.out i hopl
      cases e
      have hbe := HU.out.bel
      have x0 := (hbe.cell (p := ad.add (i * 7)) hla).trans y0
      have x1 := (hbe.cell (p := ⟨(ad.add (i * 7)).block, (ad.add (i * 7)).off + 1, none⟩) hla).trans y1
      have x2 := (hbe.cell (p := ⟨(ad.add (i * 7)).block, (ad.add (i * 7)).off + 2, none⟩) hla).trans y2
      have x3 := (hbe.cell (p := ⟨(ad.add (i * 7)).block, (ad.add (i * 7)).off + 3, none⟩) hla).trans y3
      have x4 := (hbe.cell (p := ⟨(ad.add (i * 7)).block, (ad.add (i * 7)).off + 4, none⟩) hla).trans y4
      have x5 := (hbe.cell (p := ⟨(ad.add (i * 7)).block, (ad.add (i * 7)).off + 5, none⟩) hla).trans y5
      have x6 := (hbe.cell (p := ⟨(ad.add (i * 7)).block, (ad.add (i * 7)).off + 6, none⟩) hla).trans y6
      have hol := HLS.out _ (List.getElem_mem hopl)
      obtain ⟨o, ho⟩ : ∃ o, ops[i] = o := ⟨_, rfl⟩
      rw [ho] at x0 x1 x2 x3 x4 x5 x6 j1 j2 j3 j4 hol
      have HBD := Aside0.mk (show s.1.length ≤ 2199031644160 by have := HNL.out; have := HU.out.len; omega)
      have HPU := Aside0.mk (put_is o B1 d1 B2 d2 w wr hbe j1 j3 j2 j4 g v q u s HU.out.wo (by have := HBD.out; omega) (by omega))
      have HSL := Aside0.mk (show (wOp s o).1.length ≤ (i + 1) * 2097160 by have h9 := wOp_len s o; have := HU.out.len; rw [Nat.succ_mul]; omega)
      obtain ⟨kind, on, wide, flag, bytes, list, most⟩ := o
      dsimp only at x0 x1 x2 x3 x4 x5 x6 HPU
      clear y0 y1 y2 y3 y4 y5 y6 j1 j2 j3 j4 hla hbe ho hopl hol
      generalize wOp s ⟨kind, on, wide, flag, bytes, list, most⟩ = s' at *
      generalize bytes.length = N1 at *
      generalize list.length = N2 at *
      go_wp2_with (go_at_call 36; have HCC := HPU.out; (with_reducible refine HCC.mono ?_); rintro e w7 ⟨rfl, v7, u7, hwo, hpk⟩; have HU7 := Aside0.mk (HU.out.put hwo hpk HSL.out); clear hwo hpk HCC)
      go_roundw
      case rel => exact ⟨i + 1, v7, u7, s', by go_num, by omega, HU7⟩
      case measure => simp [intOf]; omega
    · have hne : ¬ ((i : Int) < (n : Int)) := by omega
      have HTO := Aside0.mk (told_is wr w.heap.size g v q u s HU.out.wo HU.out.bel.size (by have := HNL.out; have := HU.out.len; omega))
      clear hin
      go_wp2_with (first
        | (go_at_call 37; have HCC := HTO.out; (with_reducible refine HCC.mono ?_); rintro e w7 ⟨rfl, hb⟩; have HB7 := Aside0.mk (HU.out.bel.trans (hb.mono HU.out.bel.size)); clear hb HCC)
        | (go_at_call 38; have HCC := HUN.out w7 HB7.out; (with_reducible refine HCC.mono ?_); rintro e w8 ⟨rfl, hb⟩; have HB8 := Aside0.mk (HB7.out.trans (hb.mono HB7.out.size)); clear hb HCC))
      go_ret
      exact ⟨rfl, HB8.out⟩

end Go.Proofs.Ytceeoifbimlkdaa.B
