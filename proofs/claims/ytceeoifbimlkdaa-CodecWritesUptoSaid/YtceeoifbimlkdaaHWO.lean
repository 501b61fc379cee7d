/- Proved: a Writer and an Out side by side, what calls on them keep, and the contract of the codec law's told. Conditions: bounds of the lengths. -/
import Derived.Test.YtceeoifbimlkdaaHPutList2
import Derived.Test.YtceeoifbimlkdaaHLent
namespace Go.Proofs.Ytceeoifbimlkdaa.B
open Go.RowKit Go.Proofs.YtceeoifbimlkdaaW.PrintWords Go.Proofs.YtceeoifbimlkdaaW.PrintLast Go.Proofs.YtceeoifbimlkdaaW.PrintMore

/-- A Writer and an Out, apart. -/
structure WO (W : World) (base g : Nat) (v : Value) (s : List Int × Int) (q : Nat) (u : Value) (t : List Int × Int) : Prop where
  wr : WrAt W base g v s.1 s.2
  ou : OutAt W base q u t.1 t.2
  ne : ∀ b, v.ownBlock = some b → u.ownBlock ≠ some b
section
variable {W w' : World} {base g q : Nat} {v v' u u' : Value} {s s' t t' : List Int × Int}
theorem WO.gq (h : WO W base g v s q u t) : q ≠ g := fun e => by
  have h1 := h.wr.blk
  have h2 := h.ou.blk
  rw [e, h1] at h2
  exact absurd h2 (by simp)
theorem WO.qv (h : WO W base g v s q u t) : some q ≠ v.ownBlock := row_ne h.wr.row h.ou.blk (by decide)
theorem WO.gu (h : WO W base g v s q u t) : some g ≠ u.ownBlock := row_ne h.ou.row h.wr.blk (by decide)
theorem WO.below (h : WO W base g v s q u t) (hb : Below W.heap.size W w') : WO w' base g v s q u t := ⟨h.wr.below hb, h.ou.below hb, h.ne⟩
theorem WO.w (h : WO W base g v s q u t) (hw : WrAt w' base g v' s'.1 s'.2) (hk : WrKeeps W w' g v v') : WO w' base g v' s' q u t := by
  refine ⟨hw, ⟨h.ou.low, (hk.block q (blk_lt h.ou.blk) h.gq h.qv).trans h.ou.blk, row_kept h.ou.row fun k e => hk.block k (row_lt h.ou.row e).2 (fun e2 => h.gu (by rw [e, e2])) (fun e2 => h.ne k e2.symm e)⟩, fun b e1 e2 => ?_⟩
  rcases hk.own with e3 | ⟨b3, e3, e4⟩
  · exact h.ne b (by rw [← e3, e1]) e2
  · rw [e1] at e3
    cases e3
    have := (row_lt h.ou.row e2).2
    omega
theorem WO.o (h : WO W base g v s q u t) (ho : OutAt w' base q u' t'.1 t'.2) (hk : WrKeeps W w' q u u') : WO w' base g v s q u' t' := by
  refine ⟨⟨h.wr.low, (hk.block g (blk_lt h.wr.blk) (fun e => h.gq e.symm) h.gu).trans h.wr.blk, row_kept h.wr.row fun k e => hk.block k (row_lt h.wr.row e).2 (fun e2 => h.qv (by rw [e, e2])) (fun e2 => h.ne k e e2.symm)⟩, ho, fun b e1 e2 => ?_⟩
  rcases hk.own with e3 | ⟨b3, e3, e4⟩
  · exact h.ne b e1 (by rw [← e3, e2])
  · rw [e2] at e3
    cases e3
    have := (row_lt h.wr.row e1).2
    omega
end
/-- What calls on both keep. -/
structure PK (W w' : World) (g : Nat) (v v' : Value) (q : Nat) (u u' : Value) : Prop where
  os : w'.os = W.os ∧ w'.tape = W.tape ∧ w'.output = W.output
  size : W.heap.size ≤ w'.heap.size
  block : ∀ k, k < W.heap.size → k ≠ g → some k ≠ v.ownBlock → k ≠ q → some k ≠ u.ownBlock → w'.heap[k]? = W.heap[k]?
  own : v'.ownBlock = v.ownBlock ∨ ∃ b, v'.ownBlock = some b ∧ W.heap.size ≤ b
  own2 : u'.ownBlock = u.ownBlock ∨ ∃ b, u'.ownBlock = some b ∧ W.heap.size ≤ b
section
variable {W w1 w' : World} {base g q : Nat} {v v1 v' u u1 u' : Value} {s s' t t' : List Int × Int}
theorem PK.of_below (h : Below W.heap.size W w') : PK W w' g v v q u u := ⟨⟨h.os, h.tape, h.output⟩, h.size, fun k hk _ _ _ _ => h.block k hk, .inl rfl, .inl rfl⟩
theorem PK.then_below (h : PK W w1 g v v' q u u') (hb : Below w1.heap.size w1 w') : PK W w' g v v' q u u' :=
  ⟨⟨hb.os.trans h.os.1, hb.tape.trans h.os.2.1, hb.output.trans h.os.2.2⟩, Nat.le_trans h.size hb.size, fun k hk h1 h2 h3 h4 => (hb.block k (Nat.lt_of_lt_of_le hk h.size)).trans (h.block k hk h1 h2 h3 h4), h.own, h.own2⟩
theorem PK.w (h : PK W w1 g v v1 q u u1) (hk : WrKeeps w1 w' g v1 v') : PK W w' g v v' q u u1 := by
  refine ⟨⟨hk.os.1.trans h.os.1, hk.os.2.1.trans h.os.2.1, hk.os.2.2.trans h.os.2.2⟩, Nat.le_trans h.size hk.size, fun k hk1 h1 h2 h3 h4 => (hk.block k (Nat.lt_of_lt_of_le hk1 h.size) h1 ?_).trans (h.block k hk1 h1 h2 h3 h4), ?_, h.own2⟩
  · rcases h.own with e | ⟨b, e, hb⟩
    · rw [e]; exact h2
    · rw [e]; intro e2; cases e2; omega
  · exact own_more_at h.size h.own hk.own
theorem PK.o (h : PK W w1 g v v1 q u u1) (hk : WrKeeps w1 w' q u1 u') : PK W w' g v v1 q u u' := by
  refine ⟨⟨hk.os.1.trans h.os.1, hk.os.2.1.trans h.os.2.1, hk.os.2.2.trans h.os.2.2⟩, Nat.le_trans h.size hk.size, fun k hk1 h1 h2 h3 h4 => (hk.block k (Nat.lt_of_lt_of_le hk1 h.size) h3 ?_).trans (h.block k hk1 h1 h2 h3 h4), h.own, ?_⟩
  · rcases h.own2 with e | ⟨b, e, hb⟩
    · rw [e]; exact h4
    · rw [e]; intro e2; cases e2; omega
  · exact own_more_at h.size h.own2 hk.own
theorem PK.bel (h : PK W w' g v v' q u u') (k : WO W base g v s q u t) (hb : base ≤ W.heap.size) : Below base W w' :=
  ⟨h.os.1, h.os.2.1, h.os.2.2, h.size, fun j hj => h.block j (by omega) (by have := k.wr.low; omega) (fun e => by have := (row_lt k.wr.row e.symm).1; omega) (by have := k.ou.low; omega) (fun e => by have := (row_lt k.ou.row e.symm).1; omega)⟩
end
theorem below_grown {m : Nat} {W w w' : World} {row : Option Nat} (hb : Below m W w) (hm : m ≤ W.heap.size) (hg : w.grownBy w' row) (hr : ∀ b, row = some b → m ≤ b) : Below m W w' :=
  ⟨hg.os.trans hb.os, hg.tape.trans hb.tape, hg.output.trans hb.output, Nat.le_trans hb.size hg.size, fun k hk => (hg.block k (Nat.lt_of_lt_of_le (Nat.lt_of_lt_of_le hk hm) hb.size) (fun e => by have := hr k e.symm; omega)).trans (hb.block k hk)⟩
theorem R_own {e base : Nat} {W : World} {v : Value} {xs : List Int} (h : Kd.R (Kd.int .u8) e W base (fun _ => True) v xs) : ∃ A n c, v = .slice A n c ∧ Own .u8 e W base ⟨A, n, c⟩ xs := by
  obtain ⟨⟨A, n, c⟩, rfl, ho⟩ := Own.of_R h
  exact ⟨A, n, c, rfl, ho⟩
/-- What an Out's Done answers reads. -/
theorem done_reads {W : World} {base q : Nat} {u : Value} {s : List Int × Int} (h : OutAt W base q u s.1 s.2) :
    ∃ B m d, (if s.2 = 0 then u else .slice none 0 0) = .slice B m d ∧ m ≤ d ∧ Kd.C (Kd.int .u8) W B m (if s.2 = 0 then s.1 else []) := by
  by_cases hf : s.2 = 0
  · rw [if_pos hf, if_pos hf]
    obtain ⟨A, n, c, rfl, ho⟩ := R_own h.row
    exact ⟨A, n, c, rfl, ho.room, ho.reads2⟩
  · rw [if_neg hf, if_neg hf]
    exact ⟨none, 0, 0, rfl, Nat.le_refl _, (Own.nil (k := .u8) (e := 0) (W := W) (base := 0)).reads2⟩
/-- What the region of told sees. -/
def TdIn (w2 : World) (_q : Nat) (_u : Value) (W' : World) : Prop := Below w2.heap.size w2 W'
theorem TdIn.drew {w2 w : World} {q : Nat} {u : Value} (h : TdIn w2 q u w) : TdIn w2 q u w.drew := below_drew1 h
theorem TdIn.below {w2 w w' : World} {q : Nat} {u : Value} (h : TdIn w2 q u w) (hb : Below w.heap.size w w') : TdIn w2 q u w' := Below.trans h (hb.mono (Below.size h))
theorem Below.of_eq {w w' : World} (h : w = w') : Below w.heap.size w w' := h ▸ Below.refl _ _
set_option maxHeartbeats 4000000 in
set_option maxRecDepth 100000 in
theorem told_is (W : World) (base g : Nat) (v : Value) (q : Nat) (u : Value) (s : List Int × Int) (h : WO W base g v s q u s) (hbase : base ≤ W.heap.size) (hl : s.1.length ≤ 4398046511104) :
    Calls Try.prog 37 #[.pointer (some ⟨g, 0, none⟩), .pointer (some ⟨q, 0, none⟩)] W fun e w' => e = .returned (.bool true) ∧ Below W.heap.size W w' := by
  have hu53 := Try.underlying53
  obtain ⟨bs, hbs⟩ : ∃ bs, (if s.2 = 0 then s.1 else []) = bs := ⟨_, rfl⟩
  have hlb : bs.length ≤ 4398046511104 := by rw [← hbs]; split; exact hl; exact Nat.zero_le _
  obtain ⟨B, m, d, hbv, hmd, hrd⟩ := done_reads h.ou
  rw [hbs] at hrd
  have HD1 := Aside0.mk (wDone_any W base g v s h.wr (by omega))
  have HD2 := Aside0.mk (fun (W' : World) (hb : Below W.heap.size W W') => wDone_any W' base g v s (h.wr.below hb) (by omega))
  have HO := Aside0.mk (fun (W' : World) (hb : Below W.heap.size W W') => oDone_is W' base q u s (h.ou.below hb))
  have HN := Aside0.mk (fun (W' : World) (hb : Below W.heap.size W W') => wLen_any W' base g v s (h.wr.below hb))
  have HJ := Aside0.mk (fun (W' : World) (hb : Below W.heap.size W W') => show W'.cell? ⟨q, 0, none⟩ = some u from (blk_cell (h.ou.below hb).blk 0).trans rfl)
  have HR := Aside0.mk (fun (W' : World) (hb : Below W.heap.size W W') => Kd.C_below hrd hb)
  rw [hbs] at HD1
  simp only [hbs] at HD2
  simp only [hbv] at HO
  obtain ⟨A9, c9, hu⟩ := Kd.R_slice h.ou.row
  subst hu
  have HLB := Aside0.mk hlb
  have HMD := Aside0.mk hmd
  obtain ⟨f, hf⟩ : ∃ f, s.2 = f := ⟨_, rfl⟩
  obtain ⟨N, hN⟩ : ∃ N, s.1.length = N := ⟨_, rfl⟩
  simp only [hf] at HD1 HD2 HO
  simp only [hN] at HN HJ
  clear h hl hbs hlb hmd hrd hbv hf hN hbase
  go_enter Try.func37, Try.ntmps37
  go_wp2_with (first
    | (go_at_call 59; have HCC := HD1.out; (with_reducible refine HCC.mono ?_); rintro e w1 ⟨v1, rfl, hr1, hb1⟩; obtain ⟨A1, n1, c1, rfl, ho1⟩ := R_own hr1; have HA := Aside0.mk ho1; have HB1 := Aside0.mk hb1; clear hr1 hb1 ho1 HD1 HCC)
    | (go_at_call 88; have HCC := HO.out _ HB1.out; (with_reducible refine HCC.mono ?_); rintro e w2 ⟨rfl, hb2⟩; have HB2 := Aside0.mk (HB1.out.trans (hb2.mono HB1.out.size)); have HA2 := Aside0.mk (HA.out.below hb2); have HSM := Aside0.mk (fun (W' : World) (hk : Below w2.heap.size w2 W') => same_yes A1 n1 c1 B m d bs W' (HA2.out.below hk).reads2 HA2.out.room (HR.out W' (HB2.out.trans (hk.mono HB2.out.size))) HMD.out (by have := HLB.out; omega)); have HN2 := Aside0.mk (fun (W' : World) (hk : Below w2.heap.size w2 W') => HN.out W' (HB2.out.trans (hk.mono HB2.out.size))); have HJ2 := Aside0.mk (fun (W' : World) (hk : Below w2.heap.size w2 W') => (⟨hk, HJ.out W' (HB2.out.trans (hk.mono HB2.out.size))⟩ : TdIn w2 q (.slice A9 N c9) W' ∧ W'.cell? ⟨q, 0, none⟩ = some (.slice A9 N c9))); obtain ⟨hk0, jq⟩ := HJ2.out w2 (Below.refl _ _); clear hb2 HCC HO HA HB1))
  go_region_held3 (fun w' => TdIn w2 q (.slice A9 N c9) w' ∧ w'.cell? ⟨q, 0, none⟩ = some (.slice A9 N c9))
    (first | exact HJ2.out _ (TdIn.drew (by assumption)) | exact HJ2.out _ (TdIn.drew (And.left (by assumption))) | exact HJ2.out _ (TdIn.below (And.left (by assumption)) (by assumption)) | exact HJ2.out _ (TdIn.below (by assumption) (by assumption)))
    (first
      | (go_at_call 28; refine (HSM.out _ ?hkk).mono ?_; (case hkk => (first | exact And.left (by assumption) | assumption)); rintro e w' ⟨rfl, hdd⟩; have hb := Drawn0.below hdd)
      | (go_at_call 61; refine (HN2.out _ ?hkk).mono ?_; (case hkk => (first | exact And.left (by assumption) | assumption)); rintro e w' ⟨rfl, hdd⟩; have hb := Below.of_eq hdd))
  obtain ⟨hF3, -⟩ := ‹TdIn w2 q (.slice A9 N c9) _ ∧ _›
  have HF3 := Aside0.mk hF3
  have HB3 := Aside0.mk (HB2.out.trans (Below.mono (show Below w2.heap.size w2 _ from HF3.out) HB2.out.size))
  have HLT := Aside0.mk (let_is A1 n1 c1 W.heap.size bs _ (HA2.out.below HF3.out) HLB.out HB3.out.size)
  clear hF3 hk0 jq
  go_wp2_with (first
    | (go_at_call 30; have HCC := HLT.out; (with_reducible refine HCC.mono ?_); rintro e w4 ⟨rfl, hg⟩; have HB4 := Aside0.mk (below_grown HB3.out (Nat.le_refl _) hg (fun b hb => (HA2.out.lt b hb).1)); clear hg HCC HLT HF3)
    | (go_at_call 59; have HCC := HD2.out _ HB4.out; (with_reducible refine HCC.mono ?_); rintro e w5 ⟨v5, rfl, hr5, hb5⟩; obtain ⟨A5, n5, c5, rfl, ho5⟩ := R_own hr5; have HA5 := Aside0.mk ho5; have HB5 := Aside0.mk (HB4.out.trans (hb5.mono HB4.out.size)); have HS5 := Aside0.mk (same_yes A5 n5 c5 B m d bs w5 HA5.out.reads2 HA5.out.room (HR.out w5 HB5.out) HMD.out (by have := HLB.out; omega)); clear hr5 hb5 ho5 HCC)
    | (go_at_call 28; have HCC := HS5.out; (with_reducible refine HCC.mono ?_); rintro e w6 ⟨rfl, hd6⟩; have HB6 := Aside0.mk (HB5.out.trans (hd6.below.mono HB5.out.size)); clear HCC hd6))
  go_ret
  exact ⟨rfl, HB6.out⟩
end Go.Proofs.Ytceeoifbimlkdaa.B
