/- Proved: the contracts of Seal and Unseal, the program's and the reference's, and of the codec law's twice. Conditions: bytes are bytes; bounds of the lengths. -/
import Derived.Test.YtceeoifbimlkdaaHStands
import Derived.Test.YtceeoifbimlkdaaPureSeals
namespace Go.Proofs.Ytceeoifbimlkdaa.B
open Go.RowKit Go.Proofs.YtceeoifbimlkdaaW.PrintWords Go.Proofs.YtceeoifbimlkdaaW.PrintLast Go.Proofs.YtceeoifbimlkdaaW.PrintMore
open Go.Proofs.Ytceeoifbimlkdaa.Pure (sealP unsealP turnL sumN)

/-- A new list and a number are answered. -/
def SlPost (W : World) (ys : List Int) (r : Int) (e : Ending) (w' : World) : Prop := ∃ A' n' c', e = .returned (.tuple #[.slice A' n' c', .int .i64 r]) ∧ Own .u8 5 w' W.heap.size ⟨A', n', c'⟩ ys ∧ Below W.heap.size W w'
section
variable (kind : Int) (A : Option Addr) (n c : Nat) (xs : List Int) (W : World)
theorem seal_c (hk : 0 ≤ kind ∧ kind < 256) (hb : Pure.Bytes xs) (hr : Kd.C (Kd.int .u8) W A n xs) (hc : n ≤ c) : Calls Try.prog 26 #[.int .u8 kind, .slice A n c] W (SlPost W (sealP kind xs).1 (sealP kind xs).2) := by
  have hn : xs.length = n := hr.1
  subst hn
  refine (codec_Seal.calls _ kind A c xs _ _ W hr hc (Pure.seal_both (10 * xs.length + 200) kind xs hk hb (Nat.le_refl _)).1).mono ?_
  rintro e w' ⟨v, rfl, hR, hB⟩
  obtain ⟨A', n', c', rfl, ho⟩ := Own.of_R3 hR
  exact ⟨A', n', c', rfl, ho, hB⟩
theorem rseal_c (hk : 0 ≤ kind ∧ kind < 256) (hb : Pure.Bytes xs) (hr : Kd.C (Kd.int .u8) W A n xs) (hc : n ≤ c) : Calls Try.prog 27 #[.int .u8 kind, .slice A n c] W (SlPost W (sealP kind xs).1 (sealP kind xs).2) := by
  have hn : xs.length = n := hr.1
  subst hn
  refine (bulkheadref02_Seal.calls _ kind A c xs _ _ W hr hc (Pure.seal_both (10 * xs.length + 200) kind xs hk hb (Nat.le_refl _)).2).mono ?_
  rintro e w' ⟨v, rfl, hR, hB⟩
  obtain ⟨A', n', c', rfl, ho⟩ := Own.of_R3 hR
  exact ⟨A', n', c', rfl, ho, hB⟩
theorem unseal_c (hk : 0 ≤ kind ∧ kind < 256) (hb : Pure.Bytes xs) (hl : xs.length ≤ 281474976710656) (hr : Kd.C (Kd.int .u8) W A n xs) (hc : n ≤ c) : Calls Try.prog 31 #[.int .u8 kind, .slice A n c] W (SlPost W (unsealP kind xs).1 (unsealP kind xs).2) := by
  have hn : xs.length = n := hr.1
  subst hn
  refine (codec_Unseal.calls _ kind A c xs _ _ W hr hc (Pure.unseal_both (10 * xs.length + 200) kind xs hk hb hl (Nat.le_refl _)).1).mono ?_
  rintro e w' ⟨v, rfl, hR, hB⟩
  obtain ⟨A', n', c', rfl, ho⟩ := Own.of_R3 hR
  exact ⟨A', n', c', rfl, ho, hB⟩
theorem runseal_c (hk : 0 ≤ kind ∧ kind < 256) (hb : Pure.Bytes xs) (hl : xs.length ≤ 281474976710656) (hr : Kd.C (Kd.int .u8) W A n xs) (hc : n ≤ c) : Calls Try.prog 32 #[.int .u8 kind, .slice A n c] W (SlPost W (unsealP kind xs).1 (unsealP kind xs).2) := by
  have hn : xs.length = n := hr.1
  subst hn
  refine (bulkheadref02_Unseal.calls _ kind A c xs _ _ W hr hc (Pure.unseal_both (10 * xs.length + 200) kind xs hk hb hl (Nat.le_refl _)).2).mono ?_
  rintro e w' ⟨v, rfl, hR, hB⟩
  obtain ⟨A', n', c', rfl, ho⟩ := Own.of_R3 hR
  exact ⟨A', n', c', rfl, ho, hB⟩
theorem turned_c (hl : xs.length ≤ 281474976710) (hr : Kd.C (Kd.int .u8) W A n xs) (hc : n ≤ c) : Calls Try.prog 67 #[.slice A n c] W fun e w' => ∃ A' n' c', e = .returned (.slice A' n' c') ∧ Own .u8 5 w' W.heap.size ⟨A', n', c'⟩ (turnL xs) ∧ Below W.heap.size W w' := by
  have hn : xs.length = n := hr.1
  subst hn
  refine (bulkheadlaw02_turned.calls _ A c xs _ W hr hc (Pure.turned_eq xs hl (xs.length + 1) (Nat.lt_succ_self _))).mono ?_
  rintro e w' ⟨v, rfl, hR, hB⟩
  obtain ⟨A', n', c', rfl, ho⟩ := Own.of_R3 hR
  exact ⟨A', n', c', rfl, ho, hB⟩
theorem sum_c (hb : Pure.Bytes xs) (hl : xs.length ≤ 281474976710656) (hr : Kd.C (Kd.int .u8) W A n xs) (hc : n ≤ c) : Calls Try.prog 24 #[.slice A n c] W fun e w' => e = .returned (.int .u32 (sumN xs : Nat)) ∧ Below W.heap.size W w' := by
  have hn : xs.length = n := hr.1
  subst hn
  refine (codec_Sum.calls _ A c xs _ W hr hc (Pure.sum_eq xs hb hl (10 * xs.length + 1) (Nat.le_refl _))).mono ?_
  rintro e w' ⟨rfl, hd⟩
  exact ⟨rfl, hd.below⟩
theorem rsum_c (hb : Pure.Bytes xs) (hl : xs.length ≤ 281474976710656) (hr : Kd.C (Kd.int .u8) W A n xs) (hc : n ≤ c) : Calls Try.prog 25 #[.slice A n c] W fun e w' => e = .returned (.int .u32 (sumN xs : Nat)) ∧ Below W.heap.size W w' := by
  have hn : xs.length = n := hr.1
  subst hn
  refine (bulkheadref02_Sum.calls _ A c xs _ W hr hc (Pure.ref_sum_eq xs hb hl (10 * xs.length + 1) (Nat.le_refl _))).mono ?_
  rintro e w' ⟨rfl, hd⟩
  exact ⟨rfl, hd.below⟩
end
/-- The shelf of twice, and the turned bytes beside it. -/
structure TwIn (W0 : World) (g : Nat) (AB : Option Addr) (cB : Nat) (AH : Option Addr) (cH N : Nat) (bs hs : Nat → Sl) (fb fh : Nat → List Int) (t : Sl) (ts : List Int) (m : Nat) (w : World) : Prop where
  sh : ShAt w W0.heap.size g AB cB AH cH N N bs hs fb fh
  eq : ∀ i, i < N → fb i = fh i ∧ (fb i).length ≤ 1099511627776
  tt : Own .u8 5 w W0.heap.size t ts
  tf : ∀ b, t.v.ownBlock = some b → ¬ ShFoot g AB cB AH cH N N bs hs b ∧ b < m
  fm : ∀ b, ShFoot g AB cB AH cH N N bs hs b → b < m
  mw : m ≤ w.heap.size
  bel : Below W0.heap.size W0 w
section
variable {W0 : World} {g : Nat} {AB : Option Addr} {cB : Nat} {AH : Option Addr} {cH N : Nat} {bs hs : Nat → Sl} {fb fh : Nat → List Int} {t : Sl} {ts : List Int} {m : Nat} {w w' : World}
theorem TwIn.below (k : TwIn W0 g AB cB AH cH N bs hs fb fh t ts m w) (hb : Below w.heap.size w w') : TwIn W0 g AB cB AH cH N bs hs fb fh t ts m w' :=
  ⟨k.sh.below hb, k.eq, k.tt.below hb, k.tf, k.fm, Nat.le_trans k.mw hb.size, k.bel.trans (hb.mono k.bel.size)⟩
theorem TwIn.upto (k : TwIn W0 g AB cB AH cH N bs hs fb fh t ts m w) : TwIn W0 g AB cB AH cH N bs hs fb fh t ts w.heap.size w :=
  ⟨k.sh, k.eq, k.tt, fun b hb => ⟨(k.tf b hb).1, (k.tt.lt b hb).2⟩, fun b hb => (k.sh.foot_lt b hb).2, Nat.le_refl _, k.bel⟩
/-- What keep leaves of it. -/
def TwPost (W0 : World) (g N : Nat) (t : Sl) (ts : List Int) (e : Ending) (w' : World) : Prop := e = .returned (.tuple #[]) ∧ ∃ AB cB AH cH bs hs fb fh, TwIn W0 g AB cB AH cH (N + 1) bs hs fb fh t ts w'.heap.size w'
theorem tw_keep (k : TwIn W0 g AB cB AH cH N bs hs fb fh t ts m w) (hN : N < 400) (l : Sl) (xs : List Int) (hl : Own .u8 5 w m l xs) (B : Option Addr) (n d : Nat) (hy : Kd.C (Kd.int .u8) w B n xs) (hlen : xs.length ≤ 1099511627776) (hm : W0.heap.size ≤ m) :
    Calls Try.prog 69 #[.pointer (some ⟨g, 0, none⟩), .slice l.A l.n l.c, .slice B n d] w (TwPost W0 g N t ts) := by
  have hlf : ∀ b, l.v.ownBlock = some b → ¬ ShFoot g AB cB AH cH N N bs hs b := fun b hb hf => by
    have h1 := (hl.lt b hb).1
    have h2 := k.fm b hf
    omega
  refine (keep_is w W0.heap.size g AB cB AH cH N bs hs fb fh k.sh hN l xs (hl.lower hm) hlf B n d xs hy hlen).mono ?_
  rintro e w' ⟨rfl, AB', cB', AH', cH', w0, hsh, hbel, hpr, hw0, hB', hH'⟩
  refine ⟨rfl, AB', cB', AH', cH', _, _, _, _, hsh, ?_, ?_, ?_, fun b hb => (hsh.foot_lt b hb).2, Nat.le_refl _, k.bel.trans hbel⟩
  · intro i hi
    show (if i = N then xs else fb i) = (if i = N then xs else fh i) ∧ (if i = N then xs else fb i).length ≤ _
    by_cases e : i = N
    · rw [if_pos e, if_pos e]; exact ⟨rfl, hlen⟩
    · rw [if_neg e, if_neg e]; exact k.eq i (by omega)
  · refine k.tt.move fun b hb => ?_
    have hf := (k.tf b hb).1
    exact hpr b (k.tt.lt b hb).2 (fun e => hf (.inl e)) (fun e => hf (.inr (.inl e))) (fun e => hf (.inr (.inr (.inl e))))
  · intro b hb
    have hf := (k.tf b hb).1
    have hlt := (k.tt.lt b hb).2
    have hmb := (k.tf b hb).2
    have hmw := k.mw
    refine ⟨fun hsf => ?_, Nat.lt_of_lt_of_le hlt hbel.size⟩
    rcases hsf with h | h | h | ⟨i, hi, h⟩ | ⟨i, hi, h⟩
    · exact hf (.inl h)
    · rcases hB' b h with h2 | h2
      · exact hf (.inr (.inl h2))
      · omega
    · rcases hH' b h with h2 | h2
      · exact hf (.inr (.inr (.inl h2)))
      · omega
    · by_cases e : i = N
      · simp only [if_pos e] at h
        have := (hl.lt b h).1; omega
      · simp only [if_neg e] at h
        exact hf (.inr (.inr (.inr (.inl ⟨i, by omega, h⟩))))
    · by_cases e : i = N
      · simp only [if_pos e] at h
        have := hw0 b h; omega
      · simp only [if_neg e] at h
        exact hf (.inr (.inr (.inr (.inr ⟨i, by omega, h⟩))))
end
theorem tw_keep3 {W0 : World} {g : Nat} {AB : Option Addr} {cB : Nat} {AH : Option Addr} {cH N : Nat} {bs hs : Nat → Sl} {fb fh : Nat → List Int} {t : Sl} {ts : List Int} {m : Nat} {w : World} (k : TwIn W0 g AB cB AH cH N bs hs fb fh t ts m w) (hN : N < 400) (lA : Option Addr) (ln lc : Nat) (xs : List Int) (hl : Own .u8 5 w m ⟨lA, ln, lc⟩ xs) (B : Option Addr) (n d : Nat) (hy : Kd.C (Kd.int .u8) w B n xs) (hlen : xs.length ≤ 1099511627776) (hm : W0.heap.size ≤ m) :
    Calls Try.prog 69 #[.pointer (some ⟨g, 0, none⟩), .slice lA ln lc, .slice B n d] w (TwPost W0 g N t ts) := tw_keep k hN ⟨lA, ln, lc⟩ xs hl B n d hy hlen hm
theorem zero_shelf : (Try.prog.info? 91).map (fun i => (i.zero, i.size)) = some (some (.agg #[.slice none 0 0, .slice none 0 0, .slice none 0 0, .slice none 0 0]), 4) := by kernel_rfl
set_option maxHeartbeats 8000000 in
set_option maxRecDepth 100000 in
theorem twice_is (kind : Int) (A1 : Option Addr) (n1 c1 : Nat) (xs : List Int) (A2 : Option Addr) (n2 c2 : Nat) (zs : List Int) (W : World) (hk : 0 ≤ kind ∧ kind < 256) (hb1 : Pure.Bytes xs) (hb2 : Pure.Bytes zs) (hr1 : Kd.C (Kd.int .u8) W A1 n1 xs) (hc1 : n1 ≤ c1) (hr2 : Kd.C (Kd.int .u8) W A2 n2 zs) (hc2 : n2 ≤ c2) (hl1 : xs.length ≤ 1099511600000) (hl2 : zs.length ≤ 1099511600000) (hl3 : xs.length ≤ 281474976) :
    Calls Try.prog 34 #[.int .u8 kind, .slice A1 n1 c1, .slice A2 n2 c2] W fun e w' => e = .returned (.bool true) ∧ Below W.heap.size W w' := by
  have hu91 := Try.underlying91
  have HSB := Aside0.mk (fun (W' : World) (h : Below W.heap.size W W') => seal_c kind A1 n1 c1 xs W' hk hb1 (Kd.C_below hr1 h) hc1)
  have HRB := Aside0.mk (fun (W' : World) (h : Below W.heap.size W W') => rseal_c kind A1 n1 c1 xs W' hk hb1 (Kd.C_below hr1 h) hc1)
  have HUZ := Aside0.mk (fun (W' : World) (h : Below W.heap.size W W') => unseal_c kind A2 n2 c2 zs W' hk hb2 (by omega) (Kd.C_below hr2 h) hc2)
  have HRZ := Aside0.mk (fun (W' : World) (h : Below W.heap.size W W') => runseal_c kind A2 n2 c2 zs W' hk hb2 (by omega) (Kd.C_below hr2 h) hc2)
  have HST := Aside0.mk (fun (W' : World) (t : Sl) (base : Nat) (h : Own .u8 5 W' base t (turnL xs)) => seal_c kind t.A t.n t.c (turnL xs) W' hk (Pure.turnL_bytes xs) h.reads' h.room)
  have HRT := Aside0.mk (fun (W' : World) (t : Sl) (base : Nat) (h : Own .u8 5 W' base t (turnL xs)) => rseal_c kind t.A t.n t.c (turnL xs) W' hk (Pure.turnL_bytes xs) h.reads' h.room)
  have HTU := Aside0.mk (fun (W' : World) (h : Below W.heap.size W W') => turned_c A1 n1 c1 xs W' (by omega) (Kd.C_below hr1 h) hc1)
  have hs1 : (sealP kind xs).1.length ≤ 1099511627776 := Nat.le_trans (Pure.sealP_length kind xs) (by omega)
  have hs2 : (sealP kind (turnL xs)).1.length ≤ 1099511627776 := Nat.le_trans (Pure.sealP_length kind _) (by rw [Pure.turnL_length]; omega)
  have hs3 : (unsealP kind zs).1.length ≤ 1099511627776 := Nat.le_trans (Pure.unsealP_length kind zs) (by omega)
  have HS1 := Aside0.mk hs1
  have HS2 := Aside0.mk hs2
  have HS3 := Aside0.mk hs3
  have HB1 := Aside0.mk ((Below.refl _ W).alloc (Nat.le_refl _) (.cells #[.slice none 0 0, .slice none 0 0, .slice none 0 0, .slice none 0 0] 91))
  unfold SlPost at HSB HRB HUZ HRZ HST HRT
  generalize (sealP kind xs).1 = S1 at *
  generalize (sealP kind xs).2 = r1 at *
  generalize (sealP kind (turnL xs)).1 = S2 at *
  generalize (sealP kind (turnL xs)).2 = r2 at *
  generalize (unsealP kind zs).1 = S3 at *
  generalize (unsealP kind zs).2 = r3 at *
  generalize turnL xs = ts at *
  clear hk hb1 hb2 hr1 hc1 hr2 hc2 hl1 hl2 hl3 hs1 hs2 hs3
  go_enter Try.func34, Try.ntmps34
  go_wp2_with (go_at_call 67; refine (HTU.out _ HB1.out).mono ?_; rintro e w2 ⟨A', n', c', rfl, ho, hb⟩; have HO := Aside0.mk ho; have HB2 := Aside0.mk hb; clear ho hb)
  have HT0 := Aside0.mk (show TwIn W W.heap.size none 0 none 0 0 (fun _ => ⟨none, 0, 0⟩) (fun _ => ⟨none, 0, 0⟩) (fun _ => []) (fun _ => []) ⟨A', n', c'⟩ ts w2.heap.size w2 from by
    have hlow := HO.out
    have hb0 := HB1.out.size
    have hb2 := HB2.out
    have hblk := (hb2.block W.heap.size (by simp)).trans (heap_alloc_new W (.cells #[.slice none 0 0, .slice none 0 0, .slice none 0 0, .slice none 0 0] 91))
    refine ⟨⟨Nat.le_refl _, hblk, World.ownsRow_nil _ _ _ _, World.ownsRow_nil _ _ _ _, ne_nil _, fun i hi => absurd hi (Nat.not_lt_zero _), fun i hi => absurd hi (Nat.not_lt_zero _), fun i j hi => absurd hi (Nat.not_lt_zero _), fun i j hi => absurd hi (Nat.not_lt_zero _), fun i j hi => absurd hi (Nat.not_lt_zero _)⟩, fun i hi => absurd hi (Nat.not_lt_zero _), hlow.lower hb0, fun b hb => ⟨fun hf => ?_, (hlow.lt b hb).2⟩, fun b hf => ?_, Nat.le_refl _, HB1.out.trans (hb2.mono hb0)⟩
    · have h1 := (hlow.lt b hb).1
      simp at h1
      rcases hf with h | h | h | ⟨i, hi, h⟩ | ⟨i, hi, h⟩
      · omega
      · simp [Value.ownBlock] at h
      · simp [Value.ownBlock] at h
      · omega
      · omega
    · rcases hf with h | h | h | ⟨i, hi, h⟩ | ⟨i, hi, h⟩
      · have := blk_lt hblk; omega
      · simp [Value.ownBlock] at h
      · simp [Value.ownBlock] at h
      · omega
      · omega)
  clear HTU HO HB1 HB2
  obtain ⟨t, ht⟩ : ∃ t : Sl, t = ⟨A', n', c'⟩ := ⟨_, rfl⟩
  rw [← ht] at HT0
  have HSt := Aside0.mk (fun (W' : World) (h : Own .u8 5 W' W.heap.size t ts) => (show Calls Try.prog 26 #[.int .u8 kind, .slice A' n' c'] W' _ from by have h1 := HST.out W' t W.heap.size h; rw [ht] at h1; exact h1))
  have HRt := Aside0.mk (fun (W' : World) (h : Own .u8 5 W' W.heap.size t ts) => (show Calls Try.prog 27 #[.int .u8 kind, .slice A' n' c'] W' _ from by have h1 := HRT.out W' t W.heap.size h; rw [ht] at h1; exact h1))
  clear HST HRT
  clear ht
  go_loopw [9] (fun vi wr => ∃ (i m : Nat) (AB : Option Addr) (cB : Nat) (AH : Option Addr) (cH : Nat) (bs hs : Nat → Sl) (fb fh : Nat → List Int), vi = .int .i64 (i : Nat) ∧ i ≤ 2 ∧ Aside0 (TwIn W W.heap.size AB cB AH cH (3 * i) bs hs fb fh t ts m wr)) (fun vi _ => 2 - (intOf vi).toNat)
  case atStart => exact ⟨0, _, none, 0, none, 0, _, _, _, _, rfl, by omega, HT0⟩
  case round =>
    clear HT0
    obtain ⟨i, m, AB, cB, AH, cH, bs, hs, fb, fh, rfl, hi, HT⟩ := hrel
    by_cases hlt : i < 2
    · have HN0 := Aside0.mk (show 3 * i < 400 by omega)
      have HN1 := Aside0.mk (show 3 * i + 1 < 400 by omega)
      have HN2 := Aside0.mk (show 3 * i + 1 + 1 < 400 by omega)
      have HLT := Aside0.mk hlt
      go_wp2_with (first
        | (go_at_call 26; with_reducible refine (HSB.out _ HT.out.bel).mono ?_; rintro e w1 ⟨a1, a2, a3, rfl, ho, hb⟩; have HA := Aside0.mk ho; have HT1 := Aside0.mk (HT.out.upto.below hb); clear ho hb)
        | (go_at_call 27; with_reducible refine (HRB.out _ HT1.out.bel).mono ?_; rintro e w2 ⟨b1, b2, b3, rfl, ho, hb⟩; have HX := Aside0.mk ho; have HA2 := Aside0.mk (HA.out.below hb); have HT2 := Aside0.mk (HT1.out.below hb); clear ho hb)
        | (go_at_call 69; have HKP := tw_keep3 HT2.out HN0.out a1 a2 a3 S1 HA2.out b1 b2 b3 HX.out.reads' HS1.out HT.out.bel.size; (with_reducible refine HKP.mono ?_); rintro e w3 ⟨rfl, AB3, cB3, AH3, cH3, bs3, hs3, fb3, fh3, hT⟩; have HT3 := Aside0.mk hT; clear hT)
        | (go_at_call 26; with_reducible refine (HSt.out _ HT3.out.tt).mono ?_; rintro e w4 ⟨d1, d2, d3, rfl, ho, hb⟩; have HA4 := Aside0.mk ho; have HT4 := Aside0.mk (HT3.out.below hb); clear ho hb)
        | (go_at_call 27; with_reducible refine (HRt.out _ HT4.out.tt).mono ?_; rintro e w5 ⟨e1, e2, e3, rfl, ho, hb⟩; have HX5 := Aside0.mk ho; have HA5 := Aside0.mk (HA4.out.below hb); have HT5 := Aside0.mk (HT4.out.below hb); clear ho hb)
        | (go_at_call 69; have HKP := tw_keep3 HT5.out HN1.out d1 d2 d3 S2 HA5.out e1 e2 e3 HX5.out.reads' HS2.out HT3.out.bel.size; (with_reducible refine HKP.mono ?_); rintro e w6 ⟨rfl, AB6, cB6, AH6, cH6, bs6, hs6, fb6, fh6, hT⟩; have HT6 := Aside0.mk hT; clear hT)
        | (go_at_call 31; with_reducible refine (HUZ.out _ HT6.out.bel).mono ?_; rintro e w7 ⟨p1, p2, p3, rfl, ho, hb⟩; have HA7 := Aside0.mk ho; have HT7 := Aside0.mk (HT6.out.below hb); clear ho hb)
        | (go_at_call 32; with_reducible refine (HRZ.out _ HT7.out.bel).mono ?_; rintro e w8 ⟨q1, q2, q3, rfl, ho, hb⟩; have HX8 := Aside0.mk ho; have HA8 := Aside0.mk (HA7.out.below hb); have HT8 := Aside0.mk (HT7.out.below hb); clear ho hb)
        | (go_at_call 69; have HKP := tw_keep3 HT8.out HN2.out p1 p2 p3 S3 HA8.out q1 q2 q3 HX8.out.reads' HS3.out HT6.out.bel.size; (with_reducible refine HKP.mono ?_); rintro e w9 ⟨rfl, AB9, cB9, AH9, cH9, bs9, hs9, fb9, fh9, hT⟩; have HT9 := Aside0.mk hT; clear hT))
      go_roundw
      case rel => exact ⟨i + 1, _, AB9, cB9, AH9, cH9, bs9, hs9, fb9, fh9, by go_num, by have := HLT.out; omega, HT9⟩
      case measure => have := HLT.out; simp [intOf]; omega
    · have hne : ¬ ((i : Int) < 2) := by omega
      have HSN := Aside0.mk (stands_is wr W.heap.size W.heap.size AB cB AH cH (3 * i) bs hs fb fh HT.out.sh (by omega) HT.out.eq)
      clear hlt
      go_wp2_with (go_at_call 70; refine HSN.out.mono ?_; rintro e w1 ⟨rfl, hb⟩; have HB := Aside0.mk (HT.out.bel.trans hb); clear hb)
      go_ret
      exact ⟨rfl, HB.out⟩
end Go.Proofs.Ytceeoifbimlkdaa.B
