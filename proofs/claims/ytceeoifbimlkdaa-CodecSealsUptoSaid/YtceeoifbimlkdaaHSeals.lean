/- Proved: the law CodecSeals answers true at any kind and any bytes. Conditions: bytes are bytes; bounds of the lengths. -/
import Derived.Test.YtceeoifbimlkdaaHPlaced
namespace Go.Proofs.Ytceeoifbimlkdaa.B
open Go.RowKit Go.Proofs.YtceeoifbimlkdaaW.PrintWords Go.Proofs.YtceeoifbimlkdaaW.PrintLast Go.Proofs.YtceeoifbimlkdaaW.PrintMore
open Go.Proofs.Ytceeoifbimlkdaa.Pure (sealP unsealP turnL sumN)

theorem Marked.below {W W' : World} {base : Nat} {v : Value} {xs : List Int} (h : Marked W base v xs) (hb : Below W.heap.size W W') : Marked W' base v xs := by
  obtain ⟨g, c, hv, ho⟩ := h.row
  exact ⟨g, c, hv, ho.below hb⟩
theorem Marked.lower {W : World} {base base' : Nat} {v : Value} {xs : List Int} (h : Marked W base v xs) (hb : base' ≤ base) : Marked W base' v xs := by
  obtain ⟨g, c, hv, ho⟩ := h.row
  exact ⟨g, c, hv, ho.lower hb⟩
theorem Marked.lt {W : World} {base : Nat} {v : Value} {xs : List Int} (h : Marked W base v xs) (b : Nat) (hb : v.ownBlock = some b) : base ≤ b ∧ b < W.heap.size := by
  obtain ⟨g, c, hv, ho⟩ := h.row
  refine ho.lt b ?_
  rw [hv] at hb
  exact hb
theorem Marked.reads {W : World} {base n c : Nat} {A : Option Addr} {xs : List Int} (h : Marked W base (.slice A n c) xs) : Kd.C (Kd.int .u8) W A n xs ∧ n ≤ c := by
  obtain ⟨g, c', hv, ho⟩ := h.row
  injection hv with e1 e2 e3
  subst e1 e2 e3
  have := ho.room
  exact ⟨take_reads ho, by simp only at this; omega⟩
theorem fresh_ne {W W' : World} {s : Sl} {xs : List Int} {v : Value} (ho : Own .u8 5 W' W.heap.size s xs) (hv : ∀ b, v.ownBlock = some b → b < W.heap.size) (b : Nat) (hb : s.v.ownBlock = some b) : some b ≠ v.ownBlock := fun e => by
  have := (ho.lt b hb).1
  have := hv b e.symm
  omega
set_option maxHeartbeats 16000000 in
set_option maxRecDepth 100000 in
theorem seals_is (kind : Int) (A1 : Option Addr) (n1 c1 : Nat) (xs : List Int) (A2 : Option Addr) (n2 c2 : Nat) (zs : List Int) (W : World) (hk : 0 ≤ kind ∧ kind < 256) (hb1 : Pure.Bytes xs) (hb2 : Pure.Bytes zs) (hr1 : Kd.C (Kd.int .u8) W A1 n1 xs) (hc1 : n1 ≤ c1) (hr2 : Kd.C (Kd.int .u8) W A2 n2 zs) (hc2 : n2 ≤ c2) (hl1 : xs.length ≤ 2097152) (hl2 : zs.length ≤ 2097152) :
    Calls Try.prog 7 #[.int .u8 kind, .slice A1 n1 c1, .slice A2 n2 c2] W fun e w' => e = .returned (.bool true) ∧ Below W.heap.size W w' := by
  have HC1 := Aside0.mk hc1
  have HC2 := Aside0.mk hc2
  have HR1 := Aside0.mk hr1
  have HN1 := Aside0.mk (show xs.length = n1 from hr1.1)
  have HN2 := Aside0.mk (show zs.length = n2 from hr2.1)
  have HRB := Aside0.mk (fun {W' : World} (h : Below W.heap.size W W') => Kd.C_below hr1 h)
  have HRZ := Aside0.mk (fun {W' : World} (h : Below W.heap.size W W') => Kd.C_below hr2 h)
  have HXS := Aside0.mk (show Pure.Bytes xs ∧ xs.length ≤ 281474976710656 from ⟨hb1, by omega⟩)
  have HL1 := Aside0.mk (show xs.length ≤ 1099511627776 by omega)
  have HL2 := Aside0.mk (show zs.length ≤ 1099511627776 by omega)
  have hs1 : (sealP kind xs).1.length ≤ 1099511627776 := Nat.le_trans (Pure.sealP_length kind xs) (by omega)
  have hu1 : (unsealP kind zs).1.length ≤ 1099511627776 := Nat.le_trans (Pure.unsealP_length kind zs) (by omega)
  have HS1 := Aside0.mk (show (sealP kind xs).1.length ≤ 281474976710656 ∧ (sealP kind xs).1.length ≤ 1099511627776 from ⟨by omega, hs1⟩)
  have HU1 := Aside0.mk (show (unsealP kind zs).1.length ≤ 281474976710656 ∧ (unsealP kind zs).1.length ≤ 1099511627776 from ⟨by omega, hu1⟩)
  have HCS := Aside0.mk (fun (A : Option Addr) (n c : Nat) (W : World) (h1 : Kd.C (Kd.int .u8) W A n xs) (h2 : n ≤ c) => seal_c kind A n c xs W hk hb1 h1 h2)
  have HDS := Aside0.mk (fun (A : Option Addr) (n c : Nat) (W : World) (h1 : Kd.C (Kd.int .u8) W A n xs) (h2 : n ≤ c) => rseal_c kind A n c xs W hk hb1 h1 h2)
  have HES := Aside0.mk (fun (A : Option Addr) (n c : Nat) (W : World) (h1 : Kd.C (Kd.int .u8) W A n zs) (h2 : n ≤ c) => unseal_c kind A n c zs W hk hb2 (by omega) h1 h2)
  have HFS := Aside0.mk (fun (A : Option Addr) (n c : Nat) (W : World) (h1 : Kd.C (Kd.int .u8) W A n zs) (h2 : n ≤ c) => runseal_c kind A n c zs W hk hb2 (by omega) h1 h2)
  have HPL := Aside0.mk (fun (W' : World) (h : Below W.heap.size W W') => placed_is kind A1 n1 c1 xs A2 n2 c2 zs W' hk hb1 hb2 (Kd.C_below hr1 h) hc1 (Kd.C_below hr2 h) hc2 (by omega) (by omega))
  have HTW := Aside0.mk (fun (W' : World) (h : Below W.heap.size W W') => twice_is kind A1 n1 c1 xs A2 n2 c2 zs W' hk hb1 hb2 (Kd.C_below hr1 h) hc1 (Kd.C_below hr2 h) hc2 (by omega) (by omega) (by omega))
  unfold SlPost at HCS HDS HES HFS
  generalize (sealP kind xs).1 = S1 at *
  generalize (sealP kind xs).2 = r1 at *
  generalize (unsealP kind zs).1 = U1 at *
  generalize (unsealP kind zs).2 = r3 at *
  have BE0 := Aside0.mk (Below.refl W.heap.size W)
  clear hk hb1 hb2 hr1 hc1 hr2 hc2 hl1 hl2 hs1 hu1
  go_enter Try.func7, Try.ntmps7
  go_wp2_with (first
    | (go_at_call 23; have HCC := marked_is A1 n1 c1 xs W HR1.out HL1.out; (with_reducible refine HCC.mono ?_); rintro e w1 ⟨v, rfl, hM, hb⟩; obtain ⟨g, gc, hv, -⟩ := hM.row; rw [HN1.out] at hv; subst hv; have BE1 := Aside0.mk hb; have HM1 := Aside0.mk hM; clear hM hb HCC)
    | (go_at_call 24; have HCC := sum_c _ n1 gc xs w1 HXS.out.1 HXS.out.2 HM1.out.reads.1 HM1.out.reads.2; (with_reducible refine HCC.mono ?_); rintro e w2 ⟨rfl, hb⟩; have BE2 := Aside0.mk (BE1.out.trans (hb.mono BE1.out.size)); have HM2 := Aside0.mk (HM1.out.below hb); clear hb HCC)
    | (go_at_call 25; have HCC := rsum_c A1 n1 c1 xs w2 HXS.out.1 HXS.out.2 (HRB.out BE2.out) HC1.out; (with_reducible refine HCC.mono ?_); rintro e w3 ⟨rfl, hb⟩; have BE3 := Aside0.mk (BE2.out.trans (hb.mono BE2.out.size)); have HM3 := Aside0.mk (HM2.out.below hb); clear hb HCC)
    | (go_at_call 26; have HCC := HCS.out _ n1 gc w3 HM3.out.reads.1 HM3.out.reads.2; (with_reducible refine HCC.mono ?_); rintro e w4 ⟨aA, an, ac, rfl, ho, hb⟩; have BE4 := Aside0.mk (BE3.out.trans (hb.mono BE3.out.size)); have HM4 := Aside0.mk (HM3.out.below hb); have HNA := Aside0.mk (fresh_ne ho (fun b hb => (HM3.out.lt b hb).2)); have HA4 := Aside0.mk ho; clear hb ho HCC)
    | (go_at_call 27; have HCC := HDS.out A1 n1 c1 w4 (HRB.out BE4.out) HC1.out; (with_reducible refine HCC.mono ?_); rintro e w5 ⟨xA, xn, xc, rfl, ho, hb⟩; have BE5 := Aside0.mk (BE4.out.trans (hb.mono BE4.out.size)); have HM5 := Aside0.mk (HM4.out.below hb); have HX5 := Aside0.mk ho; have HA5 := Aside0.mk (HA4.out.below hb); clear hb ho HCC)
    | (go_at_call 28; have HCC := same_yes aA an ac xA xn xc S1 w5 HA5.out.reads' HA5.out.room HX5.out.reads' HX5.out.room HS1.out.1; (with_reducible refine HCC.mono ?_); rintro e w6 ⟨rfl, hdd⟩; have hb := Drawn0.below hdd; have BE6 := Aside0.mk (BE5.out.trans (hb.mono BE5.out.size)); have HM6 := Aside0.mk (HM5.out.below hb); have HA6 := Aside0.mk (HA5.out.below hb); clear hb hdd HCC)
    | (go_at_call 29; have HCC := left_is _ xs W.heap.size A1 n1 c1 w6 HM6.out (HRB.out BE6.out) HC1.out HL1.out; (with_reducible refine HCC.mono ?_); rintro e w7 ⟨rfl, hg⟩; have BE7 := Aside0.mk (BE6.out.grown hg BE6.out.size fun b hb => (HM6.out.lt b hb).1); have HA7 := Aside0.mk (HA6.out.grown hg HNA.out); clear hg HCC)
    | (go_at_call 30; have HCC := let_is aA an ac W.heap.size S1 w7 (HA7.out.lower BE3.out.size) HS1.out.2 BE7.out.size; (with_reducible refine HCC.mono ?_); rintro e w8 ⟨rfl, hg⟩; have BE8 := Aside0.mk (BE7.out.grown hg BE7.out.size fun b hb => Nat.le_trans BE3.out.size (HA7.out.lt b hb).1); clear hg HCC)
    | (go_at_call 23; have HCC := marked_is A2 n2 c2 zs w8 (HRZ.out BE8.out) HL2.out; (with_reducible refine HCC.mono ?_); rintro e w9 ⟨v, rfl, hM, hb⟩; obtain ⟨h, hc, hv, -⟩ := hM.row; rw [HN2.out] at hv; subst hv; have BE9 := Aside0.mk (BE8.out.trans (hb.mono BE8.out.size)); have HM9 := Aside0.mk (hM.lower BE8.out.size); clear hM hb HCC)
    | (go_at_call 31; have HCC := HES.out _ n2 hc w9 HM9.out.reads.1 HM9.out.reads.2; (with_reducible refine HCC.mono ?_); rintro e w10 ⟨cA, cn, cc, rfl, ho, hb⟩; have BE10 := Aside0.mk (BE9.out.trans (hb.mono BE9.out.size)); have HM10 := Aside0.mk (HM9.out.below hb); have HNC := Aside0.mk (fresh_ne ho (fun b hb => (HM9.out.lt b hb).2)); have HC10 := Aside0.mk ho; clear hb ho HCC)
    | (go_at_call 32; have HCC := HFS.out A2 n2 c2 w10 (HRZ.out BE10.out) HC2.out; (with_reducible refine HCC.mono ?_); rintro e w11 ⟨yA, yn, yc, rfl, ho, hb⟩; have BE11 := Aside0.mk (BE10.out.trans (hb.mono BE10.out.size)); have HM11 := Aside0.mk (HM10.out.below hb); have HNY := Aside0.mk (fresh_ne ho (fun b hb => (HM10.out.lt b hb).2)); have HCY := Aside0.mk (fresh_ne (v := .slice cA cn cc) ho (fun b hb => (HC10.out.lt b hb).2)); have HY11 := Aside0.mk ho; have HC11 := Aside0.mk (HC10.out.below hb); clear hb ho HCC)
    | (go_at_call 28; have HCC := same_yes cA cn cc yA yn yc U1 w11 HC11.out.reads' HC11.out.room HY11.out.reads' HY11.out.room HU1.out.1; (with_reducible refine HCC.mono ?_); rintro e w12 ⟨rfl, hdd⟩; have hb := Drawn0.below hdd; have BE12 := Aside0.mk (BE11.out.trans (hb.mono BE11.out.size)); have HM12 := Aside0.mk (HM11.out.below hb); have HC12 := Aside0.mk (HC11.out.below hb); have HY12 := Aside0.mk (HY11.out.below hb); clear hb hdd HCC)
    | (go_at_call 29; have HCC := left_is _ zs W.heap.size A2 n2 c2 w12 HM12.out (HRZ.out BE12.out) HC2.out HL2.out; (with_reducible refine HCC.mono ?_); rintro e w13 ⟨rfl, hg⟩; have BE13 := Aside0.mk (BE12.out.grown hg BE12.out.size fun b hb => (HM12.out.lt b hb).1); have HC13 := Aside0.mk (HC12.out.grown hg HNC.out); have HY13 := Aside0.mk (HY12.out.grown hg HNY.out); clear hg HCC)
    | (go_at_call 28; have HCC := same_yes cA cn cc yA yn yc U1 w13 HC13.out.reads' HC13.out.room HY13.out.reads' HY13.out.room HU1.out.1; (with_reducible refine HCC.mono ?_); rintro e w14 ⟨rfl, hdd⟩; have hb := Drawn0.below hdd; have BE14 := Aside0.mk (BE13.out.trans (hb.mono BE13.out.size)); have HC14 := Aside0.mk (HC13.out.below hb); have HY14 := Aside0.mk (HY13.out.below hb); clear hb hdd HCC)
    | (go_at_call 30; have HCC := let_is cA cn cc W.heap.size U1 w14 (HC14.out.lower BE9.out.size) HU1.out.2 BE14.out.size; (with_reducible refine HCC.mono ?_); rintro e w15 ⟨rfl, hg⟩; have BE15 := Aside0.mk (BE14.out.grown hg BE14.out.size fun b hb => Nat.le_trans BE9.out.size (HC14.out.lt b hb).1); have HY15 := Aside0.mk (HY14.out.grown hg HCY.out); clear hg HCC)
    | (go_at_call 31; have HCC := HES.out A2 n2 c2 w15 (HRZ.out BE15.out) HC2.out; (with_reducible refine HCC.mono ?_); rintro e w16 ⟨gA, gn, gc2, rfl, ho, hb⟩; have BE16 := Aside0.mk (BE15.out.trans (hb.mono BE15.out.size)); have HG16 := Aside0.mk ho; have HY16 := Aside0.mk (HY15.out.below hb); clear hb ho HCC)
    | (go_at_call 28; have HCC := same_yes gA gn gc2 yA yn yc U1 w16 HG16.out.reads' HG16.out.room HY16.out.reads' HY16.out.room HU1.out.1; (with_reducible refine HCC.mono ?_); rintro e w17 ⟨rfl, hdd⟩; have hb := Drawn0.below hdd; have BE17 := Aside0.mk (BE16.out.trans (hb.mono BE16.out.size)); clear hb hdd HCC)
    | (go_at_call 33; have HCC := HPL.out w17 BE17.out; (with_reducible refine HCC.mono ?_); rintro e w18 ⟨rfl, hb⟩; have BE18 := Aside0.mk (BE17.out.trans (hb.mono BE17.out.size)); clear hb HCC)
    | (go_at_call 34; have HCC := HTW.out w18 BE18.out; (with_reducible refine HCC.mono ?_); rintro e w19 ⟨rfl, hb⟩; have BE19 := Aside0.mk (BE18.out.trans (hb.mono BE18.out.size)); clear hb HCC))
  go_ret
  exact ⟨rfl, BE19.out⟩
end Go.Proofs.Ytceeoifbimlkdaa.B
