/- Proved: the contract of the codec law's placed: bytes that are written over where they lie and handed in again. Conditions: bytes are bytes; bounds of the lengths. -/
import Derived.Test.YtceeoifbimlkdaaHTwice
import Derived.Test.YtceeoifbimlkdaaHRdF
namespace Go.Proofs.Ytceeoifbimlkdaa.B
open Go.RowKit Go.Proofs.YtceeoifbimlkdaaW.PrintWords Go.Proofs.YtceeoifbimlkdaaW.PrintLast Go.Proofs.YtceeoifbimlkdaaW.PrintMore
open Go.Proofs.Ytceeoifbimlkdaa.Pure (sealP unsealP turnL sumN)

/-- Lists of the call's own, each in a block that is no other's. -/
def Objs (W : World) (base : Nat) : List (Sl × List Int) → Prop
  | [] => True
  | p :: L => Own .u8 5 W base p.1 p.2 ∧ (∀ q ∈ L, NeRow p.1.v q.1.v) ∧ Objs W base L
theorem Objs.move {W W' : World} {base : Nat} : ∀ {L : List (Sl × List Int)}, Objs W base L → (∀ q ∈ L, ∀ b, q.1.v.ownBlock = some b → W'.heap[b]? = W.heap[b]?) → Objs W' base L
  | [], _, _ => trivial
  | p :: _, h, hm => ⟨h.1.move (hm p (List.mem_cons_self ..)), h.2.1, Objs.move h.2.2 fun q hq => hm q (List.mem_cons_of_mem _ hq)⟩
theorem Objs.lt {W : World} {base : Nat} : ∀ {L : List (Sl × List Int)}, Objs W base L → ∀ q ∈ L, ∀ b, q.1.v.ownBlock = some b → base ≤ b ∧ b < W.heap.size
  | [], _, q, hq, _, _ => by cases hq
  | p :: L, h, q, hq, b, hb => by
    rcases List.mem_cons.1 hq with e | e
    · rw [e] at hb; exact h.1.lt b hb
    · exact Objs.lt h.2.2 q e b hb
theorem Objs.typed {W : World} {base : Nat} : ∀ {L : List (Sl × List Int)}, Objs W base L → ∀ q ∈ L, ∀ b, q.1.v.ownBlock = some b → ∃ c, W.heap[b]? = some (.cells c 5 (0, 0))
  | [], _, q, hq, _, _ => by cases hq
  | p :: L, h, q, hq, b, hb => by
    rcases List.mem_cons.1 hq with e | e
    · rw [e] at hb; exact h.1.typed b hb
    · exact Objs.typed h.2.2 q e b hb
theorem Objs.below {W W' : World} {base : Nat} {L : List (Sl × List Int)} (h : Objs W base L) (hb : Below W.heap.size W W') : Objs W' base L := h.move fun q hq b e => hb.block b (h.lt q hq b e).2
theorem Objs.push {W W' : World} {base : Nat} {p : Sl × List Int} {L : List (Sl × List Int)} (h : Objs W base (p :: L)) (hb : Below W.heap.size W W') {s : Sl} {xs : List Int} (ho : Own .u8 5 W' W.heap.size s xs) (hbase : base ≤ W.heap.size) : Objs W' base (p :: (s, xs) :: L) := by
  have h2 := h.below hb
  refine ⟨h2.1, ?_, ho.lower hbase, ?_, h2.2.2⟩
  · intro q hq
    rcases List.mem_cons.1 hq with e | e
    · rw [e]
      exact fun b h1 h3 => by
        have := (h.1.lt b h1).2
        have := (ho.lt b h3).1
        omega
    · exact h2.2.1 q e
  · exact fun q hq b h1 h3 => by
      have := (ho.lt b h1).1
      have := (h.lt q (List.mem_cons_of_mem _ hq) b h3).2
      omega
theorem Objs.head {W W' : World} {base : Nat} {L : List (Sl × List Int)} (h : Objs W base L) (hb : Below W.heap.size W W') {s : Sl} {xs : List Int} (ho : Own .u8 5 W' W.heap.size s xs) (hbase : base ≤ W.heap.size) : Objs W' base ((s, xs) :: L) := by
  refine ⟨ho.lower hbase, ?_, h.below hb⟩
  exact fun q hq b h1 h3 => by
    have := (ho.lt b h1).1
    have := (h.lt q hq b h3).2
    omega
theorem Objs.laid {W W' : World} {base : Nat} {g : Sl} {ys zs : List Int} {L : List (Sl × List Int)} (h : Objs W base ((g, ys) :: L)) (ho : Own .u8 5 W' base g zs) (hg : W.grownBy W' g.v.ownBlock) : Objs W' base ((g, zs) :: L) :=
  ⟨ho, h.2.1, Objs.move h.2.2 fun q hq b e => hg.block b (h.lt q (List.mem_cons_of_mem _ hq) b e).2 fun e2 => h.2.1 q hq b e2.symm e⟩
theorem Objs.keep {W W' : World} {base g t : Nat} {c : Array Value} {L : List (Sl × List Int)} (h : Objs W base L) (hk : KeepBut W W' g none) (hb : W.heap[g]? = some (.cells c t (0, 0))) (ht : t ≠ 5) : Objs W' base L := h.move fun q hq b e => hk.2 b (h.lt q hq b e).2 (fun e2 => by
  obtain ⟨c2, hc2⟩ := h.typed q hq b e
  rw [e2, hb] at hc2
  injection hc2 with hc2
  injection hc2 with _ hc2
  exact ht hc2) (by simp)
theorem laid_below {B : Nat} {W0 W W' : World} (h : Below B W0 W) (hB : B ≤ W.heap.size) {g : Sl} {xs : List Int} (ho : Own .u8 5 W B g xs) (hg : W.grownBy W' g.v.ownBlock) : Below B W0 W' := h.grown hg hB fun k hk => (ho.lt k hk).1
/-- A reader, over a row of its own. -/
def RdBlk (W : World) (g : Nat) (A : Option Addr) (n c : Nat) : Prop := W.heap[g]? = some (.cells #[.slice A n c, .int .i64 0] 106 (0, 0))
theorem RdBlk.laid {W W' : World} {g : Nat} {A : Option Addr} {n c base : Nat} {s : Sl} {xs : List Int} (h : RdBlk W g A n c) (ho : Own .u8 5 W base s xs) (hg : W.grownBy W' s.v.ownBlock) : RdBlk W' g A n c :=
  (hg.block g (blk_lt h) fun e => by
    obtain ⟨c2, hc2⟩ := ho.typed g e.symm
    rw [h] at hc2
    injection hc2 with hc2
    injection hc2 with _ hc2
    exact absurd hc2 (by decide)).trans h
theorem RdBlk.below {W W' : World} {g : Nat} {A : Option Addr} {n c : Nat} (h : RdBlk W g A n c) (hb : Below W.heap.size W W') : RdBlk W' g A n c := (hb.block g (blk_lt h)).trans h
theorem RdBlk.rd {W : World} {g : Nat} {A : Option Addr} {n c base : Nat} {xs : List Int} (h : RdBlk W g A n c) (ho : Own .u8 5 W base ⟨A, n, c⟩ xs) : RdAt W g A c xs 0 := by
  have hn : n = xs.length := ho.len
  subst hn
  refine ⟨h, ho.room, ho.reads, fun ad e => ?_⟩
  intro e2
  obtain ⟨c2, hc2⟩ := ho.typed g (by unfold Sl.v; subst e; rw [← e2]; rfl)
  rw [h] at hc2
  injection hc2 with hc2
  injection hc2 with _ hc2
  exact absurd hc2 (by decide)
set_option maxHeartbeats 4000000 in
set_option maxRecDepth 100000 in
theorem newReader_own (W : World) (A : Option Addr) (n c : Nat) (xs : List Int) (hr : Kd.C (Kd.int .u8) W A n xs) (hc : n ≤ c) (hl : xs.length < 140737488355328) :
    Calls Try.prog 39 #[.slice A n c] W fun e w' => ∃ g A2 n2 c2, e = .returned (.pointer (some ⟨g, 0, none⟩)) ∧ RdBlk w' g A2 n2 c2 ∧ Own .u8 5 w' W.heap.size ⟨A2, n2, c2⟩ xs ∧ W.heap.size ≤ g ∧ Below W.heap.size W w' := by
  have hn : xs.length = n := hr.1
  subst hn
  have HN := Aside0.mk (bytes_Clone.calls A c xs xs W hr hc (by unfold bytes_Clone.f; rw [if_pos (by simpa using hl)]))
  have hu106 := Try.underlying106
  clear hr
  go_enter Try.func39, Try.ntmps39
  go_wp2_with (go_at_call 66; refine HN.out.mono ?_; rintro e w1 ⟨v1, rfl, hR, hB⟩; obtain ⟨A2, n2, c2, rfl, ho⟩ := Own.of_R3 hR; have HO := Aside0.mk ho; have HB := Aside0.mk hB; clear hR hB ho)
  go_ret
  exact ⟨w1.heap.size, A2, n2, c2, rfl, heap_alloc_new _ _, HO.out.below (below_alloc (Below.refl _ _) _), HB.out.size, HB.out.alloc HB.out.size _⟩
theorem src_ne {W : World} {B : Option Addr} {m d : Nat} {ys : List Int} (h : Kd.C (Kd.int .u8) W B m ys) (hp : 0 < ys.length) (b : Nat) (hb : (Value.slice B m d).ownBlock = some b) : b < W.heap.size := by
  have hm := h.1
  obtain ⟨ad, e, hx⟩ := Kd.at_int h 0 (by omega) (by omega)
  subst e
  have := World.block_lt_of_cell? W _ hx
  rw [add_blk] at this
  have e2 : ad.block = b := by simpa [Value.ownBlock] using hb
  omega
theorem Objs.pushK {W W' : World} {base g t : Nat} {c : Array Value} {p : Sl × List Int} {L : List (Sl × List Int)} (h : Objs W base (p :: L)) (hk : KeepBut W W' g none) (hb : W.heap[g]? = some (.cells c t (0, 0))) (ht : t ≠ 5) {s : Sl} {xs : List Int} (ho : Own .u8 5 W' W.heap.size s xs) (hbase : base ≤ W.heap.size) : Objs W' base (p :: (s, xs) :: L) := by
  have h2 := h.keep hk hb ht
  refine ⟨h2.1, ?_, ho.lower hbase, ?_, h2.2.2⟩
  · intro q hq
    rcases List.mem_cons.1 hq with e | e
    · rw [e]
      exact fun b h1 h3 => by
        have := (h.1.lt b h1).2
        have := (ho.lt b h3).1
        omega
    · exact h2.2.1 q e
  · exact fun q hq b h1 h3 => by
      have := (ho.lt b h1).1
      have := (h.lt q (List.mem_cons_of_mem _ hq) b h3).2
      omega
theorem readAll (W : World) (g : Nat) (A : Option Addr) (n c base N : Nat) (xs : List Int) (h : RdBlk W g A n c) (ho : Own .u8 5 W base ⟨A, n, c⟩ xs) (hN : xs.length = N) (hl : N < 140737488355328) :
    Calls Try.prog 55 #[.pointer (some ⟨g, 0, none⟩), .int .i64 (N : Nat)] W fun e w' => ∃ A' n' c', e = .returned (.slice A' n' c') ∧ Own .u8 5 w' W.heap.size ⟨A', n', c'⟩ xs ∧ KeepBut W w' g none ∧ (∀ B, B ≤ g → Below B W w') := by
  subst hN
  refine (rBytes_any W g A c (xs, 0) (xs.length : Nat) (h.rd ho) (blk_lt h) hl).mono ?_
  rintro e w' ⟨v, rfl, hR, _, hk, hB⟩
  obtain ⟨A', n', c', rfl, ho'⟩ := Own.of_R3 hR
  have e : (rTake (xs, 0) (xs.length : Nat)).1 = xs := by
    unfold rTake
    rw [if_pos ⟨rfl, by omega, by simp⟩]
    simp
  rw [e] at ho'
  exact ⟨A', n', c', rfl, ho', hk, hB⟩
set_option maxHeartbeats 16000000 in
set_option maxRecDepth 100000 in
theorem placed_is (kind : Int) (A1 : Option Addr) (n1 c1 : Nat) (xs : List Int) (A2 : Option Addr) (n2 c2 : Nat) (zs : List Int) (W : World) (hk : 0 ≤ kind ∧ kind < 256) (hb1 : Pure.Bytes xs) (hb2 : Pure.Bytes zs) (hr1 : Kd.C (Kd.int .u8) W A1 n1 xs) (hc1 : n1 ≤ c1) (hr2 : Kd.C (Kd.int .u8) W A2 n2 zs) (hc2 : n2 ≤ c2) (hl1 : xs.length ≤ 281474976) (hl2 : zs.length ≤ 281474976) :
    Calls Try.prog 33 #[.int .u8 kind, .slice A1 n1 c1, .slice A2 n2 c2] W fun e w' => e = .returned (.bool true) ∧ Below W.heap.size W w' := by
  have htl : (turnL xs).length = xs.length := Pure.turnL_length xs
  have hzl : (turnL zs).length = zs.length := Pure.turnL_length zs
  have HK := Aside0.mk hk
  have HC1 := Aside0.mk hc1
  have HC2 := Aside0.mk hc2
  have HR1 := Aside0.mk hr1
  have HR2 := Aside0.mk hr2
  have HRB := Aside0.mk (fun {W' : World} (h : Below W.heap.size W W') => Kd.C_below hr1 h)
  have HRZ := Aside0.mk (fun {W' : World} (h : Below W.heap.size W W') => Kd.C_below hr2 h)
  have HTB := Aside0.mk (fun (W' : World) (h : Below W.heap.size W W') => turned_c A1 n1 c1 xs W' (by omega) (Kd.C_below hr1 h) hc1)
  have HTZ := Aside0.mk (fun (W' : World) (h : Below W.heap.size W W') => turned_c A2 n2 c2 zs W' (by omega) (Kd.C_below hr2 h) hc2)
  have HXS := Aside0.mk (show Pure.Bytes xs ∧ xs.length ≤ 281474976710656 from ⟨hb1, by omega⟩)
  have HTS := Aside0.mk (show Pure.Bytes (turnL xs) ∧ (turnL xs).length ≤ 281474976710656 from ⟨Pure.turnL_bytes xs, by omega⟩)
  have HZS := Aside0.mk (show Pure.Bytes zs ∧ zs.length ≤ 281474976710656 from ⟨hb2, by omega⟩)
  have HZT := Aside0.mk (show Pure.Bytes (turnL zs) ∧ (turnL zs).length ≤ 281474976710656 from ⟨Pure.turnL_bytes zs, by omega⟩)
  have HTL := Aside0.mk (show (turnL xs).length < 140737488355328 by omega)
  have HXL := Aside0.mk (show xs.length < 140737488355328 by omega)
  have HLEN := Aside0.mk (show (turnL xs).length = xs.length ∧ xs.length ≤ 1099511627776 from ⟨htl, by omega⟩)
  have HLT := Aside0.mk (show (turnL xs).length ≤ 1099511627776 by omega)
  have HZL := Aside0.mk (show (turnL zs).length = zs.length ∧ zs.length ≤ 1099511627776 from ⟨hzl, by omega⟩)
  have HN1 := Aside0.mk (show (turnL xs).length = n1 ∧ xs.length = n1 ∧ n1 < 140737488355328 from ⟨by rw [htl]; exact hr1.1, hr1.1, by have := hr1.1; omega⟩)
  have HS1 := Aside0.mk (show (sealP kind xs).1.length ≤ 281474976710656 from Nat.le_trans (Pure.sealP_length kind xs) (by omega))
  have HS2 := Aside0.mk (show (sealP kind (turnL xs)).1.length ≤ 281474976710656 from Nat.le_trans (Pure.sealP_length kind _) (by omega))
  have HU1 := Aside0.mk (show (unsealP kind zs).1.length ≤ 281474976710656 from Nat.le_trans (Pure.unsealP_length kind zs) (by omega))
  have HU2 := Aside0.mk (show (unsealP kind (turnL zs)).1.length ≤ 281474976710656 from Nat.le_trans (Pure.unsealP_length kind _) (by omega))
  have HCS := Aside0.mk (fun (A : Option Addr) (n c : Nat) (W : World) (h1 : Kd.C (Kd.int .u8) W A n xs) (h2 : n ≤ c) => seal_c kind A n c xs W hk hb1 h1 h2)
  have HCT := Aside0.mk (fun (A : Option Addr) (n c : Nat) (W : World) (h1 : Kd.C (Kd.int .u8) W A n (turnL xs)) (h2 : n ≤ c) => seal_c kind A n c (turnL xs) W hk HTS.out.1 h1 h2)
  have HDS := Aside0.mk (fun (A : Option Addr) (n c : Nat) (W : World) (h1 : Kd.C (Kd.int .u8) W A n xs) (h2 : n ≤ c) => rseal_c kind A n c xs W hk hb1 h1 h2)
  have HDT := Aside0.mk (fun (A : Option Addr) (n c : Nat) (W : World) (h1 : Kd.C (Kd.int .u8) W A n (turnL xs)) (h2 : n ≤ c) => rseal_c kind A n c (turnL xs) W hk HTS.out.1 h1 h2)
  have HES := Aside0.mk (fun (A : Option Addr) (n c : Nat) (W : World) (h1 : Kd.C (Kd.int .u8) W A n zs) (h2 : n ≤ c) => unseal_c kind A n c zs W hk hb2 HZS.out.2 h1 h2)
  have HET := Aside0.mk (fun (A : Option Addr) (n c : Nat) (W : World) (h1 : Kd.C (Kd.int .u8) W A n (turnL zs)) (h2 : n ≤ c) => unseal_c kind A n c (turnL zs) W hk HZT.out.1 HZT.out.2 h1 h2)
  have HFS := Aside0.mk (fun (A : Option Addr) (n c : Nat) (W : World) (h1 : Kd.C (Kd.int .u8) W A n zs) (h2 : n ≤ c) => runseal_c kind A n c zs W hk hb2 HZS.out.2 h1 h2)
  have HFT := Aside0.mk (fun (A : Option Addr) (n c : Nat) (W : World) (h1 : Kd.C (Kd.int .u8) W A n (turnL zs)) (h2 : n ≤ c) => runseal_c kind A n c (turnL zs) W hk HZT.out.1 HZT.out.2 h1 h2)
  unfold SlPost at HCS HCT HDS HDT HES HET HFS HFT
  generalize (sealP kind xs).1 = S1 at *
  generalize (sealP kind xs).2 = r1 at *
  generalize (sealP kind (turnL xs)).1 = S2 at *
  generalize (sealP kind (turnL xs)).2 = r2 at *
  generalize (unsealP kind zs).1 = U1 at *
  generalize (unsealP kind zs).2 = r3 at *
  generalize (unsealP kind (turnL zs)).1 = U2 at *
  generalize (unsealP kind (turnL zs)).2 = r4 at *
  generalize turnL xs = ts at *
  generalize turnL zs = tz at *
  have BE0 := Aside0.mk (Below.refl W.heap.size W)
  have OB0 := Aside0.mk (show Objs W W.heap.size [] from trivial)
  clear hk hb1 hb2 hr1 hc1 hr2 hc2 hl1 hl2 htl hzl
  go_enter Try.func33, Try.ntmps33
  go_wp2_with (first
    | (go_at_call 67; have HCC := HTB.out W BE0.out; (with_reducible refine HCC.mono ?_); rintro e w1 ⟨tA, tn, tc, rfl, ho, hb⟩; have BE1 := Aside0.mk (BE0.out.trans (hb.mono BE0.out.size)); have OB1 := Aside0.mk (Objs.head OB0.out hb ho BE0.out.size); clear hb ho HCC)
    | (go_at_call 67; have HCC := HTB.out w1 BE1.out; (with_reducible refine HCC.mono ?_); rintro e w2 ⟨gA, gn, gc, rfl, ho, hb⟩; have BE2 := Aside0.mk (BE1.out.trans (hb.mono BE1.out.size)); have OB2 := Aside0.mk (Objs.head OB1.out hb ho BE1.out.size); clear hb ho HCC)
    | (go_at_call 24; have HCC := sum_c gA gn gc ts w2 HTS.out.1 HTS.out.2 (OB2.out.1).reads' (OB2.out.1).room; (with_reducible refine HCC.mono ?_); rintro e w3 ⟨rfl, hb⟩; have BE3 := Aside0.mk (BE2.out.trans (hb.mono BE2.out.size)); have OB3 := Aside0.mk (OB2.out.below hb); clear hb HCC)
    | (go_at_call 68; have HCC := lay_is gA gn gc W.heap.size _ A1 n1 c1 xs w3 (OB3.out.1) (by first | exact HLEN.out.1 | rfl) (HRB.out BE3.out) HLEN.out.2 (fun hp b hb hb2 => by have h1 := ((OB3.out.1).lt b hb).1; have h2 := src_ne HR1.out hp b hb2; omega); (with_reducible refine HCC.mono ?_); rintro e w4 ⟨rfl, ho, hg⟩; have BE4 := Aside0.mk (laid_below BE3.out BE3.out.size (OB3.out.1) hg); have OB4 := Aside0.mk (OB3.out.laid ho hg); clear ho hg HCC)
    | (go_at_call 24; have HCC := sum_c gA gn gc xs w4 HXS.out.1 HXS.out.2 (OB4.out.1).reads' (OB4.out.1).room; (with_reducible refine HCC.mono ?_); rintro e w5 ⟨rfl, hb⟩; have BE5 := Aside0.mk (BE4.out.trans (hb.mono BE4.out.size)); have OB5 := Aside0.mk (OB4.out.below hb); clear hb HCC)
    | (go_at_call 68; have HCC := lay_is gA gn gc W.heap.size _ tA tn tc ts w5 (OB5.out.1) (by first | exact HLEN.out.1.symm | rfl) (OB5.out.2.2.1).reads' HLT.out (fun _ b hb hb2 => OB5.out.2.1 (⟨tA, tn, tc⟩, ts) (by simp) b hb hb2); (with_reducible refine HCC.mono ?_); rintro e w6 ⟨rfl, ho, hg⟩; have BE6 := Aside0.mk (laid_below BE5.out BE5.out.size (OB5.out.1) hg); have OB6 := Aside0.mk (OB5.out.laid ho hg); clear ho hg HCC)
    | (go_at_call 26; have HCC := HCT.out gA gn gc w6 (OB6.out.1).reads' (OB6.out.1).room; (with_reducible refine HCC.mono ?_); rintro e w7 ⟨aA, an, ac, rfl, ho, hb⟩; have BE7 := Aside0.mk (BE6.out.trans (hb.mono BE6.out.size)); have OB7 := Aside0.mk (OB6.out.push hb ho BE6.out.size); clear hb ho HCC)
    | (go_at_call 68; have HCC := lay_is gA gn gc W.heap.size _ A1 n1 c1 xs w7 (OB7.out.1) (by first | exact HLEN.out.1 | rfl) (HRB.out BE7.out) HLEN.out.2 (fun hp b hb hb2 => by have h1 := ((OB7.out.1).lt b hb).1; have h2 := src_ne HR1.out hp b hb2; omega); (with_reducible refine HCC.mono ?_); rintro e w8 ⟨rfl, ho, hg⟩; have BE8 := Aside0.mk (laid_below BE7.out BE7.out.size (OB7.out.1) hg); have OB8 := Aside0.mk (OB7.out.laid ho hg); clear ho hg HCC)
    | (go_at_call 26; have HCC := HCS.out gA gn gc w8 (OB8.out.1).reads' (OB8.out.1).room; (with_reducible refine HCC.mono ?_); rintro e w9 ⟨cA, cn, cc, rfl, ho, hb⟩; have BE9 := Aside0.mk (BE8.out.trans (hb.mono BE8.out.size)); have OB9 := Aside0.mk (OB8.out.push hb ho BE8.out.size); clear hb ho HCC)
    | (go_at_call 68; have HCC := lay_is gA gn gc W.heap.size _ tA tn tc ts w9 (OB9.out.1) (by first | exact HLEN.out.1.symm | rfl) (OB9.out.2.2.2.2.2.2.1).reads' HLT.out (fun _ b hb hb2 => OB9.out.2.1 (⟨tA, tn, tc⟩, ts) (by simp) b hb hb2); (with_reducible refine HCC.mono ?_); rintro e w10 ⟨rfl, ho, hg⟩; have BE10 := Aside0.mk (laid_below BE9.out BE9.out.size (OB9.out.1) hg); have OB10 := Aside0.mk (OB9.out.laid ho hg); clear ho hg HCC)
    | (go_at_call 39; have HCC := newReader_own w10 gA gn gc ts (OB10.out.1).reads' (OB10.out.1).room HTL.out; (with_reducible refine HCC.mono ?_); rintro e w11 ⟨gr, rA, rn, rc, rfl, hrb, ho, hlow, hb⟩; have BE11 := Aside0.mk (BE10.out.trans (hb.mono BE10.out.size)); have OB11 := Aside0.mk (OB10.out.push hb ho BE10.out.size); have RBgr11 := Aside0.mk hrb; have HLOgr := Aside0.mk (Nat.le_trans BE10.out.size hlow); clear hb ho HCC; clear hrb hlow)
    | (go_at_call 68; have HCC := lay_is gA gn gc W.heap.size _ A1 n1 c1 xs w11 (OB11.out.1) (by first | exact HLEN.out.1 | rfl) (HRB.out BE11.out) HLEN.out.2 (fun hp b hb hb2 => by have h1 := ((OB11.out.1).lt b hb).1; have h2 := src_ne HR1.out hp b hb2; omega); (with_reducible refine HCC.mono ?_); rintro e w12 ⟨rfl, ho, hg⟩; have BE12 := Aside0.mk (laid_below BE11.out BE11.out.size (OB11.out.1) hg); have OB12 := Aside0.mk (OB11.out.laid ho hg); have RBgr12 := Aside0.mk (RBgr11.out.laid (OB11.out.1) hg); clear ho hg HCC)
    | (go_at_call 39; have HCC := newReader_own w12 gA gn gc xs (OB12.out.1).reads' (OB12.out.1).room HXL.out; (with_reducible refine HCC.mono ?_); rintro e w13 ⟨gq, qA, qn, qc, rfl, hrb, ho, hlow, hb⟩; have BE13 := Aside0.mk (BE12.out.trans (hb.mono BE12.out.size)); have OB13 := Aside0.mk (OB12.out.push hb ho BE12.out.size); have RBgr13 := Aside0.mk (RBgr12.out.below hb); have RBgq13 := Aside0.mk hrb; have HLOgq := Aside0.mk (Nat.le_trans BE12.out.size hlow); have HNE := Aside0.mk (show gq ≠ gr by have := blk_lt RBgr12.out; omega); clear hb ho HCC; clear hrb hlow)
    | (go_at_call 27; have HCC := HDT.out tA tn tc w13 (OB13.out.2.2.2.2.2.2.2.2.2.2.1).reads' (OB13.out.2.2.2.2.2.2.2.2.2.2.1).room; (with_reducible refine HCC.mono ?_); rintro e w14 ⟨xA, xn, xc, rfl, ho, hb⟩; have BE14 := Aside0.mk (BE13.out.trans (hb.mono BE13.out.size)); have OB14 := Aside0.mk (OB13.out.push hb ho BE13.out.size); have RBgr14 := Aside0.mk (RBgr13.out.below hb); have RBgq14 := Aside0.mk (RBgq13.out.below hb); clear hb ho HCC)
    | (go_at_call 27; have HCC := HDS.out A1 n1 c1 w14 (HRB.out BE14.out) HC1.out; (with_reducible refine HCC.mono ?_); rintro e w15 ⟨yA, yn, yc, rfl, ho, hb⟩; have BE15 := Aside0.mk (BE14.out.trans (hb.mono BE14.out.size)); have OB15 := Aside0.mk (OB14.out.push hb ho BE14.out.size); have RBgr15 := Aside0.mk (RBgr14.out.below hb); have RBgq15 := Aside0.mk (RBgq14.out.below hb); clear hb ho HCC)
    | (go_at_call 25; have HCC := rsum_c tA tn tc ts w15 HTS.out.1 HTS.out.2 (OB15.out.2.2.2.2.2.2.2.2.2.2.2.2.2.2.1).reads' (OB15.out.2.2.2.2.2.2.2.2.2.2.2.2.2.2.1).room; (with_reducible refine HCC.mono ?_); rintro e w16 ⟨rfl, hb⟩; have BE16 := Aside0.mk (BE15.out.trans (hb.mono BE15.out.size)); have OB16 := Aside0.mk (OB15.out.below hb); have RBgr16 := Aside0.mk (RBgr15.out.below hb); have RBgq16 := Aside0.mk (RBgq15.out.below hb); clear hb HCC)
    | (go_at_call 25; have HCC := rsum_c A1 n1 c1 xs w16 HXS.out.1 HXS.out.2 (HRB.out BE16.out) HC1.out; (with_reducible refine HCC.mono ?_); rintro e w17 ⟨rfl, hb⟩; have BE17 := Aside0.mk (BE16.out.trans (hb.mono BE16.out.size)); have OB17 := Aside0.mk (OB16.out.below hb); have RBgr17 := Aside0.mk (RBgr16.out.below hb); have RBgq17 := Aside0.mk (RBgq16.out.below hb); clear hb HCC)
    | (go_at_call 28; have HCC := same_yes aA an ac xA xn xc S2 w17 (OB17.out.2.2.2.2.2.2.2.2.2.2.2.2.1).reads' (OB17.out.2.2.2.2.2.2.2.2.2.2.2.2.1).room (OB17.out.2.2.2.2.1).reads' (OB17.out.2.2.2.2.1).room HS2.out; (with_reducible refine HCC.mono ?_); rintro e w18 ⟨rfl, hdd⟩; have hb := Drawn0.below hdd; have BE18 := Aside0.mk (BE17.out.trans (hb.mono BE17.out.size)); have OB18 := Aside0.mk (OB17.out.below hb); have RBgr18 := Aside0.mk (RBgr17.out.below hb); have RBgq18 := Aside0.mk (RBgq17.out.below hb); clear hb HCC hdd)
    | (go_at_call 28; have HCC := same_yes cA cn cc yA yn yc S1 w18 (OB18.out.2.2.2.2.2.2.2.2.2.2.1).reads' (OB18.out.2.2.2.2.2.2.2.2.2.2.1).room (OB18.out.2.2.1).reads' (OB18.out.2.2.1).room HS1.out; (with_reducible refine HCC.mono ?_); rintro e w19 ⟨rfl, hdd⟩; have hb := Drawn0.below hdd; have BE19 := Aside0.mk (BE18.out.trans (hb.mono BE18.out.size)); have OB19 := Aside0.mk (OB18.out.below hb); have RBgr19 := Aside0.mk (RBgr18.out.below hb); have RBgq19 := Aside0.mk (RBgq18.out.below hb); clear hb HCC hdd)
    | (go_at_call 55; have HCC := readAll w19 gr rA rn rc W.heap.size n1 ts RBgr19.out (OB19.out.2.2.2.2.2.2.2.2.1) HN1.out.1 HN1.out.2.2; (with_reducible refine HCC.mono ?_); rintro e w20 ⟨mA, mn, mc, rfl, ho, hk, hB⟩; have OB20 := Aside0.mk (OB19.out.pushK hk RBgr19.out (by decide) ho BE19.out.size); have BE20 := Aside0.mk (BE19.out.trans (hB W.heap.size HLOgr.out)); have RBgq20 := Aside0.mk (show RdBlk w20 gq _ _ _ from (hk.2 gq (blk_lt RBgq19.out) HNE.out (by simp)).trans RBgq19.out); clear hk hB ho HCC)
    | (go_at_call 28; have HCC := same_yes mA mn mc tA tn tc ts w20 (OB20.out.2.2.1).reads' (OB20.out.2.2.1).room (OB20.out.2.2.2.2.2.2.2.2.2.2.2.2.2.2.2.2.1).reads' (OB20.out.2.2.2.2.2.2.2.2.2.2.2.2.2.2.2.2.1).room HTS.out.2; (with_reducible refine HCC.mono ?_); rintro e w21 ⟨rfl, hdd⟩; have hb := Drawn0.below hdd; have BE21 := Aside0.mk (BE20.out.trans (hb.mono BE20.out.size)); have OB21 := Aside0.mk (OB20.out.below hb); have RBgq21 := Aside0.mk (RBgq20.out.below hb); clear hb HCC hdd)
    | (go_at_call 55; have HCC := readAll w21 gq qA qn qc W.heap.size n1 xs RBgq21.out (OB21.out.2.2.2.2.2.2.2.2.1) HN1.out.2.1 HN1.out.2.2; (with_reducible refine HCC.mono ?_); rintro e w22 ⟨oA, on, oc, rfl, ho, hk, hB⟩; have OB22 := Aside0.mk (OB21.out.pushK hk RBgq21.out (by decide) ho BE21.out.size); have BE22 := Aside0.mk (BE21.out.trans (hB W.heap.size HLOgq.out)); clear hk hB ho HCC)
    | (go_at_call 28; have HCC := same_yes oA on oc A1 n1 c1 xs w22 (OB22.out.2.2.1).reads' (OB22.out.2.2.1).room (HRB.out BE22.out) HC1.out HXS.out.2; (with_reducible refine HCC.mono ?_); rintro e w23 ⟨rfl, hdd⟩; have hb := Drawn0.below hdd; have BE23 := Aside0.mk (BE22.out.trans (hb.mono BE22.out.size)); have OB23 := Aside0.mk (OB22.out.below hb); clear hb HCC hdd)
    | (go_at_call 67; have HCC := HTZ.out w23 BE23.out; (with_reducible refine HCC.mono ?_); rintro e w24 ⟨zA, zn, zc, rfl, ho, hb⟩; have BE24 := Aside0.mk (BE23.out.trans (hb.mono BE23.out.size)); have OB24 := Aside0.mk (OB23.out.push hb ho BE23.out.size); clear hb ho HCC)
    | (go_at_call 67; have HCC := HTZ.out w24 BE24.out; (with_reducible refine HCC.mono ?_); rintro e w25 ⟨hA, hn, hc, rfl, ho, hb⟩; have BE25 := Aside0.mk (BE24.out.trans (hb.mono BE24.out.size)); have OB25 := Aside0.mk (Objs.head OB24.out hb ho BE24.out.size); clear hb ho HCC)
    | (go_at_call 31; have HCC := HET.out hA hn hc w25 (OB25.out.1).reads' (OB25.out.1).room; (with_reducible refine HCC.mono ?_); rintro e w26 ⟨lA, ln, lc, rfl, ho, hb⟩; have BE26 := Aside0.mk (BE25.out.trans (hb.mono BE25.out.size)); have OB26 := Aside0.mk (OB25.out.push hb ho BE25.out.size); clear hb ho HCC)
    | (go_at_call 68; have HCC := lay_is hA hn hc W.heap.size _ A2 n2 c2 zs w26 (OB26.out.1) HZL.out.1 (HRZ.out BE26.out) HZL.out.2 (fun hp b hb hb2 => by have h1 := ((OB26.out.1).lt b hb).1; have h2 := src_ne HR2.out hp b hb2; omega); (with_reducible refine HCC.mono ?_); rintro e w27 ⟨rfl, ho, hg⟩; have BE27 := Aside0.mk (laid_below BE26.out BE26.out.size (OB26.out.1) hg); have OB27 := Aside0.mk (OB26.out.laid ho hg); clear ho hg HCC)
    | (go_at_call 31; have HCC := HES.out hA hn hc w27 (OB27.out.1).reads' (OB27.out.1).room; (with_reducible refine HCC.mono ?_); rintro e w28 ⟨kA, kn, kc, rfl, ho, hb⟩; have BE28 := Aside0.mk (BE27.out.trans (hb.mono BE27.out.size)); have OB28 := Aside0.mk (OB27.out.push hb ho BE27.out.size); clear hb ho HCC)
    | (go_at_call 32; have HCC := HFT.out zA zn zc w28 (OB28.out.2.2.2.2.2.2.2.2.1).reads' (OB28.out.2.2.2.2.2.2.2.2.1).room; (with_reducible refine HCC.mono ?_); rintro e w29 ⟨dA, dn, dc, rfl, ho, hb⟩; have BE29 := Aside0.mk (BE28.out.trans (hb.mono BE28.out.size)); have OB29 := Aside0.mk (OB28.out.push hb ho BE28.out.size); clear hb ho HCC)
    | (go_at_call 32; have HCC := HFS.out A2 n2 c2 w29 (HRZ.out BE29.out) HC2.out; (with_reducible refine HCC.mono ?_); rintro e w30 ⟨pA, pn, pc, rfl, ho, hb⟩; have BE30 := Aside0.mk (BE29.out.trans (hb.mono BE29.out.size)); have OB30 := Aside0.mk (OB29.out.push hb ho BE29.out.size); clear hb ho HCC)
    | (go_at_call 28; have HCC := same_yes lA ln lc dA dn dc U2 w30 (OB30.out.2.2.2.2.2.2.2.2.1).reads' (OB30.out.2.2.2.2.2.2.2.2.1).room (OB30.out.2.2.2.2.1).reads' (OB30.out.2.2.2.2.1).room HU2.out; (with_reducible refine HCC.mono ?_); rintro e w31 ⟨rfl, hdd⟩; have hb := Drawn0.below hdd; have BE31 := Aside0.mk (BE30.out.trans (hb.mono BE30.out.size)); have OB31 := Aside0.mk (OB30.out.below hb); clear hb HCC hdd)
    | (go_at_call 28; have HCC := same_yes kA kn kc pA pn pc U1 w31 (OB31.out.2.2.2.2.2.2.1).reads' (OB31.out.2.2.2.2.2.2.1).room (OB31.out.2.2.1).reads' (OB31.out.2.2.1).room HU1.out; (with_reducible refine HCC.mono ?_); rintro e w32 ⟨rfl, hdd⟩; have hb := Drawn0.below hdd; have BE32 := Aside0.mk (BE31.out.trans (hb.mono BE31.out.size)); have OB32 := Aside0.mk (OB31.out.below hb); clear hb HCC hdd)
    | (go_at_call 28; have HCC := same_yes gA gn gc A1 n1 c1 xs w32 (OB32.out.2.2.2.2.2.2.2.2.2.2.1).reads' (OB32.out.2.2.2.2.2.2.2.2.2.2.1).room (HRB.out BE32.out) HC1.out HXS.out.2; (with_reducible refine HCC.mono ?_); rintro e w33 ⟨rfl, hdd⟩; have hb := Drawn0.below hdd; have BE33 := Aside0.mk (BE32.out.trans (hb.mono BE32.out.size)); have OB33 := Aside0.mk (OB32.out.below hb); clear hb HCC hdd)
    | (go_at_call 28; have HCC := same_yes hA hn hc A2 n2 c2 zs w33 (OB33.out.1).reads' (OB33.out.1).room (HRZ.out BE33.out) HC2.out HZS.out.2; (with_reducible refine HCC.mono ?_); rintro e w34 ⟨rfl, hdd⟩; have hb := Drawn0.below hdd; have BE34 := Aside0.mk (BE33.out.trans (hb.mono BE33.out.size)); have OB34 := Aside0.mk (OB33.out.below hb); clear hb HCC hdd))
  go_ret
  exact ⟨rfl, BE34.out⟩
end Go.Proofs.Ytceeoifbimlkdaa.B
