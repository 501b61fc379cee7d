/- Proved: the contract of the Shelf's stands: lists of the call's own that read as they should. Conditions: no lists of ints; bounds of the lengths. -/
import Derived.Test.YtceeoifbimlkdaaHShelf2
namespace Go.Proofs.Ytceeoifbimlkdaa.B
open Go.RowKit Go.Proofs.YtceeoifbimlkdaaW.PrintWords Go.Proofs.YtceeoifbimlkdaaW.PrintLast Go.Proofs.YtceeoifbimlkdaaW.PrintMore

theorem below_set {base : Nat} {W W' : World} (h : Below base W W') {p : Addr} (hp : base ≤ p.block) (u : Value) : Below base W (W'.setCell p u) := h.setCell hp u
/-- The grown lists, and what has been turned since. -/
structure LgIn (W0 W : World) (base g : Nat) (AB : Option Addr) (cB : Nat) (AH : Option Addr) (cH : Nat) (N : Nat) (bs hs : Nat → Sl) (fb fh : Nat → List Int) (i : Nat) (AL : Option Addr) (cL : Nat) (ls : Nat → Sl) (xv : Nat → Int) : Prop where
  at_ : LgAt W base g AB cB AH cH N bs hs fb fh i AL cL ls xv
  bel : Below base W0 W
section
variable {W0 W W' : World} {base g : Nat} {AB : Option Addr} {cB : Nat} {AH : Option Addr} {cH : Nat} {N : Nat} {bs hs : Nat → Sl} {fb fh : Nat → List Int} {i : Nat} {AL : Option Addr} {cL : Nat} {ls : Nat → Sl} {xv : Nat → Int}
theorem LgIn.below (k : LgIn W0 W base g AB cB AH cH N bs hs fb fh i AL cL ls xv) (h : Below W.heap.size W W') : LgIn W0 W' base g AB cB AH cH N bs hs fb fh i AL cL ls xv := ⟨k.at_.below h, k.bel.trans (h.mono (by have := k.at_.sh.low; have := blk_lt k.at_.sh.blk; omega))⟩
theorem LgIn.drew (k : LgIn W0 W base g AB cB AH cH N bs hs fb fh i AL cL ls xv) : LgIn W0 W.drew base g AB cB AH cH N bs hs fb fh i AL cL ls xv := k.below (below_drew (Below.refl _ _))
theorem LgIn.see (k : LgIn W0 W base g AB cB AH cH N bs hs fb fh i AL cL ls xv) : LgIn W0 W base g AB cB AH cH N bs hs fb fh i AL cL ls xv ∧ W.cell? ⟨g, 0, none⟩ = some (.slice AB N cB) ∧ W.cell? ⟨g, 2, none⟩ = some (.slice none 0 0) := ⟨k, k.at_.sh.c0, k.at_.sh.c2⟩
end
set_option maxHeartbeats 8000000 in
set_option maxRecDepth 100000 in
theorem stands_is (W : World) (base g : Nat) (AB : Option Addr) (cB : Nat) (AH : Option Addr) (cH N : Nat) (bs hs : Nat → Sl) (fb fh : Nat → List Int) (k : ShAt W base g AB cB AH cH N N bs hs fb fh) (hN : N ≤ 400) (he : ∀ i, i < N → fb i = fh i ∧ (fb i).length ≤ 4398046511104) :
    Calls Try.prog 70 #[.pointer (some ⟨g, 0, none⟩)] W fun e w' => e = .returned (.bool true) ∧ Below base W w' := by
  have hu91 := Try.underlying91
  have hbs : base ≤ W.heap.size := by have := k.low; have := blk_lt k.blk; omega
  have HBS := Aside0.mk hbs
  have HK := Aside0.mk k
  have HE := Aside0.mk he
  have HH := Aside0.mk (holds_is W base g AB cB AH cH N bs hs fb fh k hN he)
  have HLH := Aside0.mk (fun (j : Nat) (hj : j < N) => (show (hs j).n = (bs j).n by rw [(k.oh j hj).len, (k.ob j hj).len, (he j hj).1]))
  have HLB := Aside0.mk (fun (j : Nat) (hj : j < N) => (show (bs j).n ≤ 4398046511104 by rw [(k.ob j hj).len]; exact (he j hj).2))
  have HMK := Aside0.mk (show Mk N (fun j => (bs j).n) (fun j => ((j % 250 : Nat) : Int)) 0 0 0 fb fh from fun j hj => ⟨(k.ob j hj).len.symm, by rw [← (he j hj).1]; exact (k.ob j hj).len.symm, fun a _ h => by omega, fun a _ h => by omega⟩)
  clear k he hbs
  go_enter Try.func70, Try.ntmps70
  go_wp2_with (go_at_call 120; refine HH.out.mono ?_; rintro e w1 ⟨rfl, hb1⟩; have HK1 := Aside0.mk (HK.out.below hb1); have HB1 := Aside0.mk (hb1.mono HBS.out); clear hb1)
  clear HH HE
  go_loopw [3] (fun vi wr => ∃ (i : Nat) (fb fh : Nat → List Int), vi = .int .i64 (i : Nat) ∧ i ≤ N ∧ Aside0 (ShAt wr base g AB cB AH cH N N bs hs fb fh) ∧ Aside0 (Mk N (fun j => (bs j).n) (fun j => ((j % 250 : Nat) : Int)) i 0 0 fb fh) ∧ Aside0 (Below base W wr)) (fun vi _ => N - (intOf vi).toNat)
  case atStart => exact ⟨0, fb, fh, rfl, Nat.zero_le _, HK1, HMK, HB1⟩
  case round =>
    clear HK1 HMK HB1 HK fb fh
    obtain ⟨i, fb, fh, rfl, hi, HK, HMK, HB⟩ := hrel
    by_cases hlt : i < N
    · obtain ⟨qB, eB⟩ := own_addr HK.out.rb (by omega)
      obtain ⟨qH, eH⟩ := own_addr HK.out.rh (by omega)
      subst eB eH
      have x0 := HK.out.c0
      have HLT := Aside0.mk hlt
      have hii : (i : Int) < (N : Int) := by omega
      have hM : Int.tmod (i : Int) 250 = ((i % 250 : Nat) : Int) := (Int.ofNat_tmod i 250).symm
      have hmi := Nat.mod_lt i (show 250 > 0 by omega)
      have HMI := Aside0.mk hmi
      obtain ⟨mi, hmi2⟩ : ∃ mi, i % 250 = mi := ⟨_, rfl⟩
      rw [hmi2] at hM hmi
      have HMI2 := Aside0.mk hmi2
      clear hmi2
      go_wp2
      have HK2 := HK
      have HMK2 := HMK
      have HB2 := HB
      clear HK HMK HB x0
      go_loopw [4] (fun vi wr => ∃ (k : Nat) (fb fh : Nat → List Int), vi = .int .i64 (k : Nat) ∧ k ≤ (bs i).n ∧ Aside0 (ShAt wr base g (some ⟨qB, 0, none⟩) cB (some ⟨qH, 0, none⟩) cH N N bs hs fb fh) ∧ Aside0 (Mk N (fun j => (bs j).n) (fun j => ((j % 250 : Nat) : Int)) i k k fb fh) ∧ Aside0 (Below base W wr)) (fun vi _ => (bs i).n - (intOf vi).toNat)
      case atStart => exact ⟨0, _, _, rfl, Nat.zero_le _, HK2, HMK2, HB2⟩
      case round =>
        clear HK2 HMK2 HB2 fb fh
        obtain ⟨k, fb, fh, rfl, hk, HK, HMK, HB⟩ := hrel
        have x0 := HK.out.c0
        have x2 := own_cell HK.out.rb i _ (sls_at N bs i HLT.out)
        by_cases hkt : k < (bs i).n
        · have hobl := (HMK.out i HLT.out).1
          have hohl := (HMK.out i HLT.out).2.1
          have hlb := HLB.out i HLT.out
          obtain ⟨pB, eA, -, hpB, -⟩ := (HK.out.ob i HLT.out).form (by dsimp only at hobl; omega)
          obtain ⟨pH, eC, -, hpH, -⟩ := (HK.out.oh i HLT.out).form (by dsimp only at hohl; omega)
          obtain ⟨ov, ck0, ck1⟩ : ∃ ov, wr.cell? ⟨pB, k, none⟩ = some (.int .u8 ov) ∧ wr.frozen? ⟨pB, k, none⟩ = false := ⟨_, (HK.out.ob i HLT.out).cell eA k (by dsimp only at hobl; omega)⟩
          have HK3 := Aside0.mk (HK.out.putB HLT.out eA k (mi : Int))
          have y1 := HK3.out.c1
          have y3 := own_cell HK3.out.rh i _ (sls_at N hs i HLT.out)
          obtain ⟨ow, ch0, ch1⟩ : ∃ ow, (wr.setCell ⟨pB, k, none⟩ (.int .u8 (mi : Int))).cell? ⟨pH, k, none⟩ = some (.int .u8 ow) ∧ (wr.setCell ⟨pB, k, none⟩ (.int .u8 (mi : Int))).frozen? ⟨pH, k, none⟩ = false := ⟨_, (HK3.out.oh i HLT.out).cell eC k (by dsimp only at hohl; omega)⟩
          have HK4 := Aside0.mk (HK3.out.putH HLT.out eC k (mi : Int))
          have HB4 := Aside0.mk (below_set (below_set HB.out (p := ⟨pB, k, none⟩) hpB (.int .u8 (mi : Int))) (p := ⟨pH, k, none⟩) hpH (.int .u8 (mi : Int)))
          have HMK3 := Aside0.mk (show Mk N (fun j => (bs j).n) (fun j => ((j % 250 : Nat) : Int)) i (k + 1) (k + 1) _ _ from by have h1 := (HMK.out.putB HLT.out hkt).putH HLT.out hkt; rw [HMI2.out] at h1; exact h1)
          have x2' : wr.cell? ⟨qB, i, none⟩ = some (.slice (some ⟨pB, 0, none⟩) (bs i).n (bs i).c) := by rw [← eA]; exact x2
          have y3' : (wr.setCell ⟨pB, k, none⟩ (.int .u8 (mi : Int))).cell? ⟨qH, i, none⟩ = some (.slice (some ⟨pH, 0, none⟩) (bs i).n (hs i).c) := by rw [← eC, ← HLH.out i HLT.out]; exact y3
          have hki : (k : Int) < ((bs i).n : Int) := by omega
          clear x2 y3 hobl hohl eA eC hpB hpH
          go_wp2
          go_roundw
          case rel => exact ⟨k + 1, _, _, by go_num, by omega, HK4, HMK3, HB4⟩
          case measure => simp [intOf]; omega
        · have hne : ¬ ((k : Int) < ((bs i).n : Int)) := by omega
          have hkn : k = (bs i).n := by omega
          have x2' : wr.cell? ⟨qB, i, none⟩ = some (.slice (bs i).A (bs i).n (bs i).c) := x2
          have HMK5 := Aside0.mk (HMK.out.next (by omega))
          clear x2 hkt hkn
          go_wp2
          go_roundw
          case rel => exact ⟨i + 1, fb, fh, by go_num, by have := HLT.out; omega, HK, HMK5, HB⟩
          case measure => have := HLT.out; simp [intOf]; omega
    · have hne : ¬ ((i : Int) < (N : Int)) := by omega
      have x0 := HK.out.c0
      have hin : i = N := by omega
      have HMD := Aside0.mk (show ∀ j, j < N → fb j = List.replicate (bs j).n ((j % 250 : Nat) : Int) ∧ fh j = List.replicate (bs j).n ((j % 250 : Nat) : Int) from fun j hj => Mk.done (show Mk N (fun j => (bs j).n) (fun j => ((j % 250 : Nat) : Int)) N 0 0 fb fh by have h := HMK.out; rw [hin] at h; exact h) j hj)
      clear hlt hin HMK
      go_wp2
      have HK2 := HK
      have HB2 := HB
      clear HK HB x0 hne
      go_loopw [5] (fun vi wr => vi = .int .i64 0 ∧ Aside0 (ShAt wr base g AB cB AH cH N N bs hs fb fh) ∧ Aside0 (Below base W wr)) (fun vi _ => 0)
      case atStart => exact ⟨rfl, HK2, HB2⟩
      case round =>
        clear HK2 HB2
        obtain ⟨rfl, HK, HB⟩ := hrel
        have x2 := HK.out.c2
        go_wp2
        have HK2 := HK
        have HB2 := HB
        clear HK HB x2
        obtain ⟨xv, hxv⟩ : ∃ xv : Nat → Int, xv = fun j => ((250 + j % 5 : Nat) : Int) := ⟨_, rfl⟩
        have HXV := Aside0.mk hxv
        clear hxv
        go_loopw [7, 8, 10] (fun v7 v8 v10 wr => ∃ (i tt : Nat) (AL : Option Addr) (cL : Nat) (ls : Nat → Sl), v10 = .int .i64 (i : Nat) ∧ i ≤ N ∧ v7 = .int .i64 (tt : Nat) ∧ 64 * i ≤ tt ∧ tt ≤ i * 4398046512000 ∧ v8 = .slice AL i cL ∧ Aside0 (LgAt wr base g AB cB AH cH N bs hs fb fh i AL cL ls xv) ∧ Aside0 (Below base W wr)) (fun _ _ vi _ => N - (intOf vi).toNat)
        case atStart => exact ⟨0, 0, none, 0, bs, rfl, Nat.zero_le _, rfl, by omega, by omega, rfl, ⟨⟨HK2.out, World.ownsRow_nil _ _ _ _, ne_nil _, ne_nil _, fun j hj => absurd hj (Nat.not_lt_zero _), fun j hj => absurd hj (Nat.not_lt_zero _)⟩⟩, HB2⟩
        case round =>
          clear HK2 HB2
          obtain ⟨i, tt, AL, cL, ls, rfl, hi, rfl, ht1, ht2, rfl, HG, HB⟩ := hrel
          have x0 := HG.out.sh.c0
          by_cases hlt : i < N
          · obtain ⟨qB, eB⟩ := own_addr HG.out.sh.rb (by omega)
            subst eB
            have x2 := own_cell HG.out.sh.rb i _ (sls_at N bs i hlt)
            have x2' : wr.cell? ⟨qB, i, none⟩ = some (.slice (bs i).A (bs i).n (bs i).c) := x2
            have HLT := Aside0.mk hlt
            have hii : (i : Int) < (N : Int) := by omega
            have HN1 := Aside0.mk (LnAt.first HG.out hlt)
            have HT := Aside0.mk (And.intro ht1 ht2)
            clear x2 ht1 ht2
            have hM5 : Int.tmod (i : Int) 5 = ((i % 5 : Nat) : Int) := (Int.ofNat_tmod i 5).symm
            have hr5 := Nat.mod_lt i (show 5 > 0 by omega)
            have HXI := Aside0.mk (show xv i = 250 + ((i % 5 : Nat) : Int) by rw [HXV.out]; dsimp only; omega)
            obtain ⟨r5, hr⟩ : ∃ r5, i % 5 = r5 := ⟨_, rfl⟩
            rw [hr] at hM5 hr5 HXI
            have hlb := HLB.out i hlt
            have HLB1 := Aside0.mk (show (fb i).length ≤ 4398046511104 by rw [← (HG.out.sh.ob i hlt).len]; exact hlb)
            have HSZ := Aside0.mk (show base ≤ wr.heap.size by have := HB.out.size; have := HBS.out; omega)
            clear hr hlb
            go_wp2
            have HB2 := HB
            clear HB HG x0 x2'
            go_loopw [11, 12] (fun v11 v12 wr => ∃ (k : Nat) (t : Sl), v12 = .int .i64 (k : Nat) ∧ k ≤ 64 ∧ v11 = .slice t.A t.n t.c ∧ Aside0 (LnAt wr base g (some ⟨qB, 0, none⟩) cB AH cH N bs hs fb fh i AL cL ls xv t k) ∧ Aside0 (Below base W wr)) (fun _ v12 _ => 64 - (intOf v12).toNat)
            case atStart => exact ⟨0, bs i, rfl, Nat.zero_le _, rfl, HN1, HB2⟩
            case round =>
              clear HN1 HB2
              obtain ⟨k, t, rfl, hk, rfl, HL, HB⟩ := hrel
              by_cases hkt : k < 64
              · have HLL := Aside0.mk (show ((fb i ++ List.replicate k (xv i)).length + 1) * 1 ≤ 140737488355328 by have := HLB1.out; simp; omega)
                have HSZ2 := Aside0.mk (show base ≤ wr.heap.size by have := HB.out.size; have := HBS.out; omega)
                go_wp2_with ((with_reducible refine gate_builtin (b := .append) (xs := #[.tmp 131, .tmp 136]) rfl ?_); at_builtin; refine print_append_both (w0 := W) base rfl (.tmp 131) (.tmp 136) 37 5 (.int .u8 0) 1 rfl Try.underlying37 infoU8 rfl (by decide) (.slice t.A t.n t.c) (nums .u8 (fb i ++ List.replicate k (xv i))) (.int .u8 (250 + (r5 : Int))) rfl rfl rfl ?aO ?aB ?aS ?aL ?_; (case aO => rw [nums_length]; exact HL.out.lo); (case aB => exact HB.out); (case aS => exact HSZ2.out); (case aL => rw [nums_length]; exact HLL.out); intro v1 w1 ho hold hb hg hat; obtain ⟨t1, rfl, hsn⟩ := own_more_sl ho; have HL1 := Aside0.mk (HL.out.step HLT.out (by rw [HXI.out]; rw [HXI.out] at ho; exact own_more ho rfl) (by rw [nums_length] at hold; exact hold) hg hat); have HB1 := Aside0.mk hb; clear ho hold hb hg hat hsn)
                go_roundw
                case rel => exact ⟨k + 1, t1, by go_num, by omega, rfl, HL1, HB1⟩
                case measure => simp [intOf]; omega
              · have hne : ¬ ((k : Int) < 64) := by omega
                have hk64 : k = 64 := by omega
                subst hk64
                have HTN := Aside0.mk (show t.n = (fb i).length + 64 by rw [HL.out.lo.len]; simp)
                have htb : t.n ≤ 4398046511168 := by have := HTN.out; have := HLB1.out; omega
                have htt : tt ≤ 1759218604800000 := by have := HT.out.2; have := HLT.out; omega
                have HSZ2 := Aside0.mk (show base ≤ wr.heap.size by have := HB.out.size; have := HBS.out; omega)
                clear hkt
                go_wp2_with ((with_reducible refine gate_builtin (b := .append) (xs := #[.tmp 142, .tmp 144]) rfl ?_); at_builtin; refine print_append_both (w0 := W) base rfl (.tmp 142) (.tmp 144) 88 37 (.slice none 0 0) 24 rfl Try.underlying88 infoSl rfl (by decide) (.slice AL i cL) (sls i ls) (.slice t.A t.n t.c) rfl rfl rfl ?aO ?aB ?aS ?aL ?_; (case aO => rw [sls_len]; exact HL.out.lg.rl); (case aB => exact HB.out); (case aS => exact HSZ2.out); (case aL => rw [sls_len]; have := HLT.out; omega); intro v1 w1 ho _ hb hg hat; obtain ⟨AL', cL', rfl, ho2⟩ := sl_of ho (show _ = i + 1 by simp [sls_len]); have HG1 := Aside0.mk (HL.out.close HLT.out ho2 hg hat); have HB1 := Aside0.mk hb; clear ho hb hg hat ho2)
                go_roundw
                case rel => exact ⟨i + 1, tt + t.n, AL', cL', _, by go_num, by have := HLT.out; omega, by go_num, by have := HT.out.1; have := HTN.out; omega, by have := HT.out.2; omega, rfl, HG1, HB1⟩
                case measure => have := HLT.out; simp [intOf]; omega
          · have hne : ¬ ((i : Int) < (N : Int)) := by omega
            obtain rfl : i = N := by omega
            clear hlt hne
            go_wp2
            have HT := Aside0.mk (And.intro ht1 ht2)
            have HG2 := HG
            have HB2 := HB
            clear HG HB x0 ht1 ht2 hi
            go_loopw [7, 9, 13] (fun v7 v9 vi wr => v7 = .int .i64 (tt : Nat) ∧ v9 = .slice none 0 0 ∧ vi = .int .i64 0 ∧ Aside0 (LgAt wr base g AB cB AH cH i bs hs fb fh i AL cL ls xv) ∧ Aside0 (Below base W wr)) (fun _ _ vi _ => 0)
            case atStart => exact ⟨rfl, rfl, rfl, HG2, HB2⟩
            case round =>
              clear HG2 HB2
              obtain ⟨rfl, rfl, rfl, HG, HB⟩ := hrel
              have x2 := HG.out.sh.c2
              go_wp2
              have HG2 := HG
              have HB2 := HB
              clear HG HB x2
              go_loopw [16] (fun vi wr => ∃ j : Nat, vi = .int .i64 (j : Nat) ∧ j ≤ i ∧ Aside0 (LgAt wr base g AB cB AH cH i bs hs fb fh i AL cL ls xv) ∧ Aside0 (Below base W wr)) (fun vi _ => i - (intOf vi).toNat)
              case atStart => exact ⟨0, rfl, Nat.zero_le _, HG2, HB2⟩
              case round =>
                clear HG2 HB2
                obtain ⟨j, rfl, hj, HG, HB⟩ := hrel
                by_cases hlt : j < i
                · obtain ⟨qB, eB⟩ := own_addr HG.out.sh.rb (by omega)
                  obtain ⟨qL, eL⟩ := own_addr HG.out.rl (by omega)
                  subst eB eL
                  have x0 := HG.out.sh.c0
                  have x2 := own_cell HG.out.sh.rb j _ (sls_at i bs j hlt)
                  have x2' : wr.cell? ⟨qB, j, none⟩ = some (.slice (bs j).A (bs j).n (bs j).c) := x2
                  have HLT := Aside0.mk hlt
                  have hii : (j : Int) < (i : Int) := by omega
                  have hM5 : Int.tmod (j : Int) 5 = ((j % 5 : Nat) : Int) := (Int.ofNat_tmod j 5).symm
                  have hr5 := Nat.mod_lt j (show 5 > 0 by omega)
                  have HXI := Aside0.mk (show xv j = 250 + ((j % 5 : Nat) : Int) by rw [HXV.out]; dsimp only; omega)
                  obtain ⟨r5, hr⟩ : ∃ r5, j % 5 = r5 := ⟨_, rfl⟩
                  rw [hr] at hM5 hr5 HXI
                  have hfl : (fb j).length = (bs j).n := (HG.out.sh.ob j hlt).len.symm
                  have hnb := HLB.out j hlt
                  have HFL := Aside0.mk hfl
                  clear hr x2 hfl
                  go_wp2
                  have HG2 := HG
                  have HB2 := HB
                  clear HG HB x0 x2'
                  go_loopw [17] (fun vi wr => ∃ k : Nat, vi = .int .i64 (k : Nat) ∧ (bs j).n ≤ k ∧ k ≤ (bs j).n + 64 ∧ Aside0 (LgAt wr base g (some ⟨qB, 0, none⟩) cB AH cH i bs hs fb fh i (some ⟨qL, 0, none⟩) cL ls xv) ∧ Aside0 (Below base W wr)) (fun vi _ => (bs j).n + 64 - (intOf vi).toNat)
                  case atStart => exact ⟨(bs j).n, rfl, Nat.le_refl _, by omega, HG2, HB2⟩
                  case round =>
                    clear HG2 HB2
                    obtain ⟨k, rfl, hk1, hk2, HG, HB⟩ := hrel
                    have ol := HG.out.ol j HLT.out
                    have hln : (ls j).n = (bs j).n + 64 := by rw [ol.len, List.length_append, HFL.out, List.length_replicate]
                    have x4 := own_cell HG.out.rl j _ (sls_at i ls j HLT.out)
                    have x4' : wr.cell? ⟨qL, j, none⟩ = some (.slice (ls j).A ((bs j).n + 64) (ls j).c) := by rw [← hln]; exact x4
                    by_cases hkt : k < (bs j).n + 64
                    · obtain ⟨pL, eA, -, -, -⟩ := ol.form (by simp)
                      have hkl : k < (fb j ++ List.replicate 64 (xv j)).length := by rw [List.length_append, HFL.out, List.length_replicate]; exact hkt
                      obtain ⟨c5, -⟩ := ol.cell eA k hkl
                      rw [List.getElem_append_right (by have := HFL.out; omega), List.getElem_replicate, HXI.out] at c5
                      have x5 : wr.cell? ⟨qL, j, none⟩ = some (.slice (some ⟨pL, 0, none⟩) ((bs j).n + 64) (ls j).c) := by rw [← eA]; exact x4'
                      have hki : (k : Int) < ((bs j).n : Int) + 64 := by omega
                      clear x4 x4' ol hln hkl eA
                      go_wp2
                      go_roundw
                      case rel => exact ⟨k + 1, by go_num, by omega, by omega, HG, HB⟩
                      case measure => simp [intOf]; omega
                    · have hne : ¬ ((k : Int) < ((bs j).n : Int) + 64) := by omega
                      clear x4 ol hln hkt
                      go_wp2
                      go_roundw
                      case rel => exact ⟨j + 1, by go_num, by have := HLT.out; omega, HG, HB⟩
                      case measure => have := HLT.out; simp [intOf]; omega
                · have hne : ¬ ((j : Int) < (i : Int)) := by omega
                  clear hlt hj
                  go_wp2
                  have HG2 := HG
                  have HB2 := HB
                  clear HG HB hne
                  go_loopw [18] (fun vi wr => vi = .int .i64 0 ∧ Aside0 (LgAt wr base g AB cB AH cH i bs hs fb fh i AL cL ls xv) ∧ Aside0 (Below base W wr)) (fun vi _ => 0)
                  case atStart => exact ⟨rfl, HG2, HB2⟩
                  case round =>
                    clear HG2 HB2
                    obtain ⟨rfl, HG, HB⟩ := hrel
                    have HHO := Aside0.mk (fun (W' : World) (k : LgIn W W' base g AB cB AH cH i bs hs fb fh i AL cL ls xv) => holds_is W' base g AB cB AH cH i bs hs fb fh k.at_.sh hN (fun j hj => ⟨by rw [(HMD.out j hj).1, (HMD.out j hj).2], by rw [(HMD.out j hj).1, List.length_replicate]; exact HLB.out j hj⟩))
                    have hcmp : (64 : Int) * (i : Int) ≤ (tt : Int) := by have := HT.out.1; omega
                    have htt : tt ≤ 1759218604800000 := by have := HT.out.2; omega
                    obtain ⟨hIn, y0, y2⟩ := LgIn.see (⟨HG.out, HB.out⟩ : LgIn W wr base g AB cB AH cH i bs hs fb fh i AL cL ls xv)
                    clear HG HB
                    go_wp2
                    go_region_held3 (fun w' => LgIn W w' base g AB cB AH cH i bs hs fb fh i AL cL ls xv ∧ w'.cell? ⟨g, 0, none⟩ = some (.slice AB i cB) ∧ w'.cell? ⟨g, 2, none⟩ = some (.slice none 0 0))
                      (first | exact LgIn.see (LgIn.drew (by assumption)) | exact LgIn.see (LgIn.drew (And.left (by assumption))) | exact LgIn.see (LgIn.below (And.left (by assumption)) (by assumption)) | exact LgIn.see (LgIn.below (by assumption) (by assumption)))
                      (first | (go_at_call 120; refine (HHO.out _ ?hkk).mono ?_; (case hkk => (first | exact And.left (by assumption) | assumption)); rintro e w' ⟨rfl, hb⟩))
                    obtain ⟨hF3, -, -⟩ := ‹LgIn W _ base g AB cB AH cH i bs hs fb fh i AL cL ls xv ∧ _ ∧ _›
                    have HF3 := Aside0.mk hF3
                    clear hF3
                    go_wp2
                    have hd : decide (IntKind.i64.wrap (64 * IntKind.i64.wrap (i : Int)) ≤ (tt : Int)) = true := decide_eq_true (by rw [IntWalk.i64_in (i : Int) (by omega), IntWalk.i64_in _ (by omega)]; exact hcmp)
                    go_ret
                    refine ⟨?_, HF3.out.bel⟩
                    show Ending.returned (Value.bool (decide (IntKind.i64.wrap (64 * IntKind.i64.wrap (i : Int)) ≤ (tt : Int)))) = _
                    rw [hd]
end Go.Proofs.Ytceeoifbimlkdaa.B
