/- Proved: the contracts of the Shelf's holds and stands, with lists of bytes and of ints that read as they should. Conditions: bounds of the lengths. -/
import Derived.Test.YtceeoifbimlkdaaHShelfR
import Derived.Deep.RegionHeld3
namespace Go.Proofs.Ytceeoifbimlkdaa.B
open Go.RowKit Go.Proofs.YtceeoifbimlkdaaW.PrintWords Go.Proofs.YtceeoifbimlkdaaW.PrintLast Go.Proofs.YtceeoifbimlkdaaW.PrintMore

/-- The shelf, and what has been turned since. -/
structure ShI (W0 W : World) (base g : Nat) (B : HD) (fb fh : Nat → List Int) (I : HD) (fi ft : Nat → List Int) : Prop where
  at_ : Sh2 W base g B fb fh I fi ft
  bel : Below W0.heap.size W0 W
section
variable {W0 W W' : World} {base g : Nat} {B : HD} {fb fh : Nat → List Int} {I : HD} {fi ft : Nat → List Int} {qB qH i : Nat}
theorem ShI.below (k : ShI W0 W base g B fb fh I fi ft) (h : Below W.heap.size W W') : ShI W0 W' base g B fb fh I fi ft := ⟨k.at_.below h, k.bel.trans (h.mono k.bel.size)⟩
theorem ShI.drew (k : ShI W0 W base g B fb fh I fi ft) : ShI W0 W.drew base g B fb fh I fi ft := k.below (below_drew (Below.refl _ _))
theorem ShI.drewN (k : ShI W0 W base g B fb fh I fi ft) (m : Nat) : ShI W0 (W.drewN m) base g B fb fh I fi ft := k.below (pw_below_drewN (Below.refl _ _) m)
theorem ShI.seeB (k : ShI W0 W base g B fb fh I fi ft) (eB : B.A = some ⟨qB, 0, none⟩) (eH : B.B = some ⟨qH, 0, none⟩) (h1 : i < B.N) (h2 : i < B.M) :
    ShI W0 W base g B fb fh I fi ft ∧ W.cell? ⟨g, 0, none⟩ = some (.slice (some ⟨qB, 0, none⟩) B.N B.c) ∧ W.cell? ⟨g, 1, none⟩ = some (.slice (some ⟨qH, 0, none⟩) B.M B.d) ∧ W.cell? ⟨qB, i, none⟩ = some (.slice (B.bs i).A (B.bs i).n (B.bs i).c) ∧ W.cell? ⟨qH, i, none⟩ = some (.slice (B.hs i).A (B.hs i).n (B.hs i).c) := by
  have x0 := k.at_.c0
  have x1 := k.at_.c1
  have r0 := k.at_.b.rb
  have r1 := k.at_.b.rh
  rw [eB] at x0 r0
  rw [eH] at x1 r1
  exact ⟨k, x0, x1, own_cell r0 i _ (sls_at B.N B.bs i h1), own_cell r1 i _ (sls_at B.M B.hs i h2)⟩
theorem ShI.seeI (k : ShI W0 W base g B fb fh I fi ft) (eB : I.A = some ⟨qB, 0, none⟩) (eH : I.B = some ⟨qH, 0, none⟩) (h1 : i < I.N) (h2 : i < I.M) :
    ShI W0 W base g B fb fh I fi ft ∧ W.cell? ⟨g, 2, none⟩ = some (.slice (some ⟨qB, 0, none⟩) I.N I.c) ∧ W.cell? ⟨g, 3, none⟩ = some (.slice (some ⟨qH, 0, none⟩) I.M I.d) ∧ W.cell? ⟨qB, i, none⟩ = some (.slice (I.bs i).A (I.bs i).n (I.bs i).c) ∧ W.cell? ⟨qH, i, none⟩ = some (.slice (I.hs i).A (I.hs i).n (I.hs i).c) := by
  have x0 := k.at_.c2
  have x1 := k.at_.c3
  have r0 := k.at_.i.rb
  have r1 := k.at_.i.rh
  rw [eB] at x0 r0
  rw [eH] at x1 r1
  exact ⟨k, x0, x1, own_cell r0 i _ (sls_at I.N I.bs i h1), own_cell r1 i _ (sls_at I.M I.hs i h2)⟩
end
set_option maxHeartbeats 4000000 in
set_option maxRecDepth 100000 in
theorem holdsR_is (W : World) (base g : Nat) (B : HD) (fb fh : Nat → List Int) (I : HD) (fi ft : Nat → List Int) (k : Sh2 W base g B fb fh I fi ft) (gb : HGood B fb fh) (gi : HGood I fi ft) :
    Calls Try.prog 120 #[.pointer (some ⟨g, 0, none⟩)] W fun e w' => e = .returned (.bool true) ∧ Below W.heap.size W w' := by
  have hu91 := Try.underlying91
  have HK0 := Aside0.mk k
  have HGB := Aside0.mk gb
  have HGI := Aside0.mk gi
  have hb4 := gb.2.1
  have hi4 := gi.2.1
  clear k gb gi
  go_enter Try.func120, Try.ntmps120
  go_wp2
  have HK1 := Aside0.mk (show ShI W W base g B fb fh I fi ft from ⟨HK0.out, Below.refl _ _⟩)
  clear HK0
  go_loopw [3] (fun vi wr => ∃ i : Nat, vi = .int .i64 (i : Nat) ∧ i ≤ B.N ∧ Aside0 (ShI W wr base g B fb fh I fi ft)) (fun vi _ => B.N - (intOf vi).toNat)
  case atStart => exact ⟨0, rfl, Nat.zero_le _, HK1⟩
  case round =>
    clear HK1
    obtain ⟨i, rfl, hi, HK⟩ := hrel
    by_cases hlt : i < B.N
    · have hlm : i < B.M := by have := HGB.out.1; omega
      obtain ⟨qB, eB⟩ := own_addr HK.out.at_.b.rb (by omega)
      obtain ⟨qH, eH⟩ := own_addr HK.out.at_.b.rh (by omega)
      obtain ⟨hk, x0, x1, x2, x3⟩ := HK.out.seeB (i := i) eB eH hlt hlm
      have EB := Aside0.mk eB
      have EH := Aside0.mk eH
      have HSM := Aside0.mk (fun (W' : World) (k : ShI W W' base g B fb fh I fi ft) => same_yes (B.bs i).A (B.bs i).n (B.bs i).c (B.hs i).A (B.hs i).n (B.hs i).c (fb i) W' (k.at_.b.ob i hlt).reads (k.at_.b.ob i hlt).room (by rw [(HGB.out.2.2 i hlt).1]; exact (k.at_.b.oh i hlm).reads) (k.at_.b.oh i hlm).room (by have := (HGB.out.2.2 i hlt).2; omega))
      have hii : (i : Int) < (B.N : Int) := by omega
      have him : (i : Int) < (B.M : Int) := by omega
      have HLT := Aside0.mk hlt
      have HLM := Aside0.mk hlm
      clear eB eH
      go_wp2
      go_region_held3 (fun w' => ShI W w' base g B fb fh I fi ft ∧ w'.cell? ⟨g, 0, none⟩ = some (.slice (some ⟨qB, 0, none⟩) B.N B.c) ∧ w'.cell? ⟨g, 1, none⟩ = some (.slice (some ⟨qH, 0, none⟩) B.M B.d) ∧ w'.cell? ⟨qB, i, none⟩ = some (.slice (B.bs i).A (B.bs i).n (B.bs i).c) ∧ w'.cell? ⟨qH, i, none⟩ = some (.slice (B.hs i).A (B.hs i).n (B.hs i).c))
        (first | exact ShI.seeB (ShI.drew (by assumption)) EB.out EH.out HLT.out HLM.out | exact ShI.seeB (ShI.drew (And.left (by assumption))) EB.out EH.out HLT.out HLM.out | exact ShI.seeB (ShI.below (And.left (by assumption)) (by assumption)) EB.out EH.out HLT.out HLM.out | exact ShI.seeB (ShI.below (by assumption) (by assumption)) EB.out EH.out HLT.out HLM.out)
        (first | (go_at_call 28; refine (HSM.out _ ?hkk).mono ?_; (case hkk => (first | exact And.left (by assumption) | assumption)); rintro e w' ⟨rfl, hdd⟩; have hb := Drawn0.below hdd))
      obtain ⟨hF3, -, -, -, -⟩ := ‹ShI W _ base g B fb fh I fi ft ∧ _ ∧ _ ∧ _ ∧ _›
      have HF3 := Aside0.mk hF3
      clear hF3
      go_wp2
      go_roundw
      case rel => exact ⟨i + 1, by go_num, by have := HLT.out; omega, HF3⟩
      case measure => have := HLT.out; simp [intOf]; omega
    · have hne : ¬ ((i : Int) < (B.N : Int)) := by omega
      have x0 := HK.out.at_.c0
      clear hlt
      go_wp2
      have HK1 := HK
      clear HK x0 hne hi
      go_loopw [4] (fun vi wr => ∃ i : Nat, vi = .int .i64 (i : Nat) ∧ i ≤ I.N ∧ Aside0 (ShI W wr base g B fb fh I fi ft)) (fun vi _ => I.N - (intOf vi).toNat)
      case atStart => exact ⟨0, rfl, Nat.zero_le _, HK1⟩
      case round =>
        clear HK1
        obtain ⟨i, rfl, hi, HK⟩ := hrel
        by_cases hlt : i < I.N
        · have hlm : i < I.M := by have := HGI.out.1; omega
          obtain ⟨qB, eB⟩ := own_addr HK.out.at_.i.rb (by omega)
          obtain ⟨qH, eH⟩ := own_addr HK.out.at_.i.rh (by omega)
          obtain ⟨hk, x0, x1, x2, x3⟩ := HK.out.seeI (i := i) eB eH hlt hlm
          have EB := Aside0.mk eB
          have EH := Aside0.mk eH
          have HSM := Aside0.mk (fun (W' : World) (k : ShI W W' base g B fb fh I fi ft) => sameInts_yes (I.bs i).A (I.bs i).n (I.bs i).c (I.hs i).A (I.hs i).n (I.hs i).c (fi i) W' (k.at_.i.ob i hlt).reads (k.at_.i.ob i hlt).room (by rw [(HGI.out.2.2 i hlt).1]; exact (k.at_.i.oh i hlm).reads) (k.at_.i.oh i hlm).room (by have := (HGI.out.2.2 i hlt).2; omega))
          have hii : (i : Int) < (I.N : Int) := by omega
          have him : (i : Int) < (I.M : Int) := by omega
          have HLT := Aside0.mk hlt
          have HLM := Aside0.mk hlm
          clear eB eH
          go_wp2
          go_region_held3 (fun w' => ShI W w' base g B fb fh I fi ft ∧ w'.cell? ⟨g, 2, none⟩ = some (.slice (some ⟨qB, 0, none⟩) I.N I.c) ∧ w'.cell? ⟨g, 3, none⟩ = some (.slice (some ⟨qH, 0, none⟩) I.M I.d) ∧ w'.cell? ⟨qB, i, none⟩ = some (.slice (I.bs i).A (I.bs i).n (I.bs i).c) ∧ w'.cell? ⟨qH, i, none⟩ = some (.slice (I.hs i).A (I.hs i).n (I.hs i).c))
            (first | exact ShI.seeI (ShI.drew (by assumption)) EB.out EH.out HLT.out HLM.out | exact ShI.seeI (ShI.drew (And.left (by assumption))) EB.out EH.out HLT.out HLM.out | exact ShI.seeI (ShI.below (And.left (by assumption)) (by assumption)) EB.out EH.out HLT.out HLM.out | exact ShI.seeI (ShI.below (by assumption) (by assumption)) EB.out EH.out HLT.out HLM.out)
            (first | (go_at_call 98; refine (HSM.out _ ?hkk).mono ?_; (case hkk => (first | exact And.left (by assumption) | assumption)); rintro e w' ⟨rfl, hdd⟩; have hb := Drawn0.below hdd))
          obtain ⟨hF3, -, -, -, -⟩ := ‹ShI W _ base g B fb fh I fi ft ∧ _ ∧ _ ∧ _ ∧ _›
          have HF3 := Aside0.mk hF3
          clear hF3
          go_wp2
          go_roundw
          case rel => exact ⟨i + 1, by go_num, by have := HLT.out; omega, HF3⟩
          case measure => have := HLT.out; simp [intOf]; omega
        · have hne : ¬ ((i : Int) < (I.N : Int)) := by omega
          have x0 := HK.out.at_.c2
          clear hlt
          go_wp2
          go_ret
          exact ⟨rfl, HK.out.bel⟩
/-! ### Marks: how far they have come (lists below i, and of list i the places below k) -/
def Mk (N : Nat) (L : Nat → Nat) (m : Nat → Int) (i kb kh : Nat) (fb fh : Nat → List Int) : Prop :=
  ∀ j, j < N → (fb j).length = L j ∧ (fh j).length = L j ∧ (∀ a, a < L j → (j < i ∨ j = i ∧ a < kb) → (fb j)[a]? = some (m j)) ∧ ∀ a, a < L j → (j < i ∨ j = i ∧ a < kh) → (fh j)[a]? = some (m j)
theorem Mk.putB {N : Nat} {fb fh : Nat → List Int} {L : Nat → Nat} {m : Nat → Int} {i k kh : Nat} (h : Mk N L m i k kh fb fh) (hi : i < N) (hk : k < L i) : Mk N L m i (k + 1) kh (fun a => if a = i then (fb i).set k (m i) else fb a) fh := by
  intro j hj
  obtain ⟨h1, h2, h3, h4⟩ := h j hj
  refine ⟨?_, h2, ?_, h4⟩
  · by_cases e : j = i
    · subst e; simp only [if_pos, List.length_set]; exact h1
    · simp only [if_neg e]; exact h1
  · intro a ha hja
    by_cases e : j = i
    · subst e
      simp only [if_pos]
      by_cases e2 : a = k
      · subst e2
        rw [List.getElem?_set_self (by omega)]
      · rw [List.getElem?_set_ne (by omega)]
        exact h3 a ha (.inr ⟨rfl, by omega⟩)
    · simp only [if_neg e]
      exact h3 a ha (by omega)
theorem Mk.putH {N : Nat} {fb fh : Nat → List Int} {L : Nat → Nat} {m : Nat → Int} {i k kb : Nat} (h : Mk N L m i kb k fb fh) (hi : i < N) (hk : k < L i) : Mk N L m i kb (k + 1) fb (fun a => if a = i then (fh i).set k (m i) else fh a) := by
  intro j hj
  obtain ⟨h1, h2, h3, h4⟩ := h j hj
  refine ⟨h1, ?_, h3, ?_⟩
  · by_cases e : j = i
    · subst e; simp only [if_pos, List.length_set]; exact h2
    · simp only [if_neg e]; exact h2
  · intro a ha hja
    by_cases e : j = i
    · subst e
      simp only [if_pos]
      by_cases e2 : a = k
      · subst e2
        rw [List.getElem?_set_self (by omega)]
      · rw [List.getElem?_set_ne (by omega)]
        exact h4 a ha (.inr ⟨rfl, by omega⟩)
    · simp only [if_neg e]
      exact h4 a ha (by omega)
theorem Mk.next {N : Nat} {fb fh : Nat → List Int} {L : Nat → Nat} {m : Nat → Int} {i k : Nat} (h : Mk N L m i k k fb fh) (hk : L i ≤ k) : Mk N L m (i + 1) 0 0 fb fh := fun j hj => by
  obtain ⟨h1, h2, h3, h4⟩ := h j hj
  refine ⟨h1, h2, fun a ha hja => h3 a ha ?_, fun a ha hja => h4 a ha ?_⟩
  · rcases Nat.lt_or_ge j i with e | e
    · exact .inl e
    · have : j = i := by omega
      subst this; exact .inr ⟨rfl, by omega⟩
  · rcases Nat.lt_or_ge j i with e | e
    · exact .inl e
    · have : j = i := by omega
      subst this; exact .inr ⟨rfl, by omega⟩
theorem Mk.done {N : Nat} {fb fh : Nat → List Int} {L : Nat → Nat} {m : Nat → Int} (h : Mk N L m N 0 0 fb fh) (j : Nat) (hj : j < N) : fb j = List.replicate (L j) (m j) ∧ fh j = List.replicate (L j) (m j) := by
  obtain ⟨h1, h2, h3, h4⟩ := h j hj
  constructor
  · refine List.ext_getElem? fun a => ?_
    rw [List.getElem?_replicate]
    by_cases e : a < L j
    · rw [if_pos e, h3 a e (.inl hj)]
    · rw [if_neg e, List.getElem?_eq_none (by omega)]
  · refine List.ext_getElem? fun a => ?_
    rw [List.getElem?_replicate]
    by_cases e : a < L j
    · rw [if_pos e, h4 a e (.inl hj)]
    · rw [if_neg e, List.getElem?_eq_none (by omega)]
theorem below_set {base : Nat} {W W' : World} (h : Below base W W') {p : Addr} (hp : base ≤ p.block) (u : Value) : Below base W (W'.setCell p u) := h.setCell hp u
/-- The shelf and the lists that have been grown so far. -/
structure StG (W0 W : World) (base g : Nat) (B : HD) (fb fh : Nat → List Int) (I : HD) (fi ft : Nat → List Int) (nB : Nat) (LB : LG) (xv : Nat → Int) (nI : Nat) (LI : LG) (yv : Nat → Int) : Prop where
  sh : Sh2 W base g B fb fh I fi ft
  lb : Lgs .u8 5 37 W base B fb nB LB xv
  li : Lgs .i64 3 56 W base I fi nI LI yv
  bel : Below base W0 W
section
variable {W0 W W' : World} {base g : Nat} {B : HD} {fb fh : Nat → List Int} {I : HD} {fi ft : Nat → List Int} {nB nI : Nat} {LB LI : LG} {xv yv : Nat → Int} {s s1 : Sl} {c9 m q i p : Nat}
theorem StG.below (k : StG W0 W base g B fb fh I fi ft nB LB xv nI LI yv) (h : Below W.heap.size W W') : StG W0 W' base g B fb fh I fi ft nB LB xv nI LI yv :=
  ⟨k.sh.below h, k.lb.below h, k.li.below h, k.bel.trans (h.mono (by have := k.sh.low; have := blk_lt k.sh.blk; omega))⟩
theorem StG.drew (k : StG W0 W base g B fb fh I fi ft nB LB xv nI LI yv) : StG W0 W.drew base g B fb fh I fi ft nB LB xv nI LI yv := k.below (below_drew (Below.refl _ _))
theorem StG.see (k : StG W0 W base g B fb fh I fi ft nB LB xv nI LI yv) : StG W0 W base g B fb fh I fi ft nB LB xv nI LI yv ∧ W.cell? ⟨g, 0, none⟩ = some (.slice B.A B.N B.c) ∧ W.cell? ⟨g, 2, none⟩ = some (.slice I.A I.N I.c) := ⟨k, k.sh.c0, k.sh.c2⟩
theorem Sh2.rowB (k : Sh2 W base g B fb fh I fi ft) (e : B.A = some ⟨q, 0, none⟩) (h : i < B.N) : W.cell? ⟨q, i, none⟩ = some (.slice (B.bs i).A (B.bs i).n (B.bs i).c) := by
  have r := k.b.rb
  rw [e] at r
  exact own_cell r i _ (sls_at B.N B.bs i h)
theorem Sh2.rowH (k : Sh2 W base g B fb fh I fi ft) (e : B.B = some ⟨q, 0, none⟩) (h : i < B.M) : W.cell? ⟨q, i, none⟩ = some (.slice (B.hs i).A (B.hs i).n (B.hs i).c) := by
  have r := k.b.rh
  rw [e] at r
  exact own_cell r i _ (sls_at B.M B.hs i h)
theorem Sh2.setB (k : Sh2 W base g B fb fh I fi ft) {c : Array Value} (hc : W.heap[p]? = some (.cells c 5 (0, 0))) (j : Nat) (u : Value) : (W.setCell ⟨p, j, none⟩ u).heap[g]? = some (.cells #[.slice B.A B.N B.c, .slice B.B B.M B.d, .slice I.A I.N I.c, .slice I.B I.M I.d] 91 (0, 0)) ∧ KeepTy W (W.setCell ⟨p, j, none⟩ u) 3 56 :=
  ⟨(Below.heap_setCell W _ _ g fun e => by subst e; exact absurd (ty_eq hc k.blk) (by decide)).trans k.blk, KeepTy.set_ (KeepTy.below (Below.refl _ _)) ⟨_, _, hc, by decide, by decide⟩ u⟩
theorem Sh2.putB (k : Sh2 W base g B fb fh I fi ft) (hi : i < B.N) (hA : (B.bs i).A = some ⟨p, 0, none⟩) (j : Nat) (x : Int) : Sh2 (W.setCell ⟨p, j, none⟩ (.int .u8 x)) base g B (fun a => if a = i then (fb i).set j x else fb a) fh I fi ft := by
  obtain ⟨c, hc⟩ := (k.b.ob i hi).typed p (own_at_eq hA)
  obtain ⟨h1, h2⟩ := k.setB hc j (.int .u8 x)
  exact ⟨k.low, h1, k.b.putB (by decide) hi hA j x, k.i.ty h2⟩
theorem Sh2.putH (k : Sh2 W base g B fb fh I fi ft) (hi : i < B.M) (hA : (B.hs i).A = some ⟨p, 0, none⟩) (j : Nat) (x : Int) : Sh2 (W.setCell ⟨p, j, none⟩ (.int .u8 x)) base g B fb (fun a => if a = i then (fh i).set j x else fh a) I fi ft := by
  obtain ⟨c, hc⟩ := (k.b.oh i hi).typed p (own_at_eq hA)
  obtain ⟨h1, h2⟩ := k.setB hc j (.int .u8 x)
  exact ⟨k.low, h1, k.b.putH (by decide) hi hA j x, k.i.ty h2⟩
theorem StG.stepB (h : StG W0 W base g B fb fh I fi ft nB LB xv nI LI yv) (hn : Lns .u8 5 W base B fb nB LB xv s c9 m) (hi : nB < B.N) (h1 : Own .u8 5 W' base s1 (fb nB ++ List.replicate m (xv nB) ++ [xv nB])) (h2 : Own .u8 5 W' base ⟨s.A, s.n, c9⟩ (fb nB ++ List.replicate m (xv nB))) (hb : Below base W0 W') (hg : W.grownBy W' s.v.ownBlock)
    (hat : s1.v.ownBlock = s.v.ownBlock ∨ ∃ b, s1.v.ownBlock = some b ∧ W.heap.size ≤ b) : StG W0 W' base g B fb fh I fi ft nB LB xv nI LI yv ∧ Lns .u8 5 W' base B fb nB LB xv s1 s1.c (m + 1) := by
  have hty : ∀ b, s.v.ownBlock = some b → ∃ cs, W.heap[b]? = some (.cells cs 5 (0, 0)) := fun b e => hn.lo.typed b (by rw [← e]; exact ownBlock_c _ _ _ _ _)
  have kt : KeepTy W W' 3 56 := KeepTy.grown hg fun b e => by
    obtain ⟨cs, hc⟩ := hty b e
    exact ⟨cs, _, hc, by decide, by decide⟩
  have bg := (hg.block g (blk_lt h.sh.blk) fun e => by
    obtain ⟨cs, hc⟩ := hty g e.symm
    exact absurd (ty_eq hc h.sh.blk) (by decide)).trans h.sh.blk
  obtain ⟨p1, p2, p3⟩ := hn.step h.sh.b h.lb (by decide) hi h1 h2 hg hat
  exact ⟨⟨⟨h.sh.low, bg, p1, h.sh.i.ty kt⟩, p2, h.li.ty kt, hb⟩, p3⟩
theorem StG.closeB (h : StG W0 W base g B fb fh I fi ft nB LB xv nI LI yv) (hn : Lns .u8 5 W base B fb nB LB xv s c9 64) (hc9 : c9 = s.c) {A' : Option Addr} {c' : Nat} (ho : W'.ownsRow base 37 1 (.slice A' (nB + 1) c') (nB + 1) (sls nB LB.ls ++ [s.v])) (hb : Below base W0 W') (hg : W.grownBy W' (Value.slice LB.A nB LB.c).ownBlock)
    (hat : (Value.slice A' (nB + 1) c').ownBlock = (Value.slice LB.A nB LB.c).ownBlock ∨ ∃ b, (Value.slice A' (nB + 1) c').ownBlock = some b ∧ W.heap.size ≤ b) : StG W0 W' base g B fb fh I fi ft (nB + 1) ⟨A', c', fun j => if j = nB then s else LB.ls j⟩ xv nI LI yv := by
  have hty : ∀ b, (Value.slice LB.A nB LB.c).ownBlock = some b → ∃ cs, W.heap[b]? = some (.cells cs 37 (0, 0)) := fun b e => own_typed h.lb.rl b e
  have kt : KeepTy W W' 3 56 := KeepTy.grown hg fun b e => by
    obtain ⟨cs, hc⟩ := hty b e
    exact ⟨cs, _, hc, by decide, by decide⟩
  have bg := (hg.block g (blk_lt h.sh.blk) fun e => by
    obtain ⟨cs, hc⟩ := hty g e.symm
    exact absurd (ty_eq hc h.sh.blk) (by decide)).trans h.sh.blk
  obtain ⟨p1, p2⟩ := hn.close (by have := hn.lo; rw [hc9] at this; exact this) h.sh.b h.lb (by decide) ho hg hat
  exact ⟨⟨h.sh.low, bg, p1, h.sh.i.ty kt⟩, p2, h.li.ty kt, hb⟩
theorem Sh2.rowI (k : Sh2 W base g B fb fh I fi ft) (e : I.A = some ⟨q, 0, none⟩) (h : i < I.N) : W.cell? ⟨q, i, none⟩ = some (.slice (I.bs i).A (I.bs i).n (I.bs i).c) := by
  have r := k.i.rb
  rw [e] at r
  exact own_cell r i _ (sls_at I.N I.bs i h)
theorem Sh2.rowT (k : Sh2 W base g B fb fh I fi ft) (e : I.B = some ⟨q, 0, none⟩) (h : i < I.M) : W.cell? ⟨q, i, none⟩ = some (.slice (I.hs i).A (I.hs i).n (I.hs i).c) := by
  have r := k.i.rh
  rw [e] at r
  exact own_cell r i _ (sls_at I.M I.hs i h)
theorem Sh2.setI (k : Sh2 W base g B fb fh I fi ft) {c : Array Value} (hc : W.heap[p]? = some (.cells c 3 (0, 0))) (j : Nat) (u : Value) : (W.setCell ⟨p, j, none⟩ u).heap[g]? = some (.cells #[.slice B.A B.N B.c, .slice B.B B.M B.d, .slice I.A I.N I.c, .slice I.B I.M I.d] 91 (0, 0)) ∧ KeepTy W (W.setCell ⟨p, j, none⟩ u) 5 37 :=
  ⟨(Below.heap_setCell W _ _ g fun e => by subst e; exact absurd (ty_eq hc k.blk) (by decide)).trans k.blk, KeepTy.set_ (KeepTy.below (Below.refl _ _)) ⟨_, _, hc, by decide, by decide⟩ u⟩
theorem Sh2.putI (k : Sh2 W base g B fb fh I fi ft) (hi : i < I.N) (hA : (I.bs i).A = some ⟨p, 0, none⟩) (j : Nat) (x : Int) : Sh2 (W.setCell ⟨p, j, none⟩ (.int .i64 x)) base g B fb fh I (fun a => if a = i then (fi i).set j x else fi a) ft := by
  obtain ⟨c, hc⟩ := (k.i.ob i hi).typed p (own_at_eq hA)
  obtain ⟨h1, h2⟩ := k.setI hc j (.int .i64 x)
  exact ⟨k.low, h1, k.b.ty h2, k.i.putB (by decide) hi hA j x⟩
theorem Sh2.putT (k : Sh2 W base g B fb fh I fi ft) (hi : i < I.M) (hA : (I.hs i).A = some ⟨p, 0, none⟩) (j : Nat) (x : Int) : Sh2 (W.setCell ⟨p, j, none⟩ (.int .i64 x)) base g B fb fh I fi (fun a => if a = i then (ft i).set j x else ft a) := by
  obtain ⟨c, hc⟩ := (k.i.oh i hi).typed p (own_at_eq hA)
  obtain ⟨h1, h2⟩ := k.setI hc j (.int .i64 x)
  exact ⟨k.low, h1, k.b.ty h2, k.i.putH (by decide) hi hA j x⟩
theorem StG.stepI (h : StG W0 W base g B fb fh I fi ft nB LB xv nI LI yv) (hn : Lns .i64 3 W base I fi nI LI yv s c9 m) (hi : nI < I.N) (h1 : Own .i64 3 W' base s1 (fi nI ++ List.replicate m (yv nI) ++ [yv nI])) (h2 : Own .i64 3 W' base ⟨s.A, s.n, c9⟩ (fi nI ++ List.replicate m (yv nI))) (hb : Below base W0 W') (hg : W.grownBy W' s.v.ownBlock)
    (hat : s1.v.ownBlock = s.v.ownBlock ∨ ∃ b, s1.v.ownBlock = some b ∧ W.heap.size ≤ b) : StG W0 W' base g B fb fh I fi ft nB LB xv nI LI yv ∧ Lns .i64 3 W' base I fi nI LI yv s1 s1.c (m + 1) := by
  have hty : ∀ b, s.v.ownBlock = some b → ∃ cs, W.heap[b]? = some (.cells cs 3 (0, 0)) := fun b e => hn.lo.typed b (by rw [← e]; exact ownBlock_c _ _ _ _ _)
  have kt : KeepTy W W' 5 37 := KeepTy.grown hg fun b e => by
    obtain ⟨cs, hc⟩ := hty b e
    exact ⟨cs, _, hc, by decide, by decide⟩
  have bg := (hg.block g (blk_lt h.sh.blk) fun e => by
    obtain ⟨cs, hc⟩ := hty g e.symm
    exact absurd (ty_eq hc h.sh.blk) (by decide)).trans h.sh.blk
  obtain ⟨p1, p2, p3⟩ := hn.step h.sh.i h.li (by decide) hi h1 h2 hg hat
  exact ⟨⟨⟨h.sh.low, bg, h.sh.b.ty kt, p1⟩, h.lb.ty kt, p2, hb⟩, p3⟩
theorem StG.closeI (h : StG W0 W base g B fb fh I fi ft nB LB xv nI LI yv) (hn : Lns .i64 3 W base I fi nI LI yv s c9 64) (hc9 : c9 = s.c) {A' : Option Addr} {c' : Nat} (ho : W'.ownsRow base 56 1 (.slice A' (nI + 1) c') (nI + 1) (sls nI LI.ls ++ [s.v])) (hb : Below base W0 W') (hg : W.grownBy W' (Value.slice LI.A nI LI.c).ownBlock)
    (hat : (Value.slice A' (nI + 1) c').ownBlock = (Value.slice LI.A nI LI.c).ownBlock ∨ ∃ b, (Value.slice A' (nI + 1) c').ownBlock = some b ∧ W.heap.size ≤ b) : StG W0 W' base g B fb fh I fi ft nB LB xv (nI + 1) ⟨A', c', fun j => if j = nI then s else LI.ls j⟩ yv := by
  have hty : ∀ b, (Value.slice LI.A nI LI.c).ownBlock = some b → ∃ cs, W.heap[b]? = some (.cells cs 56 (0, 0)) := fun b e => own_typed h.li.rl b e
  have kt : KeepTy W W' 5 37 := KeepTy.grown hg fun b e => by
    obtain ⟨cs, hc⟩ := hty b e
    exact ⟨cs, _, hc, by decide, by decide⟩
  have bg := (hg.block g (blk_lt h.sh.blk) fun e => by
    obtain ⟨cs, hc⟩ := hty g e.symm
    exact absurd (ty_eq hc h.sh.blk) (by decide)).trans h.sh.blk
  obtain ⟨p1, p2⟩ := hn.close (by have := hn.lo; rw [hc9] at this; exact this) h.sh.i h.li (by decide) ho hg hat
  exact ⟨⟨h.sh.low, bg, h.sh.b.ty kt, p1⟩, h.lb.ty kt, p2, hb⟩
end
set_option maxHeartbeats 8000000 in
set_option maxRecDepth 100000 in
theorem standsR_is (W : World) (base g H : Nat) (hsh : ShOk W base g H) :
    Calls Try.prog 70 #[.pointer (some ⟨g, 0, none⟩)] W fun e w' => e = .returned (.bool true) ∧ Below base W w' := by
  have hu91 := Try.underlying91
  obtain ⟨B, fb, fh, I, fi, ft, k, gb, gi, -⟩ := hsh
  have hbs : base ≤ W.heap.size := by have := k.low; have := blk_lt k.blk; omega
  have HBS := Aside0.mk hbs
  have HK0 := Aside0.mk k
  have HH := Aside0.mk (holdsR_is W base g B fb fh I fi ft k gb gi)
  have hbN := gb.2.1
  have hiN := gi.2.1
  have HMB := Aside0.mk gb.1
  have HMI := Aside0.mk gi.1
  have HLHB := Aside0.mk (fun (j : Nat) (hj : j < B.N) => (show (B.hs j).n = (B.bs j).n by rw [(k.b.oh j (by have := gb.1; omega)).len, (k.b.ob j hj).len, (gb.2.2 j hj).1]))
  have HLBB := Aside0.mk (fun (j : Nat) (hj : j < B.N) => (show (B.bs j).n ≤ 4398046511104 by rw [(k.b.ob j hj).len]; exact (gb.2.2 j hj).2))
  have HLHI := Aside0.mk (fun (j : Nat) (hj : j < I.N) => (show (I.hs j).n = (I.bs j).n by rw [(k.i.oh j (by have := gi.1; omega)).len, (k.i.ob j hj).len, (gi.2.2 j hj).1]))
  have HLBI := Aside0.mk (fun (j : Nat) (hj : j < I.N) => (show (I.bs j).n ≤ 4398046511104 by rw [(k.i.ob j hj).len]; exact (gi.2.2 j hj).2))
  have HMKB := Aside0.mk (show Mk B.N (fun j => (B.bs j).n) (fun j => ((j % 250 : Nat) : Int)) 0 0 0 fb fh from fun j hj => ⟨(k.b.ob j hj).len.symm, by rw [← (gb.2.2 j hj).1]; exact (k.b.ob j hj).len.symm, fun a _ h => by omega, fun a _ h => by omega⟩)
  have HMKI := Aside0.mk (show Mk I.N (fun j => (I.bs j).n) (fun j => -1 - (j : Int)) 0 0 0 fi ft from fun j hj => ⟨(k.i.ob j hj).len.symm, by rw [← (gi.2.2 j hj).1]; exact (k.i.ob j hj).len.symm, fun a _ h => by omega, fun a _ h => by omega⟩)
  clear k gb gi hbs
  go_enter Try.func70, Try.ntmps70
  go_wp2_with (go_at_call 120; refine HH.out.mono ?_; rintro e w1 ⟨rfl, hb1⟩; have HK1 := Aside0.mk (HK0.out.below hb1); have HB1 := Aside0.mk (hb1.mono HBS.out); clear hb1)
  clear HH HK0
  go_loopw [3] (fun vi wr => ∃ (i : Nat) (fb fh : Nat → List Int), vi = .int .i64 (i : Nat) ∧ i ≤ B.N ∧ Aside0 (Sh2 wr base g B fb fh I fi ft) ∧ Aside0 (Mk B.N (fun j => (B.bs j).n) (fun j => ((j % 250 : Nat) : Int)) i 0 0 fb fh) ∧ Aside0 (Below base W wr)) (fun vi _ => B.N - (intOf vi).toNat)
  case atStart => exact ⟨0, fb, fh, rfl, Nat.zero_le _, HK1, HMKB, HB1⟩
  case round =>
    clear HK1 HMKB HB1 fb fh
    obtain ⟨i, fb, fh, rfl, hi, HK, HMK, HB⟩ := hrel
    by_cases hlt : i < B.N
    · have hlm : i < B.M := by have := HMB.out; omega
      obtain ⟨qB, eB⟩ := own_addr HK.out.b.rb (by omega)
      obtain ⟨qH, eH⟩ := own_addr HK.out.b.rh (by omega)
      have EB := Aside0.mk eB
      have EH := Aside0.mk eH
      have x0 : wr.cell? ⟨g, 0, none⟩ = some (.slice (some ⟨qB, 0, none⟩) B.N B.c) := by rw [← EB.out]; exact HK.out.c0
      have HLT := Aside0.mk hlt
      have HLM := Aside0.mk hlm
      have hii : (i : Int) < (B.N : Int) := by omega
      have him : (i : Int) < (B.M : Int) := by omega
      clear eB eH
      have hM : Int.tmod (i : Int) 250 = ((i % 250 : Nat) : Int) := (Int.ofNat_tmod i 250).symm
      have hmi := Nat.mod_lt i (show 250 > 0 by omega)
      obtain ⟨mi, hmi2⟩ : ∃ mi, i % 250 = mi := ⟨_, rfl⟩
      rw [hmi2] at hM hmi
      have HMI2 := Aside0.mk hmi2
      clear hmi2
      go_wp2
      have HK2 := HK
      have HMK2 := HMK
      have HB2 := HB
      clear HK HMK HB x0
      go_loopw [4] (fun vi wr => ∃ (k : Nat) (fb fh : Nat → List Int), vi = .int .i64 (k : Nat) ∧ k ≤ (B.bs i).n ∧ Aside0 (Sh2 wr base g B fb fh I fi ft) ∧ Aside0 (Mk B.N (fun j => (B.bs j).n) (fun j => ((j % 250 : Nat) : Int)) i k k fb fh) ∧ Aside0 (Below base W wr)) (fun vi _ => (B.bs i).n - (intOf vi).toNat)
      case atStart => exact ⟨0, _, _, rfl, Nat.zero_le _, HK2, HMK2, HB2⟩
      case round =>
        clear HK2 HMK2 HB2 fb fh
        obtain ⟨k, fb, fh, rfl, hk, HK, HMK, HB⟩ := hrel
        have x0 : wr.cell? ⟨g, 0, none⟩ = some (.slice (some ⟨qB, 0, none⟩) B.N B.c) := by rw [← EB.out]; exact HK.out.c0
        have x2 := HK.out.rowB EB.out HLT.out
        by_cases hkt : k < (B.bs i).n
        · have hobl := (HMK.out i HLT.out).1
          have hohl := (HMK.out i HLT.out).2.1
          have hlb := HLBB.out i HLT.out
          obtain ⟨pB, eA, -, hpB, -⟩ := (HK.out.b.ob i HLT.out).form (by dsimp only at hobl; omega)
          obtain ⟨pH, eC, -, hpH, -⟩ := (HK.out.b.oh i HLM.out).form (by dsimp only at hohl; omega)
          obtain ⟨ov, ck0, ck1⟩ : ∃ ov, wr.cell? ⟨pB, k, none⟩ = some (.int .u8 ov) ∧ wr.frozen? ⟨pB, k, none⟩ = false := ⟨_, (HK.out.b.ob i HLT.out).cell eA k (by dsimp only at hobl; omega)⟩
          have HK3 := Aside0.mk (HK.out.putB HLT.out eA k (mi : Int))
          have y1 : (wr.setCell ⟨pB, k, none⟩ (.int .u8 (mi : Int))).cell? ⟨g, 1, none⟩ = some (.slice (some ⟨qH, 0, none⟩) B.M B.d) := by rw [← EH.out]; exact HK3.out.c1
          have y3 := HK3.out.rowH EH.out HLM.out
          obtain ⟨ow, ch0, ch1⟩ : ∃ ow, (wr.setCell ⟨pB, k, none⟩ (.int .u8 (mi : Int))).cell? ⟨pH, k, none⟩ = some (.int .u8 ow) ∧ (wr.setCell ⟨pB, k, none⟩ (.int .u8 (mi : Int))).frozen? ⟨pH, k, none⟩ = false := ⟨_, (HK3.out.b.oh i HLM.out).cell eC k (by dsimp only at hohl; omega)⟩
          have HK4 := Aside0.mk (HK3.out.putH HLM.out eC k (mi : Int))
          have HB4 := Aside0.mk (below_set (below_set HB.out (p := ⟨pB, k, none⟩) hpB (.int .u8 (mi : Int))) (p := ⟨pH, k, none⟩) hpH (.int .u8 (mi : Int)))
          have HMK3 := Aside0.mk (show Mk B.N (fun j => (B.bs j).n) (fun j => ((j % 250 : Nat) : Int)) i (k + 1) (k + 1) _ _ from by have h1 := (HMK.out.putB HLT.out hkt).putH HLT.out hkt; rw [HMI2.out] at h1; exact h1)
          have x2' : wr.cell? ⟨qB, i, none⟩ = some (.slice (some ⟨pB, 0, none⟩) (B.bs i).n (B.bs i).c) := by rw [← eA]; exact x2
          have y3' : (wr.setCell ⟨pB, k, none⟩ (.int .u8 (mi : Int))).cell? ⟨qH, i, none⟩ = some (.slice (some ⟨pH, 0, none⟩) (B.bs i).n (B.hs i).c) := by rw [← eC, ← HLHB.out i HLT.out]; exact y3
          have hki : (k : Int) < ((B.bs i).n : Int) := by omega
          clear x2 y3 hobl hohl eA eC hpB hpH
          go_wp2
          go_roundw
          case rel => exact ⟨k + 1, _, _, by go_num, by omega, HK4, HMK3, HB4⟩
          case measure => simp [intOf]; omega
        · have hne : ¬ ((k : Int) < ((B.bs i).n : Int)) := by omega
          have hkn : k = (B.bs i).n := by omega
          have HMK5 := Aside0.mk (HMK.out.next (by omega))
          clear hkt hkn
          go_wp2
          go_roundw
          case rel => exact ⟨i + 1, fb, fh, by go_num, by have := HLT.out; omega, HK, HMK5, HB⟩
          case measure => have := HLT.out; simp [intOf]; omega
    · have hne : ¬ ((i : Int) < (B.N : Int)) := by omega
      have x0 := HK.out.c0
      have hin : i = B.N := by omega
      have HMDB := Aside0.mk (show ∀ j, j < B.N → fb j = List.replicate (B.bs j).n ((fun j => ((j % 250 : Nat) : Int)) j) ∧ fh j = List.replicate (B.bs j).n ((fun j => ((j % 250 : Nat) : Int)) j) from fun j hj => Mk.done (show Mk B.N (fun j => (B.bs j).n) (fun j => ((j % 250 : Nat) : Int)) B.N 0 0 fb fh by have h := HMK.out; rw [hin] at h; exact h) j hj)
      clear hlt hin HMK
      go_wp2
      have HK1 := HK
      have HB1 := HB
      clear HK HB x0 hne hi
      go_loopw [5] (fun vi wr => ∃ (i : Nat) (fi ft : Nat → List Int), vi = .int .i64 (i : Nat) ∧ i ≤ I.N ∧ Aside0 (Sh2 wr base g B fb fh I fi ft) ∧ Aside0 (Mk I.N (fun j => (I.bs j).n) (fun j => -1 - (j : Int)) i 0 0 fi ft) ∧ Aside0 (Below base W wr)) (fun vi _ => I.N - (intOf vi).toNat)
      case atStart => exact ⟨0, fi, ft, rfl, Nat.zero_le _, HK1, HMKI, HB1⟩
      case round =>
        clear HK1 HMKI HB1
        obtain ⟨i, fi, ft, rfl, hi, HK, HMK, HB⟩ := hrel
        by_cases hlt : i < I.N
        · have hlm : i < I.M := by have := HMI.out; omega
          obtain ⟨qB, eB⟩ := own_addr HK.out.i.rb (by omega)
          obtain ⟨qH, eH⟩ := own_addr HK.out.i.rh (by omega)
          have EB := Aside0.mk eB
          have EH := Aside0.mk eH
          have x0 : wr.cell? ⟨g, 2, none⟩ = some (.slice (some ⟨qB, 0, none⟩) I.N I.c) := by rw [← EB.out]; exact HK.out.c2
          have HLT := Aside0.mk hlt
          have HLM := Aside0.mk hlm
          have hii : (i : Int) < (I.N : Int) := by omega
          have him : (i : Int) < (I.M : Int) := by omega
          clear eB eH
          have hmw : IntKind.i64.wrap (-1 - (i : Int)) = -1 - (i : Int) := IntWalk.i64_in _ (by omega)
          go_wp2
          have HK2 := HK
          have HMK2 := HMK
          have HB2 := HB
          clear HK HMK HB x0
          go_loopw [6] (fun vi wr => ∃ (k : Nat) (fi ft : Nat → List Int), vi = .int .i64 (k : Nat) ∧ k ≤ (I.bs i).n ∧ Aside0 (Sh2 wr base g B fb fh I fi ft) ∧ Aside0 (Mk I.N (fun j => (I.bs j).n) (fun j => -1 - (j : Int)) i k k fi ft) ∧ Aside0 (Below base W wr)) (fun vi _ => (I.bs i).n - (intOf vi).toNat)
          case atStart => exact ⟨0, _, _, rfl, Nat.zero_le _, HK2, HMK2, HB2⟩
          case round =>
            clear HK2 HMK2 HB2
            obtain ⟨k, fi, ft, rfl, hk, HK, HMK, HB⟩ := hrel
            have x0 : wr.cell? ⟨g, 2, none⟩ = some (.slice (some ⟨qB, 0, none⟩) I.N I.c) := by rw [← EB.out]; exact HK.out.c2
            have x2 := HK.out.rowI EB.out HLT.out
            by_cases hkt : k < (I.bs i).n
            · have hobl := (HMK.out i HLT.out).1
              have hohl := (HMK.out i HLT.out).2.1
              have hlb := HLBI.out i HLT.out
              obtain ⟨pB, eA, -, hpB, -⟩ := (HK.out.i.ob i HLT.out).form (by dsimp only at hobl; omega)
              obtain ⟨pH, eC, -, hpH, -⟩ := (HK.out.i.oh i HLM.out).form (by dsimp only at hohl; omega)
              obtain ⟨ov, ck0, ck1⟩ : ∃ ov, wr.cell? ⟨pB, k, none⟩ = some (.int .i64 ov) ∧ wr.frozen? ⟨pB, k, none⟩ = false := ⟨_, (HK.out.i.ob i HLT.out).cell eA k (by dsimp only at hobl; omega)⟩
              have HK3 := Aside0.mk (HK.out.putI HLT.out eA k (-1 - (i : Int)))
              have y1 : (wr.setCell ⟨pB, k, none⟩ (.int .i64 (-1 - (i : Int)))).cell? ⟨g, 3, none⟩ = some (.slice (some ⟨qH, 0, none⟩) I.M I.d) := by rw [← EH.out]; exact HK3.out.c3
              have y3 := HK3.out.rowT EH.out HLM.out
              obtain ⟨ow, ch0, ch1⟩ : ∃ ow, (wr.setCell ⟨pB, k, none⟩ (.int .i64 (-1 - (i : Int)))).cell? ⟨pH, k, none⟩ = some (.int .i64 ow) ∧ (wr.setCell ⟨pB, k, none⟩ (.int .i64 (-1 - (i : Int)))).frozen? ⟨pH, k, none⟩ = false := ⟨_, (HK3.out.i.oh i HLM.out).cell eC k (by dsimp only at hohl; omega)⟩
              have HK4 := Aside0.mk (HK3.out.putT HLM.out eC k (-1 - (i : Int)))
              have HB4 := Aside0.mk (below_set (below_set HB.out (p := ⟨pB, k, none⟩) hpB (.int .i64 (-1 - (i : Int)))) (p := ⟨pH, k, none⟩) hpH (.int .i64 (-1 - (i : Int))))
              have HMK3 := Aside0.mk (show Mk I.N (fun j => (I.bs j).n) (fun j => -1 - (j : Int)) i (k + 1) (k + 1) _ _ from by have h1 := (HMK.out.putB HLT.out hkt).putH HLT.out hkt; exact h1)
              have x2' : wr.cell? ⟨qB, i, none⟩ = some (.slice (some ⟨pB, 0, none⟩) (I.bs i).n (I.bs i).c) := by rw [← eA]; exact x2
              have y3' : (wr.setCell ⟨pB, k, none⟩ (.int .i64 (-1 - (i : Int)))).cell? ⟨qH, i, none⟩ = some (.slice (some ⟨pH, 0, none⟩) (I.bs i).n (I.hs i).c) := by rw [← eC, ← HLHI.out i HLT.out]; exact y3
              have hki : (k : Int) < ((I.bs i).n : Int) := by omega
              clear x2 y3 hobl hohl eA eC hpB hpH
              go_wp2
              go_roundw
              case rel => exact ⟨k + 1, _, _, by go_num, by omega, HK4, HMK3, HB4⟩
              case measure => simp [intOf]; omega
            · have hne : ¬ ((k : Int) < ((I.bs i).n : Int)) := by omega
              have hkn : k = (I.bs i).n := by omega
              have HMK5 := Aside0.mk (HMK.out.next (by omega))
              clear hkt hkn
              go_wp2
              go_roundw
              case rel => exact ⟨i + 1, fi, ft, by go_num, by have := HLT.out; omega, HK, HMK5, HB⟩
              case measure => have := HLT.out; simp [intOf]; omega
        · have hne : ¬ ((i : Int) < (I.N : Int)) := by omega
          have x0 := HK.out.c2
          have hin : i = I.N := by omega
          have HMDI := Aside0.mk (show ∀ j, j < I.N → fi j = List.replicate (I.bs j).n ((fun j => -1 - (j : Int)) j) ∧ ft j = List.replicate (I.bs j).n ((fun j => -1 - (j : Int)) j) from fun j hj => Mk.done (show Mk I.N (fun j => (I.bs j).n) (fun j => -1 - (j : Int)) I.N 0 0 fi ft by have h := HMK.out; rw [hin] at h; exact h) j hj)
          clear hlt hin HMK
          go_wp2
          have HK1 := HK
          have HB1 := HB
          clear HK HB x0 hne hi
          obtain ⟨xv, hxv⟩ : ∃ xv : Nat → Int, xv = fun j => ((250 + j % 5 : Nat) : Int) := ⟨_, rfl⟩
          obtain ⟨yv, hyv⟩ : ∃ yv : Nat → Int, yv = fun (j : Nat) => 1000 + (j : Int) := ⟨_, rfl⟩
          have HXVB := Aside0.mk hxv
          have HXVI := Aside0.mk hyv
          clear hxv hyv
          have HG1 := Aside0.mk (show StG W wr base g B fb fh I fi ft 0 ⟨none, 0, fun _ => ⟨none, 0, 0⟩⟩ xv 0 ⟨none, 0, fun _ => ⟨none, 0, 0⟩⟩ yv from ⟨HK1.out, Lgs.none_, Lgs.none_, HB1.out⟩)
          clear HK1 HB1
          go_loopw [7, 8, 10] (fun v7 v8 v10 wr => ∃ (i tt : Nat) (AL : Option Addr) (cL : Nat) (ls : Nat → Sl), v10 = .int .i64 (i : Nat) ∧ i ≤ B.N ∧ v7 = .int .i64 (tt : Nat) ∧ 64 * (0 + i) ≤ tt ∧ tt ≤ (0 + i) * 4398046512000 ∧ v8 = .slice AL i cL ∧ Aside0 (StG W wr base g B fb fh I fi ft i ⟨AL, cL, ls⟩ xv 0 ⟨none, 0, fun _ => ⟨none, 0, 0⟩⟩ yv)) (fun _ _ vi _ => B.N - (intOf vi).toNat)
          case atStart => exact ⟨0, 0, none, 0, _, rfl, Nat.zero_le _, rfl, by omega, by omega, rfl, HG1⟩
          case round =>
            clear HG1 
            obtain ⟨i, tt, AL, cL, ls, rfl, hi, rfl, ht1, ht2, rfl, HG⟩ := hrel
            have x0 := HG.out.sh.c0
            by_cases hlt : i < B.N
            · obtain ⟨qB, eB⟩ := own_addr HG.out.sh.b.rb (by omega)
              have EB := Aside0.mk eB
              have x0' : wr.cell? ⟨g, 0, none⟩ = some (.slice (some ⟨qB, 0, none⟩) B.N B.c) := by rw [← EB.out]; exact x0
              have x2 := HG.out.sh.rowB eB hlt
              have HLT := Aside0.mk hlt
              have hii : (i : Int) < (B.N : Int) := by omega
              obtain ⟨c9, hn9⟩ := Lns.first (i := i) (L := ⟨AL, cL, ls⟩) (xv := xv) HG.out.sh.b hlt
              have HN1 := Aside0.mk hn9
              have HT := Aside0.mk (And.intro ht1 ht2)
              clear ht1 ht2 hn9 eB x0
              have hM5 : Int.tmod (i : Int) 5 = ((i % 5 : Nat) : Int) := (Int.ofNat_tmod i 5).symm
              have hr5 := Nat.mod_lt i (show 5 > 0 by omega)
              have HXI := Aside0.mk (show xv i = 250 + ((i % 5 : Nat) : Int) by rw [HXVB.out]; dsimp only; omega)
              obtain ⟨r5, hr⟩ : ∃ r5, i % 5 = r5 := ⟨_, rfl⟩
              rw [hr] at hM5 hr5 HXI
              clear hr
              have hlb := HLBB.out i hlt
              have HLB1 := Aside0.mk (show (fb i).length ≤ 4398046511104 by rw [← (HG.out.sh.b.ob i hlt).len]; exact hlb)
              clear hlb
              go_wp2
              have HG2 := HG
              clear HG x0' x2
              go_loopw [11, 12] (fun v11 v12 wr => ∃ (k : Nat) (t : Sl) (c9 : Nat), v12 = .int .i64 (k : Nat) ∧ k ≤ 64 ∧ v11 = .slice t.A t.n t.c ∧ Aside0 (StG W wr base g B fb fh I fi ft i ⟨AL, cL, ls⟩ xv 0 ⟨none, 0, fun _ => ⟨none, 0, 0⟩⟩ yv) ∧ Aside0 (Lns .u8 5 wr base B fb i ⟨AL, cL, ls⟩ xv t c9 k) ∧ Aside0 (0 < k → c9 = t.c)) (fun _ v12 _ => 64 - (intOf v12).toNat)
              case atStart => exact ⟨0, B.bs i, c9, rfl, Nat.zero_le _, rfl, HG2, HN1, ⟨fun h => by omega⟩⟩
              case round =>
                clear HN1 HG2 c9
                obtain ⟨k, t, c9, rfl, hk, rfl, HG, HL, HC9⟩ := hrel
                by_cases hkt : k < 64
                · have HLL := Aside0.mk (show ((fb i ++ List.replicate k (xv i)).length + 1) * 1 ≤ 140737488355328 by have := HLB1.out; simp; omega)
                  have HSZ2 := Aside0.mk (show base ≤ wr.heap.size by have := HG.out.bel.size; have := HBS.out; omega)
                  go_wp2_with ((with_reducible refine gate_builtin (b := .append) (xs := #[.tmp 131, .tmp 136]) rfl ?_); at_builtin; refine print_append_ownC (w0 := W) base rfl (.tmp 131) (.tmp 136) 37 5 (.int .u8 0) 1 rfl Try.underlying37 infoU8 rfl (by decide) t c9 (fb i ++ List.replicate k (xv i)) (250 + (r5 : Int)) rfl rfl ?aO ?aC ?aB ?aS ?aL ?_; (case aO => exact HL.out.lo); (case aC => exact HL.out.lc); (case aB => exact HG.out.bel); (case aS => exact HSZ2.out); (case aL => exact HLL.out); intro t1 w1 ho hold hb hg hat; obtain ⟨hg1, hl1⟩ := HG.out.stepB HL.out HLT.out (by rw [HXI.out]; rw [HXI.out] at ho; exact ho) hold hb hg hat; have HG1 := Aside0.mk hg1; have HL1 := Aside0.mk hl1; clear ho hold hb hg hat hg1 hl1)
                  go_roundw
                  case rel => exact ⟨k + 1, t1, t1.c, by go_num, by omega, rfl, HG1, HL1, ⟨fun _ => rfl⟩⟩
                  case measure => simp [intOf]; omega
                · have hne : ¬ ((k : Int) < 64) := by omega
                  have hk64 : k = 64 := by omega
                  subst hk64
                  have HTN := Aside0.mk (show t.n = (fb i).length + 64 by have := HL.out.lo.len; dsimp only at this; rw [this]; simp)
                  have htb : t.n ≤ 4398046511168 := by have := HTN.out; have := HLB1.out; omega
                  have htt : tt ≤ 3518437209600000 := by have := HT.out.2; have := HLT.out; omega
                  have HSZ2 := Aside0.mk (show base ≤ wr.heap.size by have := HG.out.bel.size; have := HBS.out; omega)
                  clear hkt
                  go_wp2_with ((with_reducible refine gate_builtin (b := .append) (xs := #[.tmp 142, .tmp 144]) rfl ?_); at_builtin; refine print_append_both (w0 := W) base rfl (.tmp 142) (.tmp 144) 88 37 (.slice none 0 0) 24 rfl Try.underlying88 infoSl rfl (by decide) (.slice AL i cL) (sls i ls) (.slice t.A t.n t.c) rfl rfl rfl ?aO ?aB ?aS ?aL ?_; (case aO => rw [sls_len]; exact HG.out.lb.rl); (case aB => exact HG.out.bel); (case aS => exact HSZ2.out); (case aL => rw [sls_len]; have := HLT.out; omega); intro v1 w1 ho _ hb hg hat; obtain ⟨AL', cL', rfl, ho2⟩ := sl_of ho (show _ = i + 1 by simp [sls_len]); have HG1 := Aside0.mk (HG.out.closeB HL.out (HC9.out (by omega)) ho2 hb hg hat); clear ho hb hg hat ho2)
                  go_roundw
                  case rel => exact ⟨i + 1, tt + t.n, AL', cL', _, by go_num, by have := HLT.out; omega, by go_num, by have := HT.out.1; have := HTN.out; omega, by have := HT.out.2; omega, rfl, HG1⟩
                  case measure => have := HLT.out; simp [intOf]; omega
            · have hne : ¬ ((i : Int) < (B.N : Int)) := by omega
              have hin : i = B.N := by omega
              subst hin
              clear hlt hne hi
              go_wp2
              have HTB := Aside0.mk (And.intro ht1 ht2)
              have HG1 := HG
              clear HG x0 ht1 ht2
              obtain ⟨AB, cB, lsB, ttB, e1, e2, e3, e4⟩ : ∃ (z1 : Option Addr) (z2 : Nat) (z3 : Nat → Sl) (z4 : Nat), z1 = AL ∧ z2 = cL ∧ z3 = ls ∧ z4 = tt := ⟨_, _, _, _, rfl, rfl, rfl, rfl⟩
              subst e1 e2 e3 e4
              have HT0 := Aside0.mk (show 64 * (B.N + 0) ≤ ttB ∧ ttB ≤ (B.N + 0) * 4398046512000 from ⟨by rw [Nat.add_zero]; have h8 := HTB.out.1; rw [Nat.zero_add] at h8; exact h8, by rw [Nat.add_zero]; have h8 := HTB.out.2; rw [Nat.zero_add] at h8; exact h8⟩)
              go_loopw [7, 9, 13] (fun v7 v8 v10 wr => ∃ (i tt : Nat) (AL : Option Addr) (cL : Nat) (ls : Nat → Sl), v10 = .int .i64 (i : Nat) ∧ i ≤ I.N ∧ v7 = .int .i64 (tt : Nat) ∧ 64 * (B.N + i) ≤ tt ∧ tt ≤ (B.N + i) * 4398046512000 ∧ v8 = .slice AL i cL ∧ Aside0 (StG W wr base g B fb fh I fi ft B.N ⟨AB, cB, lsB⟩ xv i ⟨AL, cL, ls⟩ yv)) (fun _ _ vi _ => I.N - (intOf vi).toNat)
              case atStart => exact ⟨0, ttB, none, 0, _, rfl, Nat.zero_le _, rfl, HT0.out.1, HT0.out.2, rfl, HG1⟩
              case round =>
                clear HG1 HTB HT0
                obtain ⟨i, tt, AL, cL, ls, rfl, hi, rfl, ht1, ht2, rfl, HG⟩ := hrel
                have x0 := HG.out.sh.c2
                by_cases hlt : i < I.N
                · obtain ⟨qB, eB⟩ := own_addr HG.out.sh.i.rb (by omega)
                  have EB := Aside0.mk eB
                  have x0' : wr.cell? ⟨g, 2, none⟩ = some (.slice (some ⟨qB, 0, none⟩) I.N I.c) := by rw [← EB.out]; exact x0
                  have x2 := HG.out.sh.rowI eB hlt
                  have HLT := Aside0.mk hlt
                  have hii : (i : Int) < (I.N : Int) := by omega
                  obtain ⟨c9, hn9⟩ := Lns.first (i := i) (L := ⟨AL, cL, ls⟩) (xv := yv) HG.out.sh.i hlt
                  have HN1 := Aside0.mk hn9
                  have HT := Aside0.mk (And.intro ht1 ht2)
                  clear ht1 ht2 hn9 eB x0
                  have HXI := Aside0.mk (show yv i = 1000 + (i : Int) by rw [HXVI.out])
                  have hmw : IntKind.i64.wrap (1000 + (i : Int)) = 1000 + (i : Int) := IntWalk.i64_in _ (by omega)
                  have hlb := HLBI.out i hlt
                  have HLB1 := Aside0.mk (show (fi i).length ≤ 4398046511104 by rw [← (HG.out.sh.i.ob i hlt).len]; exact hlb)
                  clear hlb
                  go_wp2
                  have HG2 := HG
                  clear HG x0' x2
                  go_loopw [14, 15] (fun v11 v12 wr => ∃ (k : Nat) (t : Sl) (c9 : Nat), v12 = .int .i64 (k : Nat) ∧ k ≤ 64 ∧ v11 = .slice t.A t.n t.c ∧ Aside0 (StG W wr base g B fb fh I fi ft B.N ⟨AB, cB, lsB⟩ xv i ⟨AL, cL, ls⟩ yv) ∧ Aside0 (Lns .i64 3 wr base I fi i ⟨AL, cL, ls⟩ yv t c9 k) ∧ Aside0 (0 < k → c9 = t.c)) (fun _ v12 _ => 64 - (intOf v12).toNat)
                  case atStart => exact ⟨0, I.bs i, c9, rfl, Nat.zero_le _, rfl, HG2, HN1, ⟨fun h => by omega⟩⟩
                  case round =>
                    clear HN1 HG2 c9
                    obtain ⟨k, t, c9, rfl, hk, rfl, HG, HL, HC9⟩ := hrel
                    by_cases hkt : k < 64
                    · have HLL := Aside0.mk (show ((fi i ++ List.replicate k (yv i)).length + 1) * 8 ≤ 140737488355328 by have := HLB1.out; simp; omega)
                      have HSZ2 := Aside0.mk (show base ≤ wr.heap.size by have := HG.out.bel.size; have := HBS.out; omega)
                      go_wp2_with ((with_reducible refine gate_builtin (b := .append) (xs := #[.tmp 166, .tmp 169]) rfl ?_); at_builtin; refine print_append_ownC (w0 := W) base rfl (.tmp 166) (.tmp 169) 56 3 (.int .i64 0) 8 rfl Try.underlying56 infoInt rfl (by decide) t c9 (fi i ++ List.replicate k (yv i)) (1000 + (i : Int)) rfl rfl ?aO ?aC ?aB ?aS ?aL ?_; (case aO => exact HL.out.lo); (case aC => exact HL.out.lc); (case aB => exact HG.out.bel); (case aS => exact HSZ2.out); (case aL => exact HLL.out); intro t1 w1 ho hold hb hg hat; obtain ⟨hg1, hl1⟩ := HG.out.stepI HL.out HLT.out (by rw [HXI.out]; rw [HXI.out] at ho; exact ho) hold hb hg hat; have HG1 := Aside0.mk hg1; have HL1 := Aside0.mk hl1; clear ho hold hb hg hat hg1 hl1)
                      go_roundw
                      case rel => exact ⟨k + 1, t1, t1.c, by go_num, by omega, rfl, HG1, HL1, ⟨fun _ => rfl⟩⟩
                      case measure => simp [intOf]; omega
                    · have hne : ¬ ((k : Int) < 64) := by omega
                      have hk64 : k = 64 := by omega
                      subst hk64
                      have HTN := Aside0.mk (show t.n = (fi i).length + 64 by have := HL.out.lo.len; dsimp only at this; rw [this]; simp)
                      have htb : t.n ≤ 4398046511168 := by have := HTN.out; have := HLB1.out; omega
                      have htt : tt ≤ 3518437209600000 := by have := HT.out.2; have := HLT.out; omega
                      have HSZ2 := Aside0.mk (show base ≤ wr.heap.size by have := HG.out.bel.size; have := HBS.out; omega)
                      clear hkt
                      go_wp2_with ((with_reducible refine gate_builtin (b := .append) (xs := #[.tmp 175, .tmp 177]) rfl ?_); at_builtin; refine print_append_both (w0 := W) base rfl (.tmp 175) (.tmp 177) 89 56 (.slice none 0 0) 24 rfl Try.underlying89 infoSi rfl (by decide) (.slice AL i cL) (sls i ls) (.slice t.A t.n t.c) rfl rfl rfl ?aO ?aB ?aS ?aL ?_; (case aO => rw [sls_len]; exact HG.out.li.rl); (case aB => exact HG.out.bel); (case aS => exact HSZ2.out); (case aL => rw [sls_len]; have := HLT.out; omega); intro v1 w1 ho _ hb hg hat; obtain ⟨AL', cL', rfl, ho2⟩ := sl_of ho (show _ = i + 1 by simp [sls_len]); have HG1 := Aside0.mk (HG.out.closeI HL.out (HC9.out (by omega)) ho2 hb hg hat); clear ho hb hg hat ho2)
                      go_roundw
                      case rel => exact ⟨i + 1, tt + t.n, AL', cL', _, by go_num, by have := HLT.out; omega, by go_num, by have := HT.out.1; have := HTN.out; omega, by have := HT.out.2; omega, rfl, HG1⟩
                      case measure => have := HLT.out; simp [intOf]; omega
                · have hne : ¬ ((i : Int) < (I.N : Int)) := by omega
                  have hin : i = I.N := by omega
                  subst hin
                  clear hlt hne hi
                  go_wp2
                  have HTI := Aside0.mk (And.intro ht1 ht2)
                  have HG1 := HG
                  clear HG x0 ht1 ht2
                  obtain ⟨AI, cI, lsI, e1, e2, e3⟩ : ∃ (z1 : Option Addr) (z2 : Nat) (z3 : Nat → Sl), z1 = AL ∧ z2 = cL ∧ z3 = ls := ⟨_, _, _, rfl, rfl, rfl⟩
                  subst e1 e2 e3
                  go_loopw [16] (fun vi wr => ∃ j : Nat, vi = .int .i64 (j : Nat) ∧ j ≤ B.N ∧ Aside0 (StG W wr base g B fb fh I fi ft B.N ⟨AB, cB, lsB⟩ xv I.N ⟨AI, cI, lsI⟩ yv)) (fun vi _ => B.N - (intOf vi).toNat)
                  case atStart => exact ⟨0, rfl, Nat.zero_le _, HG1⟩
                  case round =>
                    clear HG1
                    obtain ⟨j, rfl, hj, HG⟩ := hrel
                    by_cases hlt : j < B.N
                    · obtain ⟨qB, eB⟩ := own_addr HG.out.sh.b.rb (by omega)
                      obtain ⟨qL, eL⟩ := own_addr HG.out.lb.rl (by omega)
                      dsimp only at eL
                      have EB := Aside0.mk eB
                      subst eL
                      have x0 : wr.cell? ⟨g, 0, none⟩ = some (.slice (some ⟨qB, 0, none⟩) B.N B.c) := by rw [← EB.out]; exact HG.out.sh.c0
                      have x2 := HG.out.sh.rowB eB hlt
                      have HLT := Aside0.mk hlt
                      have hii : (j : Int) < (B.N : Int) := by omega
                      have hM5 : Int.tmod (j : Int) 5 = ((j % 5 : Nat) : Int) := (Int.ofNat_tmod j 5).symm
                      have hr5 := Nat.mod_lt j (show 5 > 0 by omega)
                      have HXI := Aside0.mk (show xv j = 250 + ((j % 5 : Nat) : Int) by rw [HXVB.out]; dsimp only; omega)
                      obtain ⟨r5, hr⟩ : ∃ r5, j % 5 = r5 := ⟨_, rfl⟩
                      rw [hr] at hM5 hr5 HXI
                      clear hr
                      have hfl : (fb j).length = (B.bs j).n := (HG.out.sh.b.ob j hlt).len.symm
                      have hnb := HLBB.out j hlt
                      have HFL := Aside0.mk hfl
                      clear hfl eB
                      go_wp2
                      have HG2 := HG
                      clear HG x0 x2
                      go_loopw [17] (fun vi wr => ∃ k : Nat, vi = .int .i64 (k : Nat) ∧ (B.bs j).n ≤ k ∧ k ≤ (B.bs j).n + 64 ∧ Aside0 (StG W wr base g B fb fh I fi ft B.N ⟨some ⟨qL, 0, none⟩, cB, lsB⟩ xv I.N ⟨AI, cI, lsI⟩ yv)) (fun vi _ => (B.bs j).n + 64 - (intOf vi).toNat)
                      case atStart => exact ⟨(B.bs j).n, rfl, Nat.le_refl _, by omega, HG2⟩
                      case round =>
                        clear HG2
                        obtain ⟨k, rfl, hk1, hk2, HG⟩ := hrel
                        have ol := HG.out.lb.ol j HLT.out
                        dsimp only at ol
                        have hln : (lsB j).n = (B.bs j).n + 64 := by rw [ol.len, List.length_append, HFL.out, List.length_replicate]
                        have x4 := own_cell HG.out.lb.rl j _ (sls_at B.N lsB j HLT.out)
                        have x4' : wr.cell? ⟨qL, j, none⟩ = some (.slice (lsB j).A ((B.bs j).n + 64) (lsB j).c) := by rw [← hln]; exact x4
                        by_cases hkt : k < (B.bs j).n + 64
                        · obtain ⟨pL, eA, -, -, -⟩ := ol.form (by simp)
                          have hkl : k < (fb j ++ List.replicate 64 (xv j)).length := by rw [List.length_append, HFL.out, List.length_replicate]; exact hkt
                          obtain ⟨c5, -⟩ := ol.cell eA k hkl
                          rw [List.getElem_append_right (by have := HFL.out; omega), List.getElem_replicate, HXI.out] at c5
                          have x5 : wr.cell? ⟨qL, j, none⟩ = some (.slice (some ⟨pL, 0, none⟩) ((B.bs j).n + 64) (lsB j).c) := by rw [← eA]; exact x4'
                          have hki : (k : Int) < ((B.bs j).n : Int) + 64 := by omega
                          clear x4 x4' ol hln hkl eA
                          go_wp2
                          go_roundw
                          case rel => exact ⟨k + 1, by go_num, by omega, by omega, HG⟩
                          case measure => simp [intOf]; omega
                        · have hne : ¬ ((k : Int) < ((B.bs j).n : Int) + 64) := by omega
                          clear x4 ol hln hkt
                          go_wp2
                          go_roundw
                          case rel => exact ⟨j + 1, by go_num, by have := HLT.out; omega, HG⟩
                          case measure => have := HLT.out; simp [intOf]; omega
                    · have hne : ¬ ((j : Int) < (B.N : Int)) := by omega
                      clear hlt hj
                      go_wp2
                      have HG1 := HG
                      clear HG hne
                      go_loopw [18] (fun vi wr => ∃ j : Nat, vi = .int .i64 (j : Nat) ∧ j ≤ I.N ∧ Aside0 (StG W wr base g B fb fh I fi ft B.N ⟨AB, cB, lsB⟩ xv I.N ⟨AI, cI, lsI⟩ yv)) (fun vi _ => I.N - (intOf vi).toNat)
                      case atStart => exact ⟨0, rfl, Nat.zero_le _, HG1⟩
                      case round =>
                        clear HG1
                        obtain ⟨j, rfl, hj, HG⟩ := hrel
                        by_cases hlt : j < I.N
                        · obtain ⟨qB, eB⟩ := own_addr HG.out.sh.i.rb (by omega)
                          obtain ⟨qL, eL⟩ := own_addr HG.out.li.rl (by omega)
                          dsimp only at eL
                          have EB := Aside0.mk eB
                          subst eL
                          have x0 : wr.cell? ⟨g, 2, none⟩ = some (.slice (some ⟨qB, 0, none⟩) I.N I.c) := by rw [← EB.out]; exact HG.out.sh.c2
                          have x2 := HG.out.sh.rowI eB hlt
                          have HLT := Aside0.mk hlt
                          have hii : (j : Int) < (I.N : Int) := by omega
                          have HXI := Aside0.mk (show yv j = 1000 + (j : Int) by rw [HXVI.out])
                          have hmw : IntKind.i64.wrap (1000 + (j : Int)) = 1000 + (j : Int) := IntWalk.i64_in _ (by omega)
                          have hfl : (fi j).length = (I.bs j).n := (HG.out.sh.i.ob j hlt).len.symm
                          have hnb := HLBI.out j hlt
                          have HFL := Aside0.mk hfl
                          clear hfl eB
                          go_wp2
                          have HG2 := HG
                          clear HG x0 x2
                          go_loopw [19] (fun vi wr => ∃ k : Nat, vi = .int .i64 (k : Nat) ∧ (I.bs j).n ≤ k ∧ k ≤ (I.bs j).n + 64 ∧ Aside0 (StG W wr base g B fb fh I fi ft B.N ⟨AB, cB, lsB⟩ xv I.N ⟨some ⟨qL, 0, none⟩, cI, lsI⟩ yv)) (fun vi _ => (I.bs j).n + 64 - (intOf vi).toNat)
                          case atStart => exact ⟨(I.bs j).n, rfl, Nat.le_refl _, by omega, HG2⟩
                          case round =>
                            clear HG2
                            obtain ⟨k, rfl, hk1, hk2, HG⟩ := hrel
                            have ol := HG.out.li.ol j HLT.out
                            dsimp only at ol
                            have hln : (lsI j).n = (I.bs j).n + 64 := by rw [ol.len, List.length_append, HFL.out, List.length_replicate]
                            have x4 := own_cell HG.out.li.rl j _ (sls_at I.N lsI j HLT.out)
                            have x4' : wr.cell? ⟨qL, j, none⟩ = some (.slice (lsI j).A ((I.bs j).n + 64) (lsI j).c) := by rw [← hln]; exact x4
                            by_cases hkt : k < (I.bs j).n + 64
                            · obtain ⟨pL, eA, -, -, -⟩ := ol.form (by simp)
                              have hkl : k < (fi j ++ List.replicate 64 (yv j)).length := by rw [List.length_append, HFL.out, List.length_replicate]; exact hkt
                              obtain ⟨c5, -⟩ := ol.cell eA k hkl
                              rw [List.getElem_append_right (by have := HFL.out; omega), List.getElem_replicate, HXI.out] at c5
                              have x5 : wr.cell? ⟨qL, j, none⟩ = some (.slice (some ⟨pL, 0, none⟩) ((I.bs j).n + 64) (lsI j).c) := by rw [← eA]; exact x4'
                              have hki : (k : Int) < ((I.bs j).n : Int) + 64 := by omega
                              clear x4 x4' ol hln hkl eA
                              go_wp2
                              go_roundw
                              case rel => exact ⟨k + 1, by go_num, by omega, by omega, HG⟩
                              case measure => simp [intOf]; omega
                            · have hne : ¬ ((k : Int) < ((I.bs j).n : Int) + 64) := by omega
                              clear x4 ol hln hkt
                              go_wp2
                              go_roundw
                              case rel => exact ⟨j + 1, by go_num, by have := HLT.out; omega, HG⟩
                              case measure => have := HLT.out; simp [intOf]; omega
                        · have hne : ¬ ((j : Int) < (I.N : Int)) := by omega
                          clear hlt hj
                          go_wp2
                          have HG1 := HG
                          clear HG hne
                          have HHO := Aside0.mk (fun (W' : World) (k : StG W W' base g B fb fh I fi ft B.N ⟨AB, cB, lsB⟩ xv I.N ⟨AI, cI, lsI⟩ yv) => holdsR_is W' base g B fb fh I fi ft k.sh ⟨HMB.out, hbN, fun j hj => ⟨by rw [(HMDB.out j hj).1, (HMDB.out j hj).2], by rw [(HMDB.out j hj).1, List.length_replicate]; exact HLBB.out j hj⟩⟩ ⟨HMI.out, hiN, fun j hj => ⟨by rw [(HMDI.out j hj).1, (HMDI.out j hj).2], by rw [(HMDI.out j hj).1, List.length_replicate]; exact HLBI.out j hj⟩⟩)
                          have hcmp : (64 : Int) * ((B.N : Int) + (I.N : Int)) ≤ (tt : Int) := by have := HTI.out.1; omega
                          have htt : tt ≤ 3518437209600000 := by have := HTI.out.2; omega
                          obtain ⟨hIn, y0, y2⟩ := StG.see HG1.out
                          clear HG1
                          go_wp2
                          go_region_held3 (fun w' => StG W w' base g B fb fh I fi ft B.N ⟨AB, cB, lsB⟩ xv I.N ⟨AI, cI, lsI⟩ yv ∧ w'.cell? ⟨g, 0, none⟩ = some (.slice B.A B.N B.c) ∧ w'.cell? ⟨g, 2, none⟩ = some (.slice I.A I.N I.c))
                            (first | exact StG.see (StG.drew (by assumption)) | exact StG.see (StG.drew (And.left (by assumption))) | exact StG.see (StG.below (And.left (by assumption)) (by assumption)) | exact StG.see (StG.below (by assumption) (by assumption)))
                            (first | (go_at_call 120; refine (HHO.out _ ?hkk).mono ?_; (case hkk => (first | exact And.left (by assumption) | assumption)); rintro e w' ⟨rfl, hb⟩))
                          obtain ⟨hF3, -, -⟩ := ‹StG W _ base g B fb fh I fi ft B.N ⟨AB, cB, lsB⟩ xv I.N ⟨AI, cI, lsI⟩ yv ∧ _ ∧ _›
                          have HF3 := Aside0.mk hF3
                          clear hF3
                          go_wp2
                          have hd : decide (IntKind.i64.wrap (64 * IntKind.i64.wrap ((B.N : Int) + (I.N : Int))) ≤ (tt : Int)) = true := decide_eq_true (by rw [IntWalk.i64_in ((B.N : Int) + (I.N : Int)) (by omega), IntWalk.i64_in _ (by omega)]; exact hcmp)
                          go_ret
                          refine ⟨?_, HF3.out.bel⟩
                          show Ending.returned (Value.bool (decide (IntKind.i64.wrap (64 * IntKind.i64.wrap ((B.N : Int) + (I.N : Int))) ≤ (tt : Int)))) = _
                          rw [hd]
end Go.Proofs.Ytceeoifbimlkdaa.B
