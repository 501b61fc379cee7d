/- Proved: the contract of the Shelf's holds: lists that read as they should. Conditions: no lists of ints; bounds of the lengths. -/
import Derived.Test.YtceeoifbimlkdaaHShelf
import Derived.Deep.RegionHeld3
namespace Go.Proofs.Ytceeoifbimlkdaa.B
open Go.RowKit Go.Proofs.YtceeoifbimlkdaaW.PrintWords Go.Proofs.YtceeoifbimlkdaaW.PrintLast Go.Proofs.YtceeoifbimlkdaaW.PrintMore

theorem Own.reads' {k : IntKind} {e base : Nat} {W : World} {s : Sl} {xs : List Int} (h : Own k e W base s xs) : Kd.C (Kd.int k) W s.A s.n xs := by rw [h.len]; exact h.reads
/-- The shelf, and what has been turned since. -/
structure ShIn (W0 W : World) (base g : Nat) (AB : Option Addr) (cB : Nat) (AH : Option Addr) (cH : Nat) (N M : Nat) (bs hs : Nat → Sl) (fb fh : Nat → List Int) : Prop where
  at_ : ShAt W base g AB cB AH cH N M bs hs fb fh
  bel : Below W0.heap.size W0 W
section
variable {W0 W W' : World} {base g : Nat} {AB : Option Addr} {cB : Nat} {AH : Option Addr} {cH : Nat} {N M : Nat} {bs hs : Nat → Sl} {fb fh : Nat → List Int} {qB qH i : Nat}
theorem ShIn.below (k : ShIn W0 W base g AB cB AH cH N M bs hs fb fh) (h : Below W.heap.size W W') : ShIn W0 W' base g AB cB AH cH N M bs hs fb fh := ⟨k.at_.below h, k.bel.trans (h.mono k.bel.size)⟩
theorem ShIn.drew (k : ShIn W0 W base g AB cB AH cH N M bs hs fb fh) : ShIn W0 W.drew base g AB cB AH cH N M bs hs fb fh := k.below (below_drew (Below.refl _ _))
theorem ShIn.drewN (k : ShIn W0 W base g AB cB AH cH N M bs hs fb fh) (m : Nat) : ShIn W0 (W.drewN m) base g AB cB AH cH N M bs hs fb fh := k.below (pw_below_drewN (Below.refl _ _) m)
theorem ShIn.see (k : ShIn W0 W base g (some ⟨qB, 0, none⟩) cB (some ⟨qH, 0, none⟩) cH N M bs hs fb fh) (h1 : i < N) (h2 : i < M) :
    ShIn W0 W base g (some ⟨qB, 0, none⟩) cB (some ⟨qH, 0, none⟩) cH N M bs hs fb fh ∧ W.cell? ⟨g, 0, none⟩ = some (.slice (some ⟨qB, 0, none⟩) N cB) ∧ W.cell? ⟨g, 1, none⟩ = some (.slice (some ⟨qH, 0, none⟩) M cH) ∧ W.cell? ⟨qB, i, none⟩ = some (.slice (bs i).A (bs i).n (bs i).c) ∧ W.cell? ⟨qH, i, none⟩ = some (.slice (hs i).A (hs i).n (hs i).c) :=
  ⟨k, k.at_.c0, k.at_.c1, own_cell k.at_.rb i _ (sls_at N bs i h1), own_cell k.at_.rh i _ (sls_at M hs i h2)⟩
end
set_option maxHeartbeats 4000000 in
set_option maxRecDepth 100000 in
theorem holds_is (W : World) (base g : Nat) (AB : Option Addr) (cB : Nat) (AH : Option Addr) (cH N : Nat) (bs hs : Nat → Sl) (fb fh : Nat → List Int) (k : ShAt W base g AB cB AH cH N N bs hs fb fh) (hN : N ≤ 400) (he : ∀ i, i < N → fb i = fh i ∧ (fb i).length ≤ 4398046511104) :
    Calls Try.prog 120 #[.pointer (some ⟨g, 0, none⟩)] W fun e w' => e = .returned (.bool true) ∧ Below W.heap.size W w' := by
  have hu91 := Try.underlying91
  have HK := Aside0.mk k
  have HE := Aside0.mk he
  clear k he
  go_enter Try.func120, Try.ntmps120
  go_wp2
  go_loopw [3] (fun vi wr => ∃ i : Nat, vi = .int .i64 (i : Nat) ∧ i ≤ N ∧ Aside0 (ShIn W wr base g AB cB AH cH N N bs hs fb fh)) (fun vi _ => N - (intOf vi).toNat)
  case atStart => exact ⟨0, rfl, Nat.zero_le _, ⟨HK.out, Below.refl _ _⟩⟩
  case round =>
    clear HK
    obtain ⟨i, rfl, hi, HK⟩ := hrel
    by_cases hlt : i < N
    · obtain ⟨qB, eB⟩ := own_addr HK.out.at_.rb (by omega)
      obtain ⟨qH, eH⟩ := own_addr HK.out.at_.rh (by omega)
      subst eB eH
      obtain ⟨hk, x0, x1, x2, x3⟩ := HK.out.see (i := i) hlt hlt
      have HSM := Aside0.mk (fun (W' : World) (k : ShIn W W' base g (some ⟨qB, 0, none⟩) cB (some ⟨qH, 0, none⟩) cH N N bs hs fb fh) => same_yes (bs i).A (bs i).n (bs i).c (hs i).A (hs i).n (hs i).c (fb i) W' (k.at_.ob i hlt).reads' (k.at_.ob i hlt).room (by rw [(HE.out i hlt).1]; exact (k.at_.oh i hlt).reads') (k.at_.oh i hlt).room (by have := (HE.out i hlt).2; omega))
      have hii : (i : Int) < (N : Int) := by omega
      have HLT := Aside0.mk hlt
      go_wp2
      go_region_held3 (fun w' => ShIn W w' base g (some ⟨qB, 0, none⟩) cB (some ⟨qH, 0, none⟩) cH N N bs hs fb fh ∧ w'.cell? ⟨g, 0, none⟩ = some (.slice (some ⟨qB, 0, none⟩) N cB) ∧ w'.cell? ⟨g, 1, none⟩ = some (.slice (some ⟨qH, 0, none⟩) N cH) ∧ w'.cell? ⟨qB, i, none⟩ = some (.slice (bs i).A (bs i).n (bs i).c) ∧ w'.cell? ⟨qH, i, none⟩ = some (.slice (hs i).A (hs i).n (hs i).c))
        (first | exact ShIn.see (ShIn.drew (by assumption)) HLT.out HLT.out | exact ShIn.see (ShIn.drew (And.left (by assumption))) HLT.out HLT.out | exact ShIn.see (ShIn.below (And.left (by assumption)) (by assumption)) HLT.out HLT.out | exact ShIn.see (ShIn.below (by assumption) (by assumption)) HLT.out HLT.out)
        (first | (go_at_call 28; refine (HSM.out _ ?hkk).mono ?_; (case hkk => (first | exact And.left (by assumption) | assumption)); rintro e w' ⟨rfl, hdd⟩; have hb := Drawn0.below hdd))
      obtain ⟨hF3, -, -, -, -⟩ := ‹ShIn W _ base g (some ⟨qB, 0, none⟩) cB (some ⟨qH, 0, none⟩) cH N N bs hs fb fh ∧ _ ∧ _ ∧ _ ∧ _›
      have HF3 := Aside0.mk hF3
      clear hF3
      go_wp2
      go_roundw
      case rel => exact ⟨i + 1, by go_num, by have := HLT.out; omega, HF3⟩
      case measure => have := HLT.out; simp [intOf]; omega
    · have hne : ¬ ((i : Int) < (N : Int)) := by omega
      have x0 := HK.out.at_.c0
      have x2 := HK.out.at_.c2
      clear hlt
      go_wp2
      have HK2 := HK
      clear HK x0 x2
      go_loopw [4] (fun vi wr => vi = .int .i64 0 ∧ Aside0 (ShIn W wr base g AB cB AH cH N N bs hs fb fh)) (fun vi _ => 0)
      case atStart => exact ⟨rfl, HK2⟩
      case round =>
        clear HK2 hne
        obtain ⟨rfl, HK⟩ := hrel
        have x2 := HK.out.at_.c2
        go_wp2
        go_ret
        exact ⟨rfl, HK.out.bel⟩
end Go.Proofs.Ytceeoifbimlkdaa.B
