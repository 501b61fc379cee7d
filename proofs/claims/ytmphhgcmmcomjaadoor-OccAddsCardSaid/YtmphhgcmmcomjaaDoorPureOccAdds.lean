/- The law OccAdds, plainly: runs are the occupants tick by tick; supplies add up; NextOf is the first. -/
import Derived.Test.YtmphhgcmmcomjaaDoorUx2
import Derived.Test.YtmphhgcmmcomjaaDoorHRule
import Derived.Test.YtmphhgcmmcomjaaDoorHRle
namespace Go.Proofs.YtmphhgcmmcomjaaDoor.Pure
open Go.Proofs.YtmphhgcmmcomjaaDoor.B
open Go.RowKit Go.Proofs.YtmphhgcmmcomjaaDoorW.PrintWords Go.Proofs.YtmphhgcmmcomjaaDoorW.PrintLast Go.Proofs.YtmphhgcmmcomjaaDoorW.PrintMore

theorem count_zero (S : OccMath.Sv) (q a : Nat) : ∀ d, S.count q a d = 0 → ∀ u, a ≤ u → u < a + d → S.occ u ≠ q
  | 0, _, u, h1, h2 => by omega
  | d + 1, h, u, h1, h2 => by
    have e : S.count q a d + (if S.occ (a + d) = q then 1 else 0) = 0 := h
    by_cases c : u = a + d
    · subst c
      intro hq
      rw [if_pos hq] at e; omega
    · exact count_zero S q a d (by omega) u h1 (by omega)
theorem count_pos (S : OccMath.Sv) (q a d u : Nat) (h1 : a ≤ u) (h2 : u < a + d) (h : S.occ u = q) : 0 < S.count q a d := by
  rcases Nat.eq_zero_or_pos (S.count q a d) with e | e
  · exact absurd h (count_zero S q a d e u h1 h2)
  · exact e
theorem lies_pre (g : Nat → Nat) (s : List (Nat × Nat)) : ∀ (p : List (Nat × Nat)) (a : Nat), Lies g a (p ++ s) → Lies g a p
  | [], _, _ => trivial
  | x :: p, a, ⟨h1, h2, h3, h4⟩ => ⟨h1, h2, fun q hq => h3 q (by
      cases p with
      | nil => cases hq
      | cons y p => exact hq), lies_pre g s p _ h4⟩
theorem lies_mid (g : Nat → Nat) (a : Nat) (pre suf : List (Nat × Nat)) (x : Nat × Nat) (h : Lies g a (pre ++ x :: suf)) : 1 ≤ x.1 ∧ (∀ t, a + tot pre ≤ t → t < a + tot pre + x.1 → g t = x.2) ∧ (∀ q, pre.getLast? = some q → q.2 ≠ x.2) := by
  rw [show pre ++ x :: suf = (pre ++ [x]) ++ suf by simp] at h
  exact ((lies_snoc g x pre a).1 (lies_pre g suf _ a h)).2
theorem rd_set (xs : List Int) (i j : Nat) (v : Int) (hi : i < xs.length) : rd (xs.set i v) (j : Int) = if i = j then v else rd xs (j : Int) := by
  unfold rd
  rw [Int.toNat_natCast, List.getD_eq_getElem?_getD, List.getD_eq_getElem?_getD, List.getElem?_set]
  by_cases c : i = j
  · subst c; simp [hi]
  · simp [c]
theorem rd_zero (n j : Nat) : rd (List.replicate n 0) (j : Int) = 0 := by
  unfold rd
  rw [Int.toNat_natCast, List.getD_eq_getElem?_getD]
  by_cases c : j < n
  · simp [c]
  · simp [c]
theorem rd_slot (pre suf : List (Nat × Nat)) (x : Nat × Nat) : rd_T55 ((pre ++ x :: suf).map toS) ((pre.length : Nat) : Int) = toS x := by
  unfold rd_T55
  rw [Int.toNat_natCast, List.getD_eq_getElem?_getD]
  simp

def tickO : Option Nat → Int
  | some t => soonI (t : Int)
  | none => -1
/-- NextOf's tick is the first from one on, however far. -/
theorem next_spec (l : List S30) (H q fr : Nat) (hO : (sv l).Ok H) (hp : ∀ i, i < (sv l).n → 1 ≤ (sv l).p i) (hH : 1 ≤ H) :
    ∃ v : Option Nat, nextV l H q (foldN fr H) (fr : Int) = tickO v ∧ (∀ t, v = some t → fr ≤ t ∧ (sv l).occ t = q ∧ ∀ u, fr ≤ u → u < t → (sv l).occ u ≠ q) ∧ (v = none → ∀ u, fr ≤ u → (sv l).occ u ≠ q) := by
  have hcov := (sv l).play_zero hp (2 * H) (2 * H) (Nat.le_refl _)
  have hlt := foldN_lt fr H hH
  -- the shift
  obtain ⟨m, hm, hs⟩ : ∃ m, fr = foldN fr H + m ∧ ∀ u, foldN fr H ≤ u → (sv l).occ (u + m) = (sv l).occ u := by
    unfold foldN
    by_cases c : fr < 2 * H
    · rw [if_pos c]; exact ⟨0, rfl, fun u _ => rfl⟩
    · rw [if_neg c]
      have h := Nat.div_add_mod (fr - H) H
      rw [Nat.mul_comm] at h
      exact ⟨(fr - H) / H * H, by omega, fun u hu => occ_turns hO _ u (by omega)⟩
  have h1 := (sv l).cover_next q (foldN fr H) (2 * H) (segs l H) 0 hcov
  have h2 := (sv l).cover_next q H (2 * H) (segs l H) 0 hcov
  unfold nextV
  generalize foldN fr H = F at *
  cases e1 : OccMath.nextIn q F (segs l H) with
  | some t =>
    obtain ⟨_, a2, a3, a4, a5⟩ := h1.1 t e1
    refine ⟨some (t + m), ?_, ?_, fun h => by cases h⟩
    · show soonI _ = soonI _; rw [show (t : Int) + (fr : Int) - (F : Int) = ((t + m : Nat) : Int) by omega]
    · rintro t' e; cases e
      refine ⟨by omega, by rw [hs t a2]; exact a4, fun u u1 u2 => ?_⟩
      have := a5 (u - m) (Nat.zero_le _) (by omega) (by omega)
      rwa [← hs (u - m) (by omega), show u - m + m = u by omega] at this
  | none =>
    have b1 : ∀ u, F ≤ u → u < 2 * H → (sv l).occ u ≠ q := fun u u1 u2 => h1.2 e1 u (Nat.zero_le _) u1 u2
    cases e2 : OccMath.nextIn q H (segs l H) with
    | some t =>
      obtain ⟨_, a2, a3, a4, a5⟩ := h2.1 t e2
      have hper : ∀ u, H ≤ u → (sv l).occ (u + H) = (sv l).occ u := fun u hu => OccMath.Sv.periodic hO u hu
      refine ⟨some (t + H + m), ?_, ?_, fun h => by cases h⟩
      · show soonI _ = soonI _; rw [show (t : Int) + (H : Int) + (fr : Int) - (F : Int) = ((t + H + m : Nat) : Int) by omega]
      · rintro t' e; cases e
        refine ⟨by omega, by rw [hs _ (by omega), hper t a2]; exact a4, fun u u1 u2 => ?_⟩
        rw [show u = u - m + m by omega, hs _ (by omega)]
        by_cases c : u - m < 2 * H
        · exact b1 _ (by omega) c
        · rw [show u - m = u - m - H + H by omega, hper _ (by omega)]
          exact a5 _ (Nat.zero_le _) (by omega) (by omega)
    | none =>
      have b2 : ∀ u, H ≤ u → u < 2 * H → (sv l).occ u ≠ q := fun u u1 u2 => h2.2 e2 u (Nat.zero_le _) u1 u2
      refine ⟨none, rfl, fun t e => (by cases e), fun _ u u1 => ?_⟩
      rw [show u = u - m + m by omega, hs _ (by omega)]
      generalize hv : u - m = v
      have hFv : F ≤ v := by omega
      by_cases c : v < 2 * H
      · exact b1 _ hFv c
      · have h := Nat.div_add_mod (v - H) H
        rw [Nat.mul_comm] at h
        have hmod := Nat.mod_lt (v - H) (show 0 < H by omega)
        rw [show v = H + (v - H) % H + (v - H) / H * H by omega, occ_turns hO _ _ (by omega)]
        exact b2 _ (by omega) (by omega)

/-- What the law's two lists hold behind d of the ticks. -/
structure Ads (l : List S30) (F d : Nat) (x11 x12 : List Int) : Prop where
  l1 : x11.length = l.length + 1
  l2 : x12.length = l.length + 1
  cnt : ∀ p : Nat, p ≤ l.length → rd x11 (p : Int) = (((sv l).count p F d : Nat) : Int)
  fst : ∀ p : Nat, p ≤ l.length → 0 < (sv l).count p F d → ∃ t : Nat, rd x12 (p : Int) = (t : Int) ∧ F ≤ t ∧ t < F + d ∧ (sv l).occ t = p ∧ ∀ u, F ≤ u → u < t → (sv l).occ u ≠ p

theorem ads_step {l : List S30} {F d : Nat} {x11 x12 : List Int} (h : Ads l F d x11 x12) (x : Nat × Nat) (h1 : 1 ≤ x.1) (h2 : x.2 ≤ l.length) (hg : ∀ t, F + d ≤ t → t < F + d + x.1 → (sv l).occ t = x.2) :
    Ads l F (d + x.1) (x11.set x.2 (((sv l).count x.2 F d + x.1 : Nat) : Int)) (if (sv l).count x.2 F d = 0 then x12.set x.2 ((F + d : Nat) : Int) else x12) := by
  have hc : ∀ p, (sv l).count p F (d + x.1) = (sv l).count p F d + (if x.2 = p then x.1 else 0) := fun p => by
    rw [(sv l).count_add, (sv l).count_same p (F + d) x.2 x.1 hg]
  refine ⟨by rw [List.length_set]; exact h.l1, by split <;> simp [h.l2], fun p hp => ?_, fun p hp hpos => ?_⟩
  · rw [rd_set _ _ _ _ (by rw [h.l1]; omega), hc]
    by_cases c : x.2 = p
    · rw [if_pos c, if_pos c, c]
    · rw [if_neg c, if_neg c, h.cnt p hp, Nat.add_zero]
  · by_cases c : x.2 = p
    · subst c
      by_cases z : (sv l).count x.2 F d = 0
      · rw [if_pos z]
        refine ⟨F + d, by rw [rd_set _ _ _ _ (by rw [h.l2]; omega), if_pos rfl], by omega, by omega, hg _ (by omega) (by omega), fun u u1 u2 => count_zero _ _ _ _ z u u1 u2⟩
      · rw [if_neg z]
        obtain ⟨t, a1, a2, a3, a4⟩ := h.fst x.2 hp (by omega)
        exact ⟨t, a1, a2, by omega, a4⟩
    · rw [hc, if_neg c, Nat.add_zero] at hpos
      obtain ⟨t, a1, a2, a3, a4⟩ := h.fst p hp hpos
      refine ⟨t, ?_, a2, by omega, a4⟩
      split
      · rw [rd_set _ _ _ _ (by rw [h.l2]; omega), if_neg c]; exact a1
      · exact a1

theorem parts_loop (l : List S30) (he : (hypS lcmF l).2 = 0) (F L : Nat) (hT : (F : Int) + (L : Int) ≤ 1099511627776) (x11 x12 : List Int) (h : Ads l F L x11 x12) :
    ∀ (d i k : Nat), i + d = l.length → d + 1 ≤ k → bulkheadlaw11_OccAdds.l1 k l (F : Int) (L : Int) x11 x12 ((i + 1 : Nat) : Int) = some true := by
  obtain ⟨hbd, hok, hH1, hH2, hHe, hO⟩ := ok_of_hyp l he
  have h32 : l.length ≤ 32 := hbd.1
  intro d
  induction d with
  | zero =>
    intro i k hi hk
    obtain ⟨k, rfl⟩ : ∃ m, k = m + 1 := ⟨k - 1, by omega⟩
    simp only [bulkheadlaw11_OccAdds.l1]
    rw [if_neg (by omega), works_true]; rfl
  | succ d ih =>
    intro i k hi hk
    obtain ⟨k, rfl⟩ : ∃ m, k = m + 1 := ⟨k - 1, by omega⟩
    have ihh := ih (i + 1) k (by omega) (by omega)
    have hp1 : ∀ j, j < (sv l).n → 1 ≤ (sv l).p j := fun j hj => (hbd.2 j hj).1
    obtain ⟨v, v1, v2, v3⟩ := next_spec l (hyp l) (i + 1) F hO hp1 hH1
    have eS : occ_Supply.f l ((i + 1 : Nat) : Int) (F : Int) ((F : Int) + (L : Int)) = some ((((sv l).count (i + 1) F L : Nat) : Int), 0) := by
      unfold occ_Supply.f spanB
      rw [if_pos he, if_neg (by omega), if_neg (by simp; omega), Int.toNat_natCast, Int.toNat_natCast, show ((F : Int) + (L : Int)).toNat = F + L by omega]
      have := (sv l).count_add (i + 1) 0 F L
      rw [Nat.zero_add] at this
      rw [this]
      simp only [Option.some.injEq, Prod.mk.injEq, and_true]
      omega
    have eN : occ_NextOf.f l ((i + 1 : Nat) : Int) (F : Int) = some (tickO v, 0) := by
      unfold occ_NextOf.f
      rw [if_pos he, if_neg (by omega), if_neg (by omega), Int.toNat_natCast, Int.toNat_natCast, v1]
    simp only [bulkheadlaw11_OccAdds.l1]
    have hcnt := h.cnt (i + 1) (by omega)
    have hfst := h.fst (i + 1) (by omega)
    have hl1 := h.l1
    have hl2 := h.l2
    rw [if_pos (by omega), wr (x := (F : Int) + (L : Int)) (by omega) (by omega), eS, eN, wr (x := ((i + 1 : Nat) : Int) + 1) (by omega) (by omega), show ((i + 1 : Nat) : Int) + 1 = ((i + 1 + 1 : Nat) : Int) by omega]
    simp only [Option.bind_some, if_true]
    rw [if_pos (by omega), if_pos (by omega), hcnt, if_pos rfl]
    have lim : ∀ u, v = some u → (F : Int) + (L : Int) ≤ (u : Int) ∨ (u : Int) < 1099511627776 := fun u _ => by omega
    generalize hC : (sv l).count (i + 1) F L = C at *
    by_cases c : 0 < C
    · obtain ⟨t, a1, a2, a3, a4, a5⟩ := hfst c
      rw [if_pos (by omega), if_pos (by omega), a1]
      cases v with
      | none => exact absurd a4 (v3 rfl t a2)
      | some u =>
        obtain ⟨b1, b2, b3⟩ := v2 u rfl
        have hu : u = t := by
          rcases Nat.lt_trichotomy u t with h | h | h
          · exact absurd b2 (a5 u b1 h)
          · exact h
          · exact absurd a4 (b3 t a2 h)
        subst hu
        rw [if_pos (show tickO (some u) = (u : Int) by show soonI (u : Int) = (u : Int); unfold soonI; rw [if_neg (by omega)]), if_neg (by omega)]
        exact ihh
    · rw [if_neg (by omega), if_pos (by omega)]
      cases v with
      | none => rw [if_pos (show tickO none = -1 from rfl)]; exact ihh
      | some u =>
        obtain ⟨b1, b2, b3⟩ := v2 u rfl
        have hu : F + L ≤ u := by
          rcases Nat.lt_or_ge u (F + L) with h | h
          · have := count_pos (sv l) (i + 1) F L u b1 h b2
            rw [hC] at this; exact absurd this c
          · exact h
        show (if soonI (u : Int) = -1 then _ else if soonI (u : Int) < (F : Int) + (L : Int) then some false else _) = some true
        unfold soonI
        by_cases c2 : (1099511627776 : Int) ≤ (u : Int)
        · rw [if_pos c2, if_pos rfl]; exact ihh
        · rw [if_neg c2, if_neg (by omega), if_neg (by omega)]; exact ihh

theorem runs_loop (l : List S30) (he : (hypS lcmF l).2 = 0) (F L : Nat) (hT : (F : Int) + (L : Int) ≤ 1099511627776) (R : List (Nat × Nat)) (hR : Lies (sv l).occ F R) (hL : tot R = L) (hlen : R.length ≤ 4096) :
    ∀ (suf pre : List (Nat × Nat)) (x11 x12 : List Int) (k : Nat), pre ++ suf = R → Ads l F (tot pre) x11 x12 → 3 * suf.length + l.length + 3 ≤ k →
      bulkheadlaw11_OccAdds.l0 k l (F : Int) (L : Int) (R.map toS) x11 x12 ((F + tot pre : Nat) : Int) ((pre.length : Nat) : Int) = some true := by
  obtain ⟨hbd, hok, hH1, hH2, hHe, hO⟩ := ok_of_hyp l he
  have h32 : l.length ≤ 32 := hbd.1
  intro suf
  induction suf with
  | nil =>
    intro pre x11 x12 k hpre hA hk
    obtain ⟨k, rfl⟩ : ∃ m, k = m + 1 := ⟨k - 1, by omega⟩
    rw [List.append_nil] at hpre
    subst hpre
    simp only [bulkheadlaw11_OccAdds.l0]
    rw [if_neg (by rw [List.length_map]; omega), wr (x := (F : Int) + (L : Int)) (by omega) (by omega), if_pos (by omega)]
    rw [hL] at hA
    exact parts_loop l he F L hT x11 x12 hA l.length 0 k (by omega) (by simp at hk; omega)
  | cons x suf ih =>
    intro pre x11 x12 k hpre hA hk
    obtain ⟨k, rfl⟩ : ∃ m, k = m + 1 + 1 + 1 := ⟨k - 3, by omega⟩
    obtain ⟨m1, m2, m3⟩ := lies_mid (sv l).occ F pre suf x (by rw [hpre]; exact hR)
    have htl : tot pre + x.1 ≤ L := by rw [← hL, ← hpre, tot_append]; show _ ≤ tot pre + (x.1 + tot suf); omega
    have hx2 : x.2 ≤ l.length := by
      have e := m2 (F + tot pre) (by omega) (by omega)
      have : (sv l).occ (F + tot pre) ≤ (sv l).n := OccMath.chosen_le _ _ _
      rw [e] at this; exact this
    have hpl : pre.length + 1 + suf.length = R.length := by rw [← hpre, List.length_append, List.length_cons]; omega
    have hk2 : 3 * suf.length + l.length + 3 ≤ k := by rw [List.length_cons] at hk; omega
    have e3 : bulkheadlaw11_OccAdds.j3 (k + 1) l (F : Int) (L : Int) (R.map toS) x11 x12 ((F + tot pre : Nat) : Int) ((pre.length : Nat) : Int) false ((x.1 : Nat) : Int) ((x.2 : Nat) : Int) = some true := by
      have ihh := ih (pre ++ [x]) (x11.set x.2 (((sv l).count x.2 F (tot pre) + x.1 : Nat) : Int)) (if (sv l).count x.2 F (tot pre) = 0 then x12.set x.2 ((F + tot pre : Nat) : Int) else x12) k (by rw [List.append_assoc]; exact hpre)
        (by rw [tot_append]; show Ads l F (tot pre + (x.1 + 0)) _ _; rw [Nat.add_zero]; exact ads_step hA x m1 hx2 m2) hk2
      rw [List.length_append, List.length_singleton, tot_append, show tot [x] = x.1 from rfl] at ihh
      have hcl := count_le (sv l) x.2 F (tot pre)
      have hl1 := hA.l1
      have hl2 := hA.l2
      simp only [bulkheadlaw11_OccAdds.j3]
      rw [if_neg (by simp), if_pos (by omega), if_pos (by omega), hA.cnt x.2 hx2, Int.toNat_natCast, wr (x := (((sv l).count x.2 F (tot pre) : Nat) : Int) + ((x.1 : Nat) : Int)) (by omega) (by omega),
        wr (x := ((F + tot pre : Nat) : Int) + ((x.1 : Nat) : Int)) (by omega) (by omega), wr (x := ((pre.length : Nat) : Int) + 1) (by omega) (by omega),
        show (((sv l).count x.2 F (tot pre) : Nat) : Int) + ((x.1 : Nat) : Int) = (((sv l).count x.2 F (tot pre) + x.1 : Nat) : Int) by omega, show ((F + tot pre : Nat) : Int) + ((x.1 : Nat) : Int) = ((F + (tot pre + x.1) : Nat) : Int) by omega, show ((pre.length : Nat) : Int) + 1 = ((pre.length + 1 : Nat) : Int) by omega]
      by_cases z : (sv l).count x.2 F (tot pre) = 0
      · rw [if_pos z] at ihh
        rw [if_pos (by omega), if_pos (by omega)]; exact ihh
      · rw [if_neg z] at ihh
        rw [if_neg (by omega)]; exact ihh
    have e2 : bulkheadlaw11_OccAdds.j2 (k + 1 + 1) l (F : Int) (L : Int) (R.map toS) x11 x12 ((F + tot pre : Nat) : Int) ((pre.length : Nat) : Int) false ((x.1 : Nat) : Int) ((x.2 : Nat) : Int) = some true := by
      simp only [bulkheadlaw11_OccAdds.j2]
      rw [if_neg (by simp), wr (x := ((F + tot pre : Nat) : Int) + ((x.1 : Nat) : Int)) (by omega) (by omega), wr (x := ((F + tot pre : Nat) : Int) + ((x.1 : Nat) : Int) - 1) (by omega) (by omega),
        show ((F + tot pre : Nat) : Int) + ((x.1 : Nat) : Int) - 1 = ((F + tot pre + x.1 - 1 : Nat) : Int) by omega, at_ok he (F + tot pre) (by omega), at_ok he (F + tot pre + x.1 - 1) (by omega),
        m2 (F + tot pre) (by omega) (by omega), m2 (F + tot pre + x.1 - 1) (by omega) (by omega)]
      simp only [Option.bind_some, if_true, bne_self_eq_false]
      exact e3
    have hrd : rd_T55 (R.map toS) ((pre.length : Nat) : Int) = toS x := by rw [← hpre]; exact rd_slot pre suf x
    simp only [bulkheadlaw11_OccAdds.l0]
    rw [if_pos (by rw [List.length_map]; omega), if_pos (by omega), hrd]
    show (if ((x.1 : Nat) : Int) < 1 then _ else _) = some true
    rw [if_neg (by omega)]
    show (if ((x.2 : Nat) : Int) < 0 then _ else _) = some true
    rw [if_neg (by omega)]
    show (if ((x.2 : Nat) : Int) > (l.length : Int) then _ else _) = some true
    rw [if_neg (by omega)]
    rcases List.eq_nil_or_concat pre with e | ⟨pre', y, e⟩
    · subst e
      rw [if_neg (by simp)]; exact e2
    · rw [List.concat_eq_append] at e
      have hne := m3 y (by rw [e]; simp)
      have hpl2 : pre.length = pre'.length + 1 := by rw [e]; simp
      rw [if_pos (by omega), wr (x := ((pre.length : Nat) : Int) - 1) (by omega) (by omega), show ((pre.length : Nat) : Int) - 1 = ((pre'.length : Nat) : Int) by omega, if_pos (by omega), if_pos (by rw [List.length_map]; omega)]
      have hrd2 : rd_T55 (R.map toS) ((pre'.length : Nat) : Int) = toS y := by rw [← hpre, e, show pre' ++ [y] ++ x :: suf = pre' ++ y :: (x :: suf) by simp]; exact rd_slot pre' (x :: suf) y
      rw [hrd2, show ((toS y).f1 == (toS x).f1) = false by
        show (((y.2 : Nat) : Int) == ((x.2 : Nat) : Int)) = false
        rw [beq_eq_false_iff_ne]; omega]
      exact e2

theorem OccAdds (l : List S30) (a1 a2 : Int) (_hl : l.length * 32 ≤ 140737488351232) (_hw : ∀ s ∈ l, WfS s) (_h1 : (Lit.int .i64 a1).wf = true) (_h2 : (Lit.int .i64 a2).wf = true) : ∃ k, bulkheadlaw11_OccAdds.f k l a1 a2 = some true := by
  refine ⟨20000 + 1, ?_⟩
  unfold bulkheadlaw11_OccAdds.f check_Hyper.f
  simp only [Option.bind_some]
  have e0 : bulkheadlaw11_OccAdds.j0 (20000 + 1) l a1 a2 true = some true := by
    simp only [bulkheadlaw11_OccAdds.j0, if_true, works_true, Option.bind_some]
  by_cases he : (hypS lcmF l).2 = 0
  · rw [if_pos he]
    obtain ⟨hbd, hok, hH1, hH2, hHe, hO⟩ := ok_of_hyp l he
    have h32 : l.length ≤ 32 := hbd.1
    by_cases c1 : a1 < 0
    · rw [if_pos c1]; exact e0
    · rw [if_neg c1]
      by_cases c2 : a2 < 0
      · rw [if_pos c2]; exact e0
      · rw [if_neg c2]
        by_cases c3 : a2 > 4096
        · rw [if_pos c3]; exact e0
        · rw [if_neg c3, wr (x := 1099511627776 - a2) (by omega) (by omega)]
          by_cases c4 : a1 > 1099511627776 - a2
          · rw [decide_eq_true c4]; exact e0
          · rw [decide_eq_false c4]
            obtain ⟨F, rfl⟩ : ∃ F : Nat, a1 = (F : Int) := ⟨a1.toNat, by omega⟩
            obtain ⟨L, rfl⟩ : ∃ L : Nat, a2 = (L : Int) := ⟨a2.toNat, by omega⟩
            have hh := runsV_held l (hyp l) F (F + L) hO (fun j hj => (hbd.2 j hj).1) hH1 (by omega)
            rw [Nat.add_sub_cancel_left] at hh
            have hrl := rle_length (sv l).occ F L
            have hnf : (runsV l (hyp l) F (F + L)).2 = false := by
              cases e : (runsV l (hyp l) F (F + L)).2 with
              | false => rfl
              | true => have := hh.2.1 e; omega
            obtain ⟨r1, r2⟩ := rle_lies (sv l).occ F L
            have eR : occ_Runs.f l (F : Int) ((F : Int) + (L : Int)) = some ((rle (sv l).occ F L).map toS, 0) := by
              unfold occ_Runs.f
              rw [if_pos he, if_neg (by unfold spanB; simp; omega), Int.toNat_natCast, show ((F : Int) + (L : Int)).toNat = F + L by omega, hnf, if_neg (by simp), hh.1 hnf]
            simp only [bulkheadlaw11_OccAdds.j0]
            rw [if_neg (by simp), wr (x := (F : Int) + (L : Int)) (by omega) (by omega), eR, wr (x := (l.length : Int) + 1) (by omega) (by omega), show ((l.length : Int) + 1).toNat = l.length + 1 by omega]
            simp only [Option.bind_some, if_true]
            rw [if_pos (by omega), if_pos (by omega)]
            refine runs_loop l he F L (by omega) (rle (sv l).occ F L) r1 r2 (by omega) (rle (sv l).occ F L) [] _ _ 20000 rfl ⟨by simp, by simp, fun p _ => rd_zero _ p, fun p _ h => ?_⟩ (by omega)
            exact absurd h (Nat.lt_irrefl 0)
  · rw [if_neg he]; exact e0
end Go.Proofs.YtmphhgcmmcomjaaDoor.Pure
