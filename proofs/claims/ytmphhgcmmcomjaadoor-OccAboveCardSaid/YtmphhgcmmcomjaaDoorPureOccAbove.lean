/- The law OccAbove, plainly: only the servers of a priority not below one's own count. -/
import Derived.Test.YtmphhgcmmcomjaaDoorOx2
import Derived.Test.YtmphhgcmmcomjaaDoorHRule
namespace Go.Proofs.YtmphhgcmmcomjaaDoor.Pure
open Go.Proofs.YtmphhgcmmcomjaaDoor.B
open Go.RowKit Go.Proofs.YtmphhgcmmcomjaaDoorW.PrintWords Go.Proofs.YtmphhgcmmcomjaaDoorW.PrintLast Go.Proofs.YtmphhgcmmcomjaaDoorW.PrintMore

theorem above_same {S S' : OccMath.Sv} {own : Nat} (hn : S'.n = S.n) (hpr : ∀ i, i < S.n → S'.pr i = S.pr i) (inj : ∀ a b, a < S.n → b < S.n → S.pr a = S.pr b → a = b) (inj' : ∀ a b, a < S'.n → b < S'.n → S'.pr a = S'.pr b → a = b)
    (same : ∀ i, i < S.n → own ≤ S.pr i → S'.p i = S.p i ∧ S'.b i = S.b i ∧ S'.o i = S.o i) : ∀ t i, i < S.n → own ≤ S.pr i → S'.R t i = S.R t i ∧ (S'.occ t = i + 1 ↔ S.occ t = i + 1) := by
  have hocc : ∀ t, (∀ i, i < S.n → own ≤ S.pr i → S'.R t i = S.R t i) → ∀ i, i < S.n → own ≤ S.pr i → (S'.occ t = i + 1 ↔ S.occ t = i + 1) := by
    intro t h i hi ho
    unfold OccMath.Sv.occ
    rw [OccMath.chosen_iff S.pr (S.R t) S.n i hi inj, OccMath.chosen_iff S'.pr (S'.R t) S'.n i (by omega) inj', h i hi ho]
    constructor
    · rintro ⟨h1, h2⟩
      refine ⟨h1, fun j hj hr => ?_⟩
      by_cases c : own ≤ S.pr j
      · have := h2 j (by omega) (by rw [h j hj c]; exact hr)
        rw [hpr j hj, hpr i hi] at this; exact this
      · omega
    · rintro ⟨h1, h2⟩
      refine ⟨h1, fun j hj hr => ?_⟩
      have hj' : j < S.n := by omega
      rw [hpr j hj', hpr i hi]
      by_cases c : own ≤ S.pr j
      · exact h2 j hj' (by rw [← h j hj' c]; exact hr)
      · omega
  have hrel : ∀ t i, i < S.n → own ≤ S.pr i → (S'.rel i t ↔ S.rel i t) := by
    intro t i hi ho
    obtain ⟨e1, e2, e3⟩ := same i hi ho
    unfold OccMath.Sv.rel
    rw [e1, e3]
  intro t
  induction t with
  | zero =>
    have hR : ∀ i, i < S.n → own ≤ S.pr i → S'.R 0 i = S.R 0 i := by
      intro i hi ho
      show (if S'.rel i 0 then S'.b i else 0) = (if S.rel i 0 then S.b i else 0)
      rw [(same i hi ho).2.1]
      by_cases c : S.rel i 0
      · rw [if_pos c, if_pos ((hrel 0 i hi ho).2 c)]
      · rw [if_neg c, if_neg (fun h => c ((hrel 0 i hi ho).1 h))]
    exact fun i hi ho => ⟨hR i hi ho, hocc 0 hR i hi ho⟩
  | succ t ih =>
    have hR : ∀ i, i < S.n → own ≤ S.pr i → S'.R (t + 1) i = S.R (t + 1) i := by
      intro i hi ho
      obtain ⟨e1, e2⟩ := ih i hi ho
      show (if S'.rel i (t + 1) then S'.b i else S'.R t i - (if S'.occ t = i + 1 then 1 else 0)) = (if S.rel i (t + 1) then S.b i else S.R t i - (if S.occ t = i + 1 then 1 else 0))
      rw [(same i hi ho).2.1, e1]
      by_cases c : S.rel i (t + 1)
      · rw [if_pos c, if_pos ((hrel (t + 1) i hi ho).2 c)]
      · rw [if_neg c, if_neg (fun h => c ((hrel (t + 1) i hi ho).1 h))]
        by_cases d : S.occ t = i + 1
        · rw [if_pos d, if_pos (e2.2 d)]
        · rw [if_neg d, if_neg (fun h => d (e2.1 h))]
    exact fun i hi ho => ⟨hR i hi ho, hocc (t + 1) hR i hi ho⟩

/-- One server of the mixture. -/
def mix1 (l o : List S30) (own : Int) (i : Nat) : S30 :=
  if (l.getD i z30).f3 < own ∧ i < o.length then ⟨(o.getD i z30).f0, (o.getD i z30).f1, (o.getD i z30).f2, (l.getD i z30).f3⟩ else l.getD i z30
def mixL (l o : List S30) (own : Int) (k : Nat) : List S30 := (List.range k).map (mix1 l o own)
theorem mixL_succ (l o : List S30) (own : Int) (k : Nat) : mixL l o own (k + 1) = mixL l o own k ++ [mix1 l o own k] := by simp [mixL, List.range_succ]
theorem mixL_length (l o : List S30) (own : Int) (k : Nat) : (mixL l o own k).length = k := by simp [mixL]
theorem mixL_at (l o : List S30) (own : Int) (k i : Nat) (h : i < k) : (mixL l o own k).getD i z30 = mix1 l o own i := by simp [mixL, h]

theorem above_j2 (l o : List S30) (q T : Nat) (hq : q < l.length) (hT : (T : Int) < 1099511627776) (k : Nat) (he : (hypS lcmF l).2 = 0) :
    bulkheadlaw11_OccAbove.j2 (k + 1) l ((q : Int) + 1) (T : Int) (mixL l o ((sv l).pr q : Nat) l.length) ((hypS lcmF (mixL l o ((sv l).pr q : Nat) l.length)).2 != 0) = some true := by
  simp only [bulkheadlaw11_OccAbove.j2]
  by_cases hm : (hypS lcmF (mixL l o ((sv l).pr q : Nat) l.length)).2 = 0
  · rw [if_neg (by simp [hm]), at_ok he T hT, at_ok hm T hT, rests_ok he T hT, rests_ok hm T hT]
    obtain ⟨hbd, hok, _, _, _, hOk⟩ := ok_of_hyp l he
    obtain ⟨hbd', hok', _, _, _, hOk'⟩ := ok_of_hyp _ hm
    have h32 : l.length ≤ 32 := hbd.1
    have hlen := mixL_length l o ((sv l).pr q : Nat) l.length
    have key := above_same (S := sv l) (S' := sv (mixL l o ((sv l).pr q : Nat) l.length)) (own := (sv l).pr q) hlen
      (fun i hi => by
        have a := (srv_at hok i hi).2.2.2.1
        have hi' : i < (mixL l o ((sv l).pr q : Nat) l.length).length := by rw [hlen]; exact hi
        have b := (srv_at hok' i hi').2.2.2.1
        rw [mixL_at l o _ l.length i hi] at b
        have c : (mix1 l o ((sv l).pr q : Nat) i).f3 = (l.getD i z30).f3 := by unfold mix1; split <;> rfl
        omega)
      hOk.inj hOk'.inj
      (fun i hi ho => by
        have hi' : i < (mixL l o ((sv l).pr q : Nat) l.length).length := by rw [hlen]; exact hi
        obtain ⟨a0, a1, a2, a3, _⟩ := srv_at hok i hi
        obtain ⟨b0, b1, b2, _⟩ := srv_at hok' i hi'
        rw [mixL_at l o _ l.length i hi] at b0 b1 b2
        have c : mix1 l o ((sv l).pr q : Nat) i = l.getD i z30 := by unfold mix1; rw [if_neg (fun h => by omega)]
        rw [c] at b0 b1 b2
        omega) T q hq (Nat.le_refl _)
    simp only [Option.bind_some, if_true, restsL_length, hlen]
    have e1 : ((((sv l).occ T : Nat) : Int) == (q : Int) + 1) = ((((sv (mixL l o ((sv l).pr q : Nat) l.length)).occ T : Nat) : Int) == (q : Int) + 1) := by
      rw [Bool.eq_iff_iff, beq_iff_eq, beq_iff_eq]
      have := key.2
      constructor
      · intro h; have := this.2 (by omega); omega
      · intro h; have := this.1 (by omega); omega
    rw [e1, if_pos (by simp), wr (x := (q : Int) + 1 - 1) (by omega) (by omega), show (q : Int) + 1 - 1 = (q : Int) by omega, if_pos (by omega), if_pos (by omega), if_pos (by omega), rd_rests l T l.length q hq, rd_rests _ T l.length q hq, key.1, if_pos rfl]
    simp [works_true]
  · rw [if_pos (by simp [hm])]
    simp [works_true]

theorem above_loop (l o : List S30) (hl : l.length * 32 ≤ 140737488351232) (q T : Nat) (hq : q < l.length) (hT : (T : Int) < 1099511627776) (own : Int) (hown : own = (l.getD q z30).f3) :
    ∀ (d i k : Nat), i + d = l.length → d + 2 ≤ k → bulkheadlaw11_OccAbove.l0 k l o ((q : Int) + 1) (T : Int) own (mixL l o own i) (i : Int) = some true := by
  intro d
  induction d with
  | zero =>
    intro i k hi hk
    obtain ⟨k, rfl⟩ : ∃ m, k = m + 1 + 1 := ⟨k - 2, by omega⟩
    obtain rfl : i = l.length := by omega
    simp only [bulkheadlaw11_OccAbove.l0]
    rw [if_neg (by omega)]
    unfold check_Hyper.f
    simp only [Option.bind_some]
    by_cases he : (hypS lcmF l).2 = 0
    · rw [if_pos he]
      obtain ⟨_, hok, _⟩ := ok_of_hyp l he
      have e := (srv_at hok q hq).2.2.2.1
      rw [hown, e]
      exact above_j2 l o q T hq hT k he
    · rw [if_neg he]
      simp only [bulkheadlaw11_OccAbove.j2]
      rw [if_pos trivial]; simp [works_true]
  | succ d ih =>
    intro i k hi hk
    obtain ⟨k, rfl⟩ : ∃ m, k = m + 1 := ⟨k - 1, by omega⟩
    have ihh := ih (i + 1) k (by omega) (by omega)
    rw [mixL_succ] at ihh
    simp only [bulkheadlaw11_OccAbove.l0]
    rw [if_pos (by omega), if_pos (by omega), wr (x := (i : Int) + 1) (by omega) (by omega), show (i : Int) + 1 = ((i + 1 : Nat) : Int) from rfl, mixL_length, rd_nat, rd_nat]
    unfold mix1 at ihh
    by_cases c1 : (l.getD i z30).f3 < own
    · rw [if_pos c1]
      by_cases c2 : i < o.length
      · rw [if_pos (by omega), if_pos (by omega)]
        rw [if_pos ⟨c1, c2⟩] at ihh
        exact ihh
      · rw [if_neg (by omega), if_pos (by omega)]
        rw [if_neg (fun h => c2 h.2)] at ihh
        exact ihh
    · rw [if_neg c1, if_pos (by omega)]
      rw [if_neg (fun h => c1 h.1)] at ihh
      exact ihh

theorem OccAbove (l o : List S30) (a2 a3 : Int) (hl : l.length * 32 ≤ 140737488351232) (_hw : ∀ s ∈ l, WfS s) (_hl1 : o.length * 32 ≤ 140737488351232) (_hw1 : ∀ s ∈ o, WfS s) (_h2 : (Lit.int .i64 a2).wf = true) (_h3 : (Lit.int .i64 a3).wf = true) : ∃ k, bulkheadlaw11_OccAbove.f k l o a2 a3 = some true := by
  refine ⟨l.length + 2 + 1, ?_⟩
  unfold bulkheadlaw11_OccAbove.f
  have e0 : bulkheadlaw11_OccAbove.j0 (l.length + 2 + 1) l o a2 a3 true = some true := by
    simp only [bulkheadlaw11_OccAbove.j0, if_true, works_true, Option.bind_some]
  by_cases c1 : a2 < 1
  · rw [if_pos c1]; exact e0
  · rw [if_neg c1]
    by_cases c2 : a2 > (l.length : Int)
    · rw [if_pos c2]; exact e0
    · rw [if_neg c2]
      by_cases c3 : a3 < 0
      · rw [if_pos c3]; exact e0
      · rw [if_neg c3]
        by_cases c4 : a3 ≥ 1099511627776
        · rw [decide_eq_true c4]; exact e0
        · rw [decide_eq_false c4]
          obtain ⟨T, rfl⟩ : ∃ T : Nat, a3 = (T : Int) := ⟨a3.toNat, by omega⟩
          obtain ⟨q, rfl⟩ : ∃ q : Nat, a2 = (q : Int) + 1 := ⟨(a2 - 1).toNat, by omega⟩
          simp only [bulkheadlaw11_OccAbove.j0]
          rw [if_neg (by simp), wr (x := (q : Int) + 1 - 1) (by omega) (by omega), show (q : Int) + 1 - 1 = (q : Int) by omega, if_pos (by omega), if_pos (by omega), rd_nat]
          exact above_loop l o hl q T (by omega) (by omega) _ rfl l.length 0 (l.length + 2) (by omega) (by omega)
end Go.Proofs.YtmphhgcmmcomjaaDoor.Pure
