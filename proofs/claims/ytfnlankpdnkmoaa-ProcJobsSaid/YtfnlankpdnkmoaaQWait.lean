/- Proved: the contracts of ready, free, Wait and Wake. Conditions: the table's length is that of a list; places are not beyond a half of all numbers. -/
import Derived.Test.YtfnlankpdnkmoaaQStart
import Derived.Test.YtfnlankpdnkmoaaQClone
namespace Go.Proofs.Ytfnlankpdnkmoaa.B
open Go.RowKit Go.Proofs.YtfnlankpdnkmoaaW.PrintWords Go.Proofs.YtfnlankpdnkmoaaW.PrintLast Go.Proofs.YtfnlankpdnkmoaaW.PrintMore

set_option maxHeartbeats 4000000 in
set_option maxRecDepth 100000 in
theorem ready_is (W : World) (base g : Nat) (T : Tb) (q i : Nat) (x : PS) (p : PD) (h : At W base g T q i x p) :
    Calls Try.prog 57 #[.pointer (some ⟨g, 0, none⟩), .int .i64 ((i : Int) + 1)] W fun e w' => e = .returned (.pointer (if x.st = 1 then some ⟨q, i * 28, none⟩ else none)) ∧ W = w' := by
  have hu48 := Try.underlying48
  have HA := Aside0.mk h.at_
  have y0 := h.tab.r_st h.a h.x
  simp only [Nat.add_zero] at y0
  generalize x.st = s at *
  clear h
  by_cases h1 : s = 1
  · rw [if_pos h1]
    subst h1
    go_enter Try.func57, Try.ntmps57
    go_wp2_with (go_at_call 35; refine HA.out.mono ?_; rintro e w' ⟨rfl, rfl⟩)
    go_ret
    exact ⟨rfl, rfl⟩
  · rw [if_neg h1]
    have q1 : (s == 1) = false := by rw [beq_eq_false_iff_ne]; exact h1
    go_enter Try.func57, Try.ntmps57
    go_wp2_with (go_at_call 35; refine HA.out.mono ?_; rintro e w' ⟨rfl, rfl⟩)
    go_ret
    exact ⟨rfl, rfl⟩
set_option maxHeartbeats 4000000 in
set_option maxRecDepth 100000 in
theorem free_is (W : World) (base g : Nat) (T : Tb) (q i : Nat) (x : PS) (p : PD) (h : At W base g T q i x p) :
    Calls Try.prog 39 #[.pointer (some ⟨g, 0, none⟩), .int .i64 ((i : Int) + 1)] W fun e w' => e = .returned (.pointer (if x.st = 1 ∧ T.lock ≠ (i : Int) + 1 then some ⟨q, i * 28, none⟩ else none)) ∧ W = w' := by
  have hu86 := Try.underlying86
  have HR := Aside0.mk (ready_is W base g T q i x p h)
  have c4 := h.tab.c4
  generalize x.st = s at *
  generalize T.lock = l at *
  clear h
  by_cases h1 : s = 1
  · rw [if_pos h1] at HR
    by_cases h2 : l = (i : Int) + 1
    · rw [if_neg (fun h => h.2 h2)]
      subst h2
      go_enter Try.func39, Try.ntmps39
      go_wp2_with (go_at_call 57; refine HR.out.mono ?_; rintro e w' ⟨rfl, rfl⟩)
      go_ret
      exact ⟨rfl, rfl⟩
    · rw [if_pos ⟨h1, h2⟩]
      have q2 : (l == (i : Int) + 1) = false := by rw [beq_eq_false_iff_ne]; exact h2
      have q3 : (l != (i : Int) + 1) = true := by rw [bne_iff_ne]; exact h2
      go_enter Try.func39, Try.ntmps39
      go_wp2_with (go_at_call 57; refine HR.out.mono ?_; rintro e w' ⟨rfl, rfl⟩)
      go_ret
      exact ⟨rfl, rfl⟩
  · rw [if_neg h1] at HR
    rw [if_neg (fun h => h1 h.1)]
    go_enter Try.func39, Try.ntmps39
    go_wp2_with (go_at_call 57; refine HR.out.mono ?_; rintro e w' ⟨rfl, rfl⟩)
    go_ret
    exact ⟨rfl, rfl⟩
def waitsP (s : Int) : Prop := s = 2 ∨ (4 ≤ s ∧ s ≤ 9)
instance (s : Int) : Decidable (waitsP s) := by unfold waitsP; infer_instance
theorem waits_is (s : Int) (W : World) : Calls Try.prog 40 #[.int .i64 s] W fun e w' => e = .returned (.bool (decide (waitsP s))) ∧ Drawn0 W w' := by
  refine proc_waits.calls s _ W ?_
  unfold proc_waits.f waitsP
  by_cases h1 : s = 2
  · simp [h1]
  · by_cases h2 : 4 ≤ s
    · by_cases h3 : s ≤ 9 <;> simp [h1, h2, h3]
    · simp [h1, h2]
def tickP (t : Int) : Prop := t = -1 ∨ (0 ≤ t ∧ t < 1099511627776)
/-- A process that waits. -/
def PS.waits (x : PS) (st un ob ad : Int) (s : Sl) (ys : List Int) : PS := { x.enter st with un := un, ob := ob, ad := ad, dat := s, data := ys }
def Tb.waitT (T : Tb) (i : Nat) (x : PS) (st un ob ad : Int) (s : Sl) (ys : List Int) : Tb := { T.put i { x.waits st un ob ad s ys with pl := T.place } with place := T.place + 1 }
set_option maxHeartbeats 4000000 in
set_option maxRecDepth 100000 in
theorem wait_no (st un ob ad : Int) (v : Value) (W : World) (base g : Nat) (T : Tb) (q i : Nat) (x : PS) (p : PD) (h : At W base g T q i x p) (hf : x.st = 1 ∧ T.lock ≠ (i : Int) + 1) (hn : ¬ (waitsP st ∧ tickP un)) :
    Calls Try.prog 11 #[.pointer (some ⟨g, 0, none⟩), .int .i64 ((i : Int) + 1), .int .i64 st, .int .i64 un, .int .i64 ob, .int .i64 ad, v] W fun e w' => e = .returned (.bool false) ∧ Below W.heap.size W w' := by
  have HF := Aside0.mk (free_is W base g T q i x p h)
  rw [if_pos hf] at HF
  have HW := Aside0.mk (fun (w' : World) => waits_is st w')
  have HT := Aside0.mk (fun (w' : World) => tick_is un w')
  clear h hf
  by_cases h1 : waitsP st
  · rw [decide_eq_true h1] at HW
    have h2 : un ≠ -1 := fun e => hn ⟨h1, .inl e⟩
    rw [decide_eq_false (fun hh => hn ⟨h1, .inr hh⟩)] at HT
    have q2 : (un == -1) = false := by rw [beq_eq_false_iff_ne]; exact h2
    have q3 : (un != -1) = true := by rw [bne_iff_ne]; exact h2
    clear hn h1
    go_enter Try.func11, Try.ntmps11
    go_wp2_with (first
      | (go_at_call 39; refine HF.out.mono ?_; rintro e w' ⟨rfl, rfl⟩)
      | (go_at_call 40; refine (HW.out _).mono ?_; rintro e w1 ⟨rfl, hd⟩; have HB1 := Aside0.mk (Drawn0.below hd); clear hd)
      | (go_at_call 36; refine (HT.out _).mono ?_; rintro e w2 ⟨rfl, hd⟩; have HB2 := Aside0.mk (HB1.out.trans ((Drawn0.below hd).mono HB1.out.size)); clear hd))
    go_ret
    exact ⟨rfl, HB2.out⟩
  · rw [decide_eq_false h1] at HW
    clear hn h1
    go_enter Try.func11, Try.ntmps11
    go_wp2_with (first
      | (go_at_call 39; refine HF.out.mono ?_; rintro e w' ⟨rfl, rfl⟩)
      | (go_at_call 40; refine (HW.out _).mono ?_; rintro e w1 ⟨rfl, hd⟩; have HB1 := Aside0.mk (Drawn0.below hd); clear hd))
    go_ret
    exact ⟨rfl, HB1.out⟩
theorem hdr_word : ∀ {W W' : World} {base g : Nat} {T : Tb}, TabAt W base g T → W' = W → TabAt W' base g T := fun h e => e ▸ h
set_option maxHeartbeats 8000000 in
set_option maxRecDepth 100000 in
theorem wait_yes (st un ob ad : Int) (A : Option Addr) (c : Nat) (ys : List Int) (W : World) (base g : Nat) (T : Tb) (q i : Nat) (x : PS) (p : PD) (h : At W base g T q i x p) (hf : x.st = 1 ∧ T.lock ≠ (i : Int) + 1) (hw : waitsP st) (ht : tickP un) (hp : 0 ≤ T.place ∧ T.place < 4611686018427387904)
    (hd : ∀ W', TK W W' g T.sv → Kd.C (Kd.int .i64) W' A ys.length ys) (hc : ys.length ≤ c) (hl : ys.length < 17592186044416) :
    Calls Try.prog 11 #[.pointer (some ⟨g, 0, none⟩), .int .i64 ((i : Int) + 1), .int .i64 st, .int .i64 un, .int .i64 ob, .int .i64 ad, .slice A ys.length c] W fun e w' => ∃ s : Sl, TPost W base g T (T.waitT i x st un ob ad s ys) (.bool true) e w' := by
  have hu48 := Try.underlying48
  have HF := Aside0.mk (free_is W base g T q i x p h)
  rw [if_pos hf] at HF
  have HW := Aside0.mk (fun (w' : World) => waits_is st w')
  rw [decide_eq_true hw] at HW
  have HT := Aside0.mk (fun (w' : World) => tick_is un w')
  have HE := Aside0.mk (fun (w' : World) (hb : Below W.heap.size W w') => enter_is w' base g T (h.below hb).tab q i x st h.a h.x hp)
  have hx1 : (T.enter i x st).xs[i]? = some { x.enter st with pl := T.place } := by unfold Tb.enter Tb.take; exact T.put_at i _ h.hi
  have HN := Aside0.mk (show ∀ w1, TabAt w1 base g (T.enter i x st) → TK W w1 g T.sv → Calls Try.prog 41 #[.slice A ys.length c] w1 (fun e w2 => ∃ s : Sl, e = .returned (.slice s.A s.n s.c) ∧ (w2.cell? ⟨q, i * 28 + 22, none⟩ = some (.int .i64 (-1)) ∧ w2.frozen? ⟨q, i * 28 + 22, none⟩ = false) ∧ (w2.cell? ⟨q, i * 28 + 24, none⟩ = some (.int .i64 0) ∧ w2.frozen? ⟨q, i * 28 + 24, none⟩ = false) ∧ (w2.cell? ⟨q, i * 28 + 25, none⟩ = some (.int .i64 0) ∧ w2.frozen? ⟨q, i * 28 + 25, none⟩ = false) ∧ (w2.cell? ⟨q, i * 28 + 26, none⟩ = some (.slice none 0 0) ∧ w2.frozen? ⟨q, i * 28 + 26, none⟩ = false) ∧
      TPost W base g T (T.waitT i x st un ob ad s ys) (.bool true) (.returned (.bool true)) ((((w2.setCell ⟨q, i * 28 + 22, none⟩ (.int .i64 un)).setCell ⟨q, i * 28 + 24, none⟩ (.int .i64 ob)).setCell ⟨q, i * 28 + 25, none⟩ (.int .i64 ad)).setCell ⟨q, i * 28 + 26, none⟩ (.slice s.A s.n s.c))) from fun w1 h1 k1 => by
    refine (words_Clone.calls A c ys ys w1 (hd w1 k1) hc (by unfold words_Clone.f; rw [if_pos (by simpa using hl)])).mono fun e w2 hq => ?_
    obtain ⟨v, rfl, hv, hb⟩ := hq
    obtain ⟨s, rfl, hs⟩ := Own.of_R hv
    have h2 := h1.below hb
    have hbs : base ≤ w1.heap.size := by have := h1.low; have := blk_lt h1.blk; omega
    have hA2 : (T.enter i x st).sv.A = some ⟨q, 0, none⟩ := h.a
    have hi2 : i < (T.enter i x st).xs.length := (List.getElem?_eq_some_iff.1 hx1).1
    have t1 := h2.w_un hA2 hx1 un
    have t2 := t1.w_ob hA2 (Tb.put_at _ i _ hi2) ob
    rw [Tb.put_put] at t2
    have t3 := t2.w_ad hA2 (Tb.put_at _ i _ hi2) ad
    rw [Tb.put_put] at t3
    have hda : DataAt ((((w2.setCell ⟨q, i * 28 + 22, none⟩ (.int .i64 un)).setCell ⟨q, i * 28 + 24, none⟩ (.int .i64 ob)).setCell ⟨q, i * 28 + 25, none⟩ (.int .i64 ad))) base s ys := by
      obtain ⟨cs0, hc0⟩ := own_typed h2.st q (by unfold Sl.v; rw [hA2]; rfl)
      refine DataAt.move (W := w2) (.inr (hs.lower hbs)) fun b cs hcs _ => ?_
      have hne : b ≠ q := fun e => by rw [e] at hcs; exact absurd (ty_eq hcs hc0) (by decide)
      exact ((Below.heap_setCell _ _ _ b hne).trans (Below.heap_setCell _ _ _ b hne)).trans (Below.heap_setCell _ _ _ b hne)
    have t4 := t3.w_dat hA2 (Tb.put_at _ i _ hi2) s ys hda
    rw [Tb.put_put] at t4
    have hk := (((((k1.trans (TK.of_below hb)).setS h.a (i * 28 + 22) (.int .i64 un)).setS h.a (i * 28 + 24) (.int .i64 ob)).setS h.a (i * 28 + 25) (.int .i64 ad)).setS h.a (i * 28 + 26) (.slice s.A s.n s.c))
    refine ⟨s, rfl, ⟨h2.r_un hA2 hx1, h2.frz hA2 _⟩, ⟨h2.r_ob hA2 hx1, h2.frz hA2 _⟩, ⟨h2.r_ad hA2 hx1, h2.frz hA2 _⟩, ⟨h2.r_dat hA2 hx1, h2.frz hA2 _⟩, rfl, ?_, hk⟩
    have e1 : (T.enter i x st).put i { { x.enter st with pl := T.place } with un := un, ob := ob, ad := ad, dat := s, data := ys } = T.waitT i x st un ob ad s ys := by
      unfold Tb.enter Tb.take Tb.waitT PS.waits Tb.put
      simp
    rw [← e1]
    exact t4)
  clear h hf hw hp hd hx1 hl
  by_cases h1 : un = -1
  · subst h1
    clear HT ht
    go_enter Try.func11, Try.ntmps11
    go_wp2_with (first
      | (go_at_call 39; refine HF.out.mono ?_; rintro e w' ⟨rfl, rfl⟩)
      | (go_at_call 40; refine (HW.out _).mono ?_; rintro e w1 ⟨rfl, hdd⟩; have HB1 := Aside0.mk (Drawn0.below hdd); clear hdd)
      | (go_at_call 38; refine (HE.out _ HB1.out).mono ?_; rintro e w3 ⟨rfl, ht3, hk3⟩; have HN3 := Aside0.mk (HN.out w3 ht3 ((TK.of_below HB1.out).trans hk3)); clear ht3 hk3)
      | (go_at_call 41; refine HN3.out.mono ?_; rintro e w4 ⟨s, rfl, ⟨y1, f1⟩, ⟨y2, f2⟩, ⟨y3, f3⟩, ⟨y4, f4⟩, hq⟩; have HQ := Aside0.mk hq; clear hq))
    go_ret
    exact ⟨s, HQ.out⟩
  · have h2 : 0 ≤ un ∧ un < 1099511627776 := by
      rcases ht with ht | ht
      · exact absurd ht h1
      · exact ht
    rw [decide_eq_true h2] at HT
    have q2 : (un == -1) = false := by rw [beq_eq_false_iff_ne]; exact h1
    have q3 : (un != -1) = true := by rw [bne_iff_ne]; exact h1
    clear ht h2
    go_enter Try.func11, Try.ntmps11
    go_wp2_with (first
      | (go_at_call 39; refine HF.out.mono ?_; rintro e w' ⟨rfl, rfl⟩)
      | (go_at_call 40; refine (HW.out _).mono ?_; rintro e w1 ⟨rfl, hdd⟩; have HB1 := Aside0.mk (Drawn0.below hdd); clear hdd)
      | (go_at_call 36; refine (HT.out _).mono ?_; rintro e w2 ⟨rfl, hdd⟩; have HB2 := Aside0.mk (HB1.out.trans ((Drawn0.below hdd).mono HB1.out.size)); clear hdd)
      | (go_at_call 38; refine (HE.out _ HB2.out).mono ?_; rintro e w3 ⟨rfl, ht3, hk3⟩; have HN3 := Aside0.mk (HN.out w3 ht3 ((TK.of_below HB2.out).trans hk3)); clear ht3 hk3)
      | (go_at_call 41; refine HN3.out.mono ?_; rintro e w4 ⟨s, rfl, ⟨y1, f1⟩, ⟨y2, f2⟩, ⟨y3, f3⟩, ⟨y4, f4⟩, hq⟩; have HQ := Aside0.mk hq; clear hq))
    go_ret
    exact ⟨s, HQ.out⟩
/-- A process that is woken. -/
def PS.woken (x : PS) (r : Int) : PS := { x with regs := x.regs.set 0 r }
set_option maxHeartbeats 4000000 in
set_option maxRecDepth 100000 in
theorem wake_yes (r : Int) (W : World) (base g : Nat) (T : Tb) (q i : Nat) (x : PS) (p : PD) (h : At W base g T q i x p) (hs : x.st ≠ 0 ∧ x.st ≠ 1 ∧ x.st ≠ 3) (hp : 0 ≤ T.place ∧ T.place < 4611686018427387904) :
    Calls Try.prog 14 #[.pointer (some ⟨g, 0, none⟩), .int .i64 ((i : Int) + 1), .int .i64 r] W (TPost W base g T (T.enter i (x.woken r) 1) (.bool true)) := by
  have hu48 := Try.underlying48
  have hu46 := Try.underlying46
  have HA := Aside0.mk h.at_
  have hr := h.tab.r16 h.x
  have y0 := h.tab.r_st h.a h.x
  have y3 := h.tab.sc h.a h.x (3 + 0) (by omega) (PS.get_reg x hr 0 (by omega))
  have f3 := h.tab.frz h.a (i * 28 + (3 + 0))
  have t1 := h.tab.w_reg h.a h.x 0 (by omega) r
  have HK1 := Aside0.mk ((TK.refl (W := W) (g := g)).setS h.a (i * 28 + (3 + 0)) (.int .i64 r))
  have HE1 := Aside0.mk (enter_is _ base g _ t1 q i _ 1 h.a (T.put_at i _ h.hi) hp)
  have hpe : ∀ (z : PS), (T.put i z).enter i z 1 = T.enter i z 1 := fun z => by unfold Tb.enter Tb.take; simp [Tb.put]
  have HPE := Aside0.mk hpe
  simp only [Nat.add_zero] at y0 y3 f3 HK1 HE1
  have q0 : (x.st == 0) = false := by rw [beq_eq_false_iff_ne]; exact hs.1
  have q1 : (x.st == 1) = false := by rw [beq_eq_false_iff_ne]; exact hs.2.1
  have q3 : (x.st == 3) = false := by rw [beq_eq_false_iff_ne]; exact hs.2.2
  obtain ⟨n0, n1, n3⟩ := hs
  unfold PS.woken
  generalize x.st = s at *
  clear h t1 hpe
  go_enter Try.func14, Try.ntmps14
  go_wp2_with (first
    | (go_at_call 35; refine HA.out.mono ?_; rintro e w' ⟨rfl, rfl⟩)
    | (go_at_call 38; refine HE1.out.mono ?_; rintro e w' ⟨rfl, ht, hk⟩; have HTT := Aside0.mk ht; have HKK := Aside0.mk hk; clear ht hk))
  go_ret
  have ht := HTT.out
  rw [HPE.out] at ht
  exact ⟨rfl, ht, HK1.out.trans HKK.out⟩
set_option maxHeartbeats 4000000 in
set_option maxRecDepth 100000 in
theorem wake_no (r : Int) (W : World) (base g : Nat) (T : Tb) (q i : Nat) (x : PS) (p : PD) (h : At W base g T q i x p) (hs : x.st = 0 ∨ x.st = 1 ∨ x.st = 3) :
    Calls Try.prog 14 #[.pointer (some ⟨g, 0, none⟩), .int .i64 ((i : Int) + 1), .int .i64 r] W fun e w' => e = .returned (.bool false) ∧ W = w' := by
  have hu48 := Try.underlying48
  have HA := Aside0.mk h.at_
  have y0 := h.tab.r_st h.a h.x
  simp only [Nat.add_zero] at y0
  generalize x.st = s at *
  clear h
  rcases hs with rfl | rfl | rfl
  all_goals
    go_enter Try.func14, Try.ntmps14
    go_wp2_with (go_at_call 35; refine HA.out.mono ?_; rintro e w' ⟨rfl, rfl⟩)
    go_ret
    exact ⟨rfl, rfl⟩
end Go.Proofs.Ytfnlankpdnkmoaa.B
