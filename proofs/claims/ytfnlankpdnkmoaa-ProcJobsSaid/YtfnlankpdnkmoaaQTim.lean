/- Proved: the contracts of the table's timers. Conditions: the table's length is that of a list. -/
import Derived.Test.YtfnlankpdnkmoaaQOps
import Derived.Test.YtfnlankpdnkmoaaBx1
import Derived.Laws.EntriesVeiled
import Derived.Deep.RegionHeld3
namespace Go.Proofs.Ytfnlankpdnkmoaa.B
open Go.RowKit Go.Proofs.YtfnlankpdnkmoaaW.PrintWords Go.Proofs.YtfnlankpdnkmoaaW.PrintLast Go.Proofs.YtfnlankpdnkmoaaW.PrintMore

def later (now d : Int) : Int := if now < 0 then -1 else if now ≥ 1099511627776 then -1 else if d < 0 then -1 else if d ≥ wrap64 (1099511627776 - now) then -1 else wrap64 (now + d)
theorem later_is (now d : Int) (W : World) : Calls Try.prog 62 #[.int .i64 now, .int .i64 d] W fun e w' => e = .returned (.int .i64 (later now d)) ∧ Drawn0 W w' := by
  refine num_Later.calls now d (later now d) W ?_
  unfold num_Later.f later
  split
  · rfl
  · split
    · rfl
    · split
      · rfl
      · split <;> rfl
def dlOf (p : PD) (now : Int) : Int := if p.limit > 0 then later now p.limit else -1
set_option maxHeartbeats 4000000 in
set_option maxRecDepth 100000 in
theorem deadline_is (W : World) (base g : Nat) (T : Tb) (h : TabAt W base g T) (i : Nat) (p : PD) (hp : T.ps[i]? = some p) (now : Int) (hn : T.xs.length ≤ 4294967296) :
    Calls Try.prog 37 #[.pointer (some ⟨g, 0, none⟩), .int .i64 ((i : Int) + 1), .int .i64 now] W fun e w' => e = .returned (.int .i64 (dlOf p now)) ∧ Below W.heap.size W w' := by
  have hu86 := Try.underlying86
  have hu28 := Try.underlying28
  obtain ⟨hi, hpe⟩ := List.getElem?_eq_some_iff.1 hp
  obtain ⟨q, hA⟩ := own_A h.pr (by omega)
  have hlen := h.len
  have j0 : W.cell? ⟨g, 0, none⟩ = some (.slice (some ⟨q, 0, none⟩) T.ps.length T.pv.c) := by rw [← hA, show T.ps.length = T.pv.n from (own_n h.pr).symm]; exact h.c0
  have jl : W.cell? ⟨q, i * 6 + 3, none⟩ = some (.int .i64 p.limit) := h.pcell hA hi 3 (by omega) (.int .i64 p.limit) (by rw [hpe]; rfl)
  clear hpe
  generalize T.ps.length = n at *
  have HL := Aside0.mk (fun (w' : World) => later_is now p.limit w')
  obtain ⟨L, hL⟩ : ∃ L, later now p.limit = L := ⟨_, rfl⟩
  by_cases h0 : p.limit > 0
  · rw [show dlOf p now = L by unfold dlOf; rw [if_pos h0, hL]]
    rw [hL] at HL
    generalize p.limit = l at *
    clear h hA hp hL
    go_enter Try.func37, Try.ntmps37
    go_wp2_with (go_at_call 62; refine (HL.out _).mono ?_; rintro e w' ⟨rfl, hd⟩; have hb := Drawn0.below hd)
    go_ret
    exact ⟨rfl, hb⟩
  · rw [show dlOf p now = -1 by unfold dlOf; rw [if_neg h0]]
    generalize p.limit = l at *
    clear h hA hp hL
    go_enter Try.func37, Try.ntmps37
    go_wp2
    go_ret
    exact ⟨rfl, Below.refl _ _⟩
theorem results_c {P : Program} {fn : Func} {p : Tmp} {ty : TypeId} (h : fn.results = #[.cell p ty]) (tmps : Array Value) (w : World) (g : Nat) (t : TypeId) (cs : Array Value) (fr : Nat × Nat) (d : TypeDesc)
    (hp : tmps.getD p undef = .pointer (some ⟨g, 0, none⟩)) (hg : w.heap[g]? = some (.cells cs t fr))
    (hu : P.underlying ty = some d) (hd : (match d with | .struct _ | .array _ _ => true | _ => false) = true) (hi : (P.info? ty).map (·.size) = some cs.size) :
    (results fn tmps).run P w = .ok (.agg cs) w := by
  have hp' : tmps[p]?.getD undef = .pointer (some ⟨g, 0, none⟩) := by simpa using hp
  simp [results, h, hp', asAddr, run_loadVar_row w g t ty cs fr d hg hu hd hi]
/-- The table of the kinds of timers: bound functions. -/
def timersV (v : Value) : Value := .agg #[.nilFunc, .nilFunc, .func (.func 63) #[v] #[], .func (.func 64) #[v] #[], .func (.func 65) #[v] #[], .func (.func 66) #[v] #[], .func (.func 67) #[v] #[], .func (.func 68) #[v] #[]]
set_option maxHeartbeats 4000000 in
set_option maxRecDepth 100000 in
theorem timers_is (W : World) (v : Value) : Calls Try.prog 43 #[v] W fun e w' => e = .returned (timersV v) ∧ Below W.heap.size W w' := by
  have hu95 := Try.underlying95
  have hu96 := Try.underlying96
  go_enter Try.func43, Try.ntmps43
  go_wp2
  exact bodyPost_ret (results_c Try.results43 _ _ W.heap.size 96 _ (0, 0) _ rfl (heap_alloc_new _ _) hu96 rfl (by kernel_rfl)) rfl ⟨rfl, (Below.refl _ _).alloc (Nat.le_refl _) _⟩
def relTick (x : PS) (p : PD) : Int := if x.st = 3 then x.un else if p.period = 0 ∨ x.late = true ∨ wrap64 (x.rel + p.period) ≥ 1099511627776 then -1 else wrap64 (x.rel + p.period)
def wakeTk (x : PS) : Int := if x.st = 1 ∨ x.st = 3 then -1 else x.un
/-- The i-th process: its state, and as it is laid down. -/
structure At (W : World) (base g : Nat) (T : Tb) (q i : Nat) (x : PS) (p : PD) : Prop where
  tab : TabAt W base g T
  a : T.sv.A = some ⟨q, 0, none⟩
  x : T.xs[i]? = some x
  p : T.ps[i]? = some p
  n : T.xs.length ≤ 4294967296
theorem At.below {W W' : World} {base g : Nat} {T : Tb} {q i : Nat} {x : PS} {p : PD} (h : At W base g T q i x p) (hb : Below W.heap.size W W') : At W' base g T q i x p := ⟨h.tab.below hb, h.a, h.x, h.p, h.n⟩
theorem At.at_ {W : World} {base g : Nat} {T : Tb} {q i : Nat} {x : PS} {p : PD} (h : At W base g T q i x p) : Calls Try.prog 35 #[.pointer (some ⟨g, 0, none⟩), .int .i64 ((i : Int) + 1)] W fun e w' => e = .returned (.pointer (some ⟨q, i * 28, none⟩)) ∧ W = w' :=
  at_in W base g T h.tab q i h.a (h.tab.getx h.x).1 h.n
set_option maxHeartbeats 4000000 in
set_option maxRecDepth 100000 in
theorem deadlineTick_is (W : World) (base g : Nat) (T : Tb) (q i : Nat) (x : PS) (p : PD) (h : At W base g T q i x p) :
    Calls Try.prog 63 #[.pointer (some ⟨g, 0, none⟩), .int .i64 ((i : Int) + 1)] W fun e w' => e = .returned (.int .i64 x.dl) ∧ W = w' := by
  have hu48 := Try.underlying48
  have HA := Aside0.mk h.at_
  have y := h.tab.r_dl h.a h.x
  clear h
  go_enter Try.func63, Try.ntmps63
  go_wp2_with (go_at_call 35; refine HA.out.mono ?_; rintro e w' ⟨rfl, rfl⟩)
  go_ret
  exact ⟨rfl, rfl⟩
set_option maxHeartbeats 4000000 in
set_option maxRecDepth 100000 in
theorem wakeTick_is (W : World) (base g : Nat) (T : Tb) (q i : Nat) (x : PS) (p : PD) (h : At W base g T q i x p) :
    Calls Try.prog 67 #[.pointer (some ⟨g, 0, none⟩), .int .i64 ((i : Int) + 1)] W fun e w' => e = .returned (.int .i64 (wakeTk x)) ∧ W = w' := by
  have hu48 := Try.underlying48
  have HA := Aside0.mk h.at_
  have y0 := h.tab.r_st h.a h.x
  have y1 := h.tab.r_un h.a h.x
  simp only [Nat.add_zero] at y0
  unfold wakeTk
  generalize x.st = s at *
  generalize x.un = u at *
  clear h
  by_cases h1 : s = 1
  · rw [if_pos (.inl h1)]
    subst h1
    go_enter Try.func67, Try.ntmps67
    go_wp2_with (go_at_call 35; refine HA.out.mono ?_; rintro e w' ⟨rfl, rfl⟩)
    go_ret
    exact ⟨rfl, rfl⟩
  · by_cases h3 : s = 3
    · rw [if_pos (.inr h3)]
      subst h3
      go_enter Try.func67, Try.ntmps67
      go_wp2_with (go_at_call 35; refine HA.out.mono ?_; rintro e w' ⟨rfl, rfl⟩)
      go_ret
      exact ⟨rfl, rfl⟩
    · rw [if_neg (fun h => h.elim h1 h3)]
      have q1 : (s == 1) = false := by rw [beq_eq_false_iff_ne]; exact h1
      have q3 : (s == 3) = false := by rw [beq_eq_false_iff_ne]; exact h3
      go_enter Try.func67, Try.ntmps67
      go_wp2_with (go_at_call 35; refine HA.out.mono ?_; rintro e w' ⟨rfl, rfl⟩)
      go_ret
      exact ⟨rfl, rfl⟩
set_option maxHeartbeats 4000000 in
set_option maxRecDepth 100000 in
theorem releaseTick_is (W : World) (base g : Nat) (T : Tb) (q i : Nat) (x : PS) (p : PD) (h : At W base g T q i x p) :
    Calls Try.prog 65 #[.pointer (some ⟨g, 0, none⟩), .int .i64 ((i : Int) + 1)] W fun e w' => e = .returned (.int .i64 (relTick x p)) ∧ Below W.heap.size W w' := by
  have hu48 := Try.underlying48
  have hu86 := Try.underlying86
  have hu28 := Try.underlying28
  have HA := Aside0.mk h.at_
  have HAD := Aside0.mk (fun (w' : World) (hb : Below W.heap.size W w') => (h.below hb).at_)
  obtain ⟨hi, hpe⟩ := List.getElem?_eq_some_iff.1 h.p
  obtain ⟨r, hA⟩ := own_A h.tab.pr (by omega)
  have j0 : W.cell? ⟨g, 0, none⟩ = some (.slice (some ⟨r, 0, none⟩) T.ps.length T.pv.c) := by rw [← hA, show T.ps.length = T.pv.n from (own_n h.tab.pr).symm]; exact h.tab.c0
  have jl : W.cell? ⟨r, i * 6 + 2, none⟩ = some (.int .i64 p.period) := h.tab.pcell hA hi 2 (by omega) (.int .i64 p.period) (by rw [hpe]; rfl)
  have hlen : T.ps.length ≤ 4294967296 := by have := h.n; have := h.tab.len; omega
  have y0 := h.tab.r_st h.a h.x
  have y1 := h.tab.r_un h.a h.x
  have y2 := h.tab.r_late h.a h.x
  have y3 := h.tab.r_rel h.a h.x
  simp only [Nat.add_zero] at y0
  have HSS := Aside0.mk (show ∀ w', Below W.heap.size W w' → Below W.heap.size W w' ∧ w'.cell? ⟨g, 0, none⟩ = some (.slice (some ⟨r, 0, none⟩) T.ps.length T.pv.c) ∧ w'.cell? ⟨r, i * 6 + 2, none⟩ = some (.int .i64 p.period) from fun w' hb => ⟨hb, (hb.cell (p := ⟨g, 0, none⟩) (blk_lt h.tab.blk)).trans j0, (hb.cell (p := ⟨r, i * 6 + 2, none⟩) (by obtain ⟨cs, hc⟩ := own_typed h.tab.pr r (by unfold Sl.v; rw [hA]; rfl); exact blk_lt hc)).trans jl⟩)
  have HYS := Aside0.mk (show ∀ w', Below W.heap.size W w' → w'.cell? ⟨q, i * 28, none⟩ = some (.int .i64 x.st) ∧ w'.cell? ⟨q, i * 28 + 22, none⟩ = some (.int .i64 x.un) ∧ w'.cell? ⟨q, i * 28 + 23, none⟩ = some (.bool x.late) ∧ w'.cell? ⟨q, i * 28 + 20, none⟩ = some (.int .i64 x.rel) from fun w' hb => by
    have h' := h.below hb
    have z := h'.tab.r_st h'.a h'.x
    simp only [Nat.add_zero] at z
    exact ⟨z, h'.tab.r_un h'.a h'.x, h'.tab.r_late h'.a h'.x, h'.tab.r_rel h'.a h'.x⟩)
  unfold relTick
  clear hpe hA j0 jl y0 y1 y2 y3 HA
  have hin : i < T.ps.length := hi
  clear hi
  generalize T.ps.length = n at *
  generalize p.period = P at *
  generalize x.st = s at *
  generalize x.un = u at *
  generalize x.late = l at *
  generalize x.rel = R at *
  obtain ⟨V, hV⟩ : ∃ V, (if s = 3 then u else if P = 0 ∨ l = true ∨ wrap64 (R + P) ≥ 1099511627776 then -1 else wrap64 (R + P)) = V := ⟨_, rfl⟩
  rw [hV]
  have HV := Aside0.mk hV
  clear h hV
  go_enter Try.func65, Try.ntmps65
  go_wp2
  have hD := HSS.out _ (Below.refl _ W)
  have hw1 : IntKind.i64.wrap ((i : Int) + 1 - 1) = (i : Int) := by rw [show (i : Int) + 1 - 1 = i by omega]; exact IntWalk.i64_in _ (by omega)
  have hw2 : IntKind.i64.wrap (i : Int) = (i : Int) := IntWalk.i64_in _ (by omega)
  have hw3 : (i : Int) + 1 - 1 = (i : Int) := by omega
  have hi0 : 0 ≤ (i : Int) := by omega
  have hi1 : (i : Int) < (n : Int) := by omega
  go_region_held3 (fun w' => Below W.heap.size W w' ∧ w'.cell? ⟨g, 0, none⟩ = some (.slice (some ⟨r, 0, none⟩) n T.pv.c) ∧ w'.cell? ⟨r, i * 6 + 2, none⟩ = some (.int .i64 P))
    (first | exact HSS.out _ (below_drew1 (Below.refl _ _)) | exact HSS.out _ (And.left (by assumption)))
    (first | (go_at_call 35; refine (HAD.out _ ?hkk).mono ?_; (case hkk => (first | exact And.left (by assumption) | exact below_drew1 (Below.refl _ _) | assumption)); rintro e w' ⟨rfl, rfl⟩))
  obtain ⟨y0, y1, y2, y3⟩ := HYS.out _ (below_drew1 (Below.refl _ W))
  have HBD := Aside0.mk (below_drew1 (Below.refl W.heap.size W))
  clear HYS HSS HAD hD hw1 hw2 hw3
  generalize W.drew = w1 at *
  by_cases h3 : s = 3
  · have HE := Aside0.mk (show V = u by rw [← HV.out, if_pos h3])
    subst h3
    go_wp2
    go_ret
    exact ⟨by rw [HE.out]; rfl, HBD.out⟩
  · have q3 : (s == 3) = false := by rw [beq_eq_false_iff_ne]; exact h3
    by_cases hp : P = 0
    · have HE := Aside0.mk (show V = -1 by rw [← HV.out, if_neg h3, if_pos (.inl hp)])
      subst hp
      go_wp2
      go_ret
      exact ⟨by rw [HE.out]; rfl, HBD.out⟩
    · have qp : (P == 0) = false := by rw [beq_eq_false_iff_ne]; exact hp
      by_cases hl : l = true
      · have HE := Aside0.mk (show V = -1 by rw [← HV.out, if_neg h3, if_pos (.inr (.inl hl))])
        subst hl
        go_wp2
        go_ret
        exact ⟨by rw [HE.out]; rfl, HBD.out⟩
      · have hl' : l = false := by cases l; rfl; exact absurd rfl hl
        by_cases hs : wrap64 (R + P) ≥ 1099511627776
        · have HE := Aside0.mk (show V = -1 by rw [← HV.out, if_neg h3, if_pos (.inr (.inr hs))])
          have hs' : 1099511627776 ≤ wrap64 (R + P) := hs
          have hsd : decide (1099511627776 ≤ wrap64 (R + P)) = true := decide_eq_true hs'
          subst hl'
          clear hl hs
          go_wp2
          go_ret
          exact ⟨by rw [HE.out]; rfl, HBD.out⟩
        · have HE := Aside0.mk (show V = wrap64 (R + P) by rw [← HV.out, if_neg h3, if_neg (fun h => by rcases h with h | h | h; exact hp h; exact hl h; exact hs h)])
          have hs' : ¬ (1099511627776 ≤ wrap64 (R + P)) := hs
          have hsd : decide (1099511627776 ≤ wrap64 (R + P)) = false := decide_eq_false hs'
          subst hl'
          clear hl hs
          go_wp2
          go_ret
          exact ⟨by rw [HE.out]; rfl, HBD.out⟩
end Go.Proofs.Ytfnlankpdnkmoaa.B
