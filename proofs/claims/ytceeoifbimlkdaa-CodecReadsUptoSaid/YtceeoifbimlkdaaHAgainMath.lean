/- Proved, plainly: what a Reader has read without a fault gives, written again, the same bytes. No program's step in it. -/
import Derived.Test.YtceeoifbimlkdaaHOp
import Derived.Test.YtceeoifbimlkdaaHGetList
namespace Go.Proofs.Ytceeoifbimlkdaa.B
open Go.RowKit Go.Proofs.YtceeoifbimlkdaaW.PrintWords Go.Proofs.YtceeoifbimlkdaaW.PrintLast Go.Proofs.YtceeoifbimlkdaaW.PrintMore

theorem numV_bigL : ∀ (n : Nat) (x : Int), 0 ≤ x → x < 256 ^ n → numV (bigL x n) = x
  | 0, x, h0, h1 => by simp at h1; have : x = 0 := by omega
                       subst this; rfl
  | n + 1, x, h0, h1 => by
    show numV (bigL (x / 256) n ++ [x % 256]) = x
    rw [Int.pow_succ] at h1
    rw [numV_snoc, numV_bigL n (x / 256) (by omega) (by generalize (256 : Int) ^ n = P at *; omega)]
    omega
theorem bigL_numV_n : ∀ (n : Nat) (l : List Int), l.length = n → BytesOk l → bigL (numV l) l.length = l
  | 0, l, hn, _ => by
    have : l = [] := List.length_eq_zero_iff.1 hn
    subst this; rfl
  | n + 1, l, hn, h => by
    rcases List.eq_nil_or_concat l with e | ⟨l, c, e⟩
    · subst e; cases hn
    · rw [List.concat_eq_append] at e
      subst e
      have hc := h c (by simp)
      have hl : BytesOk l := fun x hx => h x (by simp [hx])
      rw [List.length_append] at hn
      have ih := bigL_numV_n n l (by simp at hn; exact hn) hl
      rw [numV_snoc, List.length_append]
      show bigL ((numV l * 256 + c) / 256) l.length ++ [(numV l * 256 + c) % 256] = _
      rw [show (numV l * 256 + c) / 256 = numV l by omega, show (numV l * 256 + c) % 256 = c by omega, ih]
theorem bigL_numV (l : List Int) (h : BytesOk l) : bigL (numV l) l.length = l := bigL_numV_n _ l rfl h
theorem take_len {l : List Int} {n : Nat} (h : n ≤ l.length) : (l.take n).length = n := by rw [List.length_take]; omega

/-- A number that is read without a fault. -/
theorem rNum_yes (s : List Int × Int) (n : Nat) (h : (rNum s n).2.2 = 0) : s.2 = 0 ∧ n ≤ s.1.length ∧ (rNum s n).1 = numV (s.1.take n) ∧ (rNum s n).2 = (s.1.drop n, 0) := by
  unfold rNum rTake at h ⊢
  by_cases c : s.2 = 0 ∧ 0 ≤ (n : Int) ∧ (n : Int) ≤ s.1.length
  · rw [if_pos c] at h ⊢
    rw [Int.toNat_natCast]
    exact ⟨c.1, by omega, rfl, rfl⟩
  · rw [if_neg c] at h
    dsimp only at h
    split at h
    · omega
    · contradiction
theorem rNum_no (s : List Int × Int) (n : Nat) (h : (rNum s n).2.2 ≠ 0) : (rNum s n).1 = 0 ∧ (rNum s n).2.1 = s.1 := by
  unfold rNum rTake at h ⊢
  by_cases c : s.2 = 0 ∧ 0 ≤ (n : Int) ∧ (n : Int) ≤ s.1.length
  · rw [if_pos c] at h; exact absurd rfl h
  · rw [if_neg c]; exact ⟨rfl, rfl⟩
theorem rNum_stick (s : List Int × Int) (n : Nat) (h : s.2 ≠ 0) : rNum s n = (0, s) := by
  unfold rNum rTake
  rw [if_neg (fun c => h c.1), if_neg h]; rfl
theorem wNum_back (ws : List Int) (l : List Int) (h : BytesOk l) : wNum (ws, 0) (numV l) l.length = (ws ++ l, 0) := by
  have hb := numV_bd l h l.length (Nat.le_refl _)
  rw [List.take_length] at hb
  unfold wNum wPut
  rw [if_pos hb, if_pos rfl, bigL_numV l h]

/-- A list that is read without a fault. -/
theorem rGets_yes : ∀ (n : Nat) (s : List Int × Int) (acc : List Int), s.2 = 0 → BytesOk s.1 → (rGets n s acc).2.2 = 0 → ∃ l rest, (rGets n s acc) = (acc ++ l, rest, 0) ∧ l.length = n ∧ s.1.length = 2 * n + rest.length ∧ BytesOk rest ∧
    ∀ ws : List Int, (l.foldl (fun s x => wNum s x 2) (ws, 0)).2 = 0 ∧ (l.foldl (fun s x => wNum s x 2) (ws, 0)).1 ++ rest = ws ++ s.1
  | 0, s, acc, h0, hb, h => ⟨[], s.1, by simp [rGets, ← h0], rfl, by simp, hb, fun ws => ⟨rfl, rfl⟩⟩
  | n + 1, s, acc, h0, hb, h => by
    unfold rGets at h ⊢
    by_cases c : (rNum s 2).2.2 = 0
    · rw [if_pos c] at h ⊢
      obtain ⟨_, h2, h3, h4⟩ := rNum_yes s 2 c
      rw [h3, h4] at h ⊢
      have hb2 : BytesOk (s.1.drop 2) := fun x hx => hb x (List.mem_of_mem_drop hx)
      have hb3 : BytesOk (s.1.take 2) := fun x hx => hb x (List.mem_of_mem_take hx)
      obtain ⟨l, rest, e1, e2, e3, e4, e5⟩ := rGets_yes n (s.1.drop 2, 0) (acc ++ [numV (s.1.take 2)]) rfl hb2 h
      refine ⟨numV (s.1.take 2) :: l, rest, by rw [e1, List.append_assoc]; rfl, by rw [List.length_cons, e2], ?_, e4, fun ws => ?_⟩
      · simp only [List.length_drop] at e3; omega
      · have hw := wNum_back ws (s.1.take 2) hb3
        rw [take_len h2] at hw
        show (l.foldl (fun s x => wNum s x 2) (wNum (ws, 0) (numV (s.1.take 2)) 2)).2 = 0 ∧ _
        have e6 := e5 (ws ++ s.1.take 2)
        show _ ∧ (l.foldl (fun s x => wNum s x 2) (wNum (ws, 0) (numV (s.1.take 2)) 2)).1 ++ rest = _
        rw [hw]
        exact ⟨e6.1, by rw [e6.2, List.append_assoc, List.take_append_drop]⟩
    · rw [if_neg c] at h; exact absurd h c
theorem rGets_len : ∀ (n : Nat) (s : List Int × Int) (acc : List Int), (rGets n s acc).2.1.length + 2 * (rGets n s acc).1.length ≤ s.1.length + 2 * acc.length
  | 0, s, acc => Nat.le_refl _
  | n + 1, s, acc => by
    unfold rGets
    by_cases c : (rNum s 2).2.2 = 0
    · rw [if_pos c]
      obtain ⟨_, h2, h3, h4⟩ := rNum_yes s 2 c
      have := rGets_len n (rNum s 2).2 (acc ++ [(rNum s 2).1])
      rw [h4] at this ⊢
      simp only [List.length_append, List.length_cons, List.length_nil, List.length_drop] at this
      omega
    · rw [if_neg c]
      have := rNum_len s 2
      simp only [List.length_nil]
      omega
theorem rList_yes (s : List Int × Int) (most : Int) (h0 : s.2 = 0) (hb : BytesOk s.1) (h : (rList s most).2.2 = 0) : ∃ l rest, rList s most = (l, rest, 0) ∧ (l.length : Int) ≤ most ∧ s.1.length = 4 + 2 * l.length + rest.length ∧ BytesOk rest ∧ 0 ≤ l.length ∧
    ∀ ws : List Int, (wList (ws, 0) l most).2 = 0 ∧ (wList (ws, 0) l most).1 ++ rest = ws ++ s.1 := by
  unfold rList at h ⊢
  rw [if_pos h0] at h ⊢
  by_cases c : (rNum s 4).2.2 = 0
  · rw [if_pos c] at h ⊢
    obtain ⟨_, h2, h3, h4⟩ := rNum_yes s 4 c
    rw [h3, h4] at h ⊢
    have hb2 : BytesOk (s.1.drop 4) := fun x hx => hb x (List.mem_of_mem_drop hx)
    have hb3 : BytesOk (s.1.take 4) := fun x hx => hb x (List.mem_of_mem_take hx)
    by_cases c1 : most < numV (s.1.take 4)
    · rw [if_pos c1] at h; exact absurd h (show ¬ ((1 : Int) = 0) by decide)
    · rw [if_neg c1] at h ⊢
      by_cases c2 : (((s.1.drop 4, (0 : Int)).1.length : Nat) : Int) < numV (s.1.take 4)
      · rw [if_pos c2] at h; exact absurd h (show ¬ ((20 : Int) = 0) by decide)
      · rw [if_neg c2] at h ⊢
        obtain ⟨l, rest, e1, e2, e3, e4, e5⟩ := rGets_yes _ (s.1.drop 4, 0) [] rfl hb2 h
        have hbd := numV_bd s.1 hb 4 h2
        rw [List.nil_append] at e1
        have hl : (l.length : Int) = numV (s.1.take 4) := by rw [e2]; omega
        refine ⟨l, rest, e1, by omega, by simp only [List.length_drop] at e3; omega, e4, Nat.zero_le _, fun ws => ?_⟩
        have hw := wNum_back ws (s.1.take 4) hb3
        rw [take_len h2] at hw
        have e6 := e5 (ws ++ s.1.take 4)
        have e7 : (if most < (l.length : Int) then wFail (ws, 0) 1 else wPut (ws, 0) (bigL l.length 4)) = (ws ++ s.1.take 4, 0) := by
          rw [if_neg (by omega), ← hw]
          unfold wNum
          rw [if_pos hbd, hl]
        unfold wList
        rw [e7]
        exact ⟨e6.1, by rw [e6.2, List.append_assoc, List.take_append_drop]⟩
  · rw [if_neg c] at h; exact absurd h c
theorem rList_len (s : List Int × Int) (most : Int) : (rList s most).2.1.length + 2 * (rList s most).1.length ≤ s.1.length := by
  unfold rList
  have h1 := rNum_len s 4
  by_cases c0 : s.2 = 0
  · rw [if_pos c0]
    by_cases c : (rNum s 4).2.2 = 0
    · rw [if_pos c]
      by_cases c1 : most < (rNum s 4).1
      · rw [if_pos c1]; simp
      · rw [if_neg c1]
        by_cases c2 : (((rNum s 4).2.1.length : Nat) : Int) < (rNum s 4).1
        · rw [if_pos c2]; simp
        · rw [if_neg c2]
          have := rGets_len (rNum s 4).1.toNat (rNum s 4).2 []
          simp only [List.length_nil] at this
          omega
    · rw [if_neg c]; simp
  · rw [if_neg c0]; simp
theorem rGets_ok : ∀ (n : Nat) (s : List Int × Int) (acc : List Int), BytesOk s.1 → BytesOk (rGets n s acc).2.1
  | 0, s, acc, h => h
  | n + 1, s, acc, h => by
    unfold rGets
    split
    · exact rGets_ok n _ _ (rNum_ok s 2 h)
    · exact rNum_ok s 2 h
theorem rList_ok (s : List Int × Int) (most : Int) (h : BytesOk s.1) : BytesOk (rList s most).2.1 := by
  unfold rList
  split
  · split
    · split
      · exact h
      · split
        · exact h
        · exact rGets_ok _ _ _ (rNum_ok s 4 h)
    · exact h
  · exact h

/-! ### One call read, and written again -/
/-- What a call on the Reader makes of the call: the values that are read. -/
def rOp (s : List Int × Int) (o : OpL) : OpL × List Int × Int :=
  if o.kind = 1 then ({ o with n := (rNum s 1).1 }, (rNum s 1).2) else if o.kind = 2 then ({ o with n := (rNum s 2).1 }, (rNum s 2).2) else if o.kind = 3 then ({ o with n := (rNum s 4).1 }, (rNum s 4).2) else
  if o.kind = 4 then ({ o with wide := wrap64 (rNum s 8).1 }, (rNum s 8).2) else if o.kind = 5 then ({ o with flag := (rBool s).1 }, (rBool s).2) else if o.kind = 6 then ({ o with bytes := (rTake s o.n).1 }, (rTake s o.n).2) else
  if o.kind = 7 then ({ o with list := (rList s o.most).1 }, (rList s o.most).2) else (o, s)
/-- Both states behind one call. -/
def agStep (st : (List Int × Int) × (List Int × Int)) (o : OpL) : (List Int × Int) × (List Int × Int) := ((rOp st.1 o).2, wOp st.2 (rOp st.1 o).1)
/-- What has been read lies written, as long as there is no fault. -/
def AgInv (b : List Int) (st : (List Int × Int) × (List Int × Int)) : Prop := BytesOk st.1.1 ∧ (st.1.2 = 0 → st.2.2 = 0 ∧ st.2.1 ++ st.1.1 = b)

theorem u64_back (x : Int) (h0 : 0 ≤ x) (h1 : x < 18446744073709551616) : IntKind.u64.wrap (wrap64 x) = x := by
  have e : IntKind.u64.wrap (wrap64 x) = (wrap64 x) % 18446744073709551616 := by simp [IntKind.wrap, go_sem, show IntKind.u64.signed = false from rfl]
  rw [e]; unfold wrap64; omega
theorem num_step (b : List Int) (r w : List Int × Int) (n : Nat) (hi : AgInv b (r, w)) : AgInv b ((rNum r n).2, wNum w (rNum r n).1 n) := by
  refine ⟨rNum_ok r n hi.1, fun h => ?_⟩
  obtain ⟨h1, h2, h3, h4⟩ := rNum_yes r n h
  obtain ⟨e1, e2⟩ := hi.2 h1
  obtain ⟨ws, wf⟩ := w
  dsimp only at e1 e2
  subst e1
  rw [h3, h4]
  have hb3 : BytesOk (r.1.take n) := fun x hx => hi.1 x (List.mem_of_mem_take hx)
  have hw := wNum_back ws (r.1.take n) hb3
  rw [take_len h2] at hw
  rw [hw]
  exact ⟨rfl, by rw [← e2, List.append_assoc, List.take_append_drop]⟩
theorem ag_inv (b : List Int) (st : (List Int × Int) × (List Int × Int)) (o : OpL) (hi : AgInv b st) : AgInv b (agStep st o) := by
  obtain ⟨r, w⟩ := st
  unfold agStep rOp
  dsimp only
  by_cases k1 : o.kind = 1
  · rw [if_pos k1]; unfold wOp; rw [if_pos k1]; exact num_step b r w 1 hi
  rw [if_neg k1]
  by_cases k2 : o.kind = 2
  · rw [if_pos k2]; unfold wOp; rw [if_neg k1, if_pos k2]; exact num_step b r w 2 hi
  rw [if_neg k2]
  by_cases k3 : o.kind = 3
  · rw [if_pos k3]; unfold wOp; rw [if_neg k1, if_neg k2, if_pos k3]; exact num_step b r w 4 hi
  rw [if_neg k3]
  by_cases k4 : o.kind = 4
  · rw [if_pos k4]; unfold wOp; rw [if_neg k1, if_neg k2, if_neg k3, if_pos k4]
    have hs := num_step b r w 8 hi
    refine ⟨hs.1, fun h => ?_⟩
    have hbd := rNum_bd r 8 hi.1
    have e : wI64 w (wrap64 (rNum r 8).1) = wNum w (rNum r 8).1 8 := by
      unfold wI64 wNum
      rw [if_pos hbd, u64_back _ hbd.1 (by have := hbd.2; simpa using this)]
    dsimp only
    rw [e]
    exact hs.2 h
  rw [if_neg k4]
  by_cases k5 : o.kind = 5
  · rw [if_pos k5]; unfold wOp; rw [if_neg k1, if_neg k2, if_neg k3, if_neg k4, if_pos k5]
    dsimp only
    unfold rBool
    by_cases c : r.2 = 0 ∧ 1 < r.1.headD 0
    · rw [if_pos c]
      exact ⟨hi.1, fun h => absurd h (show ¬ ((20 : Int) = 0) by decide)⟩
    · rw [if_neg c]
      have hs := num_step b r w 1 hi
      refine ⟨hs.1, fun h => ?_⟩
      obtain ⟨h1, h2, h3, h4⟩ := rNum_yes r 1 h
      have e : (rNum r 1).1 = 0 ∨ (rNum r 1).1 = 1 := by
        rw [h3]
        obtain ⟨rl, rf⟩ := r
        cases rl with
        | nil => simp at h2
        | cons x l =>
          have hx := hi.1 x (by simp)
          simp only [List.headD_cons] at c
          have : numV ((x :: l).take 1) = x := by simp [numV]
          dsimp only
          rw [this]
          dsimp only at h1
          omega
      have e2 : (if ((rNum r 1).1 == 1) = true then (1 : Int) else 0) = (rNum r 1).1 := by
        rcases e with e | e <;> rw [e] <;> rfl
      dsimp only
      rw [e2]
      exact hs.2 h
  rw [if_neg k5]
  by_cases k6 : o.kind = 6
  · rw [if_pos k6]; unfold wOp; rw [if_neg k1, if_neg k2, if_neg k3, if_neg k4, if_neg k5, if_pos k6]
    refine ⟨(rTake_ok r o.n hi.1).2, fun h => ?_⟩
    dsimp only at h ⊢
    unfold rTake at h ⊢
    by_cases c : r.2 = 0 ∧ 0 ≤ o.n ∧ o.n ≤ r.1.length
    · rw [if_pos c] at h ⊢
      obtain ⟨e1, e2⟩ := hi.2 c.1
      unfold wPut
      rw [if_pos e1]
      exact ⟨rfl, by dsimp only at e2 ⊢; rw [← e2, List.append_assoc, List.take_append_drop]⟩
    · rw [if_neg c] at h
      dsimp only at h
      split at h
      · omega
      · contradiction
  rw [if_neg k6]
  by_cases k7 : o.kind = 7
  · rw [if_pos k7]; unfold wOp; rw [if_neg k1, if_neg k2, if_neg k3, if_neg k4, if_neg k5, if_neg k6, if_pos k7]
    refine ⟨rList_ok r o.most hi.1, fun h => ?_⟩
    dsimp only at h ⊢
    have h0 : r.2 = 0 := by
      unfold rList at h
      by_cases c : r.2 = 0
      · exact c
      · rw [if_neg c] at h; exact absurd h c
    obtain ⟨e1, e2⟩ := hi.2 h0
    obtain ⟨l, rest, q1, q2, q3, q4, q5, q6⟩ := rList_yes r o.most h0 hi.1 h
    obtain ⟨ws, wf⟩ := w
    dsimp only at e1 e2
    subst e1
    rw [q1]
    exact ⟨(q6 ws).1, by rw [(q6 ws).2]; exact e2⟩
  rw [if_neg k7]
  unfold wOp
  rw [if_neg k1, if_neg k2, if_neg k3, if_neg k4, if_neg k5, if_neg k6, if_neg k7]
  exact hi
theorem rOp_len (s : List Int × Int) (o : OpL) : (rOp s o).2.1.length ≤ s.1.length := by
  have h1 := rNum_len s 1
  have h2 := rNum_len s 2
  have h3 := rNum_len s 4
  have h4 := rNum_len s 8
  have h6 := (rTake_len s o.n).1
  have h7 := rList_len s o.most
  have h5 : (rBool s).2.1.length ≤ s.1.length := by unfold rBool; split; exact Nat.le_refl _; exact h1
  unfold rOp
  by_cases k1 : o.kind = 1
  · rw [if_pos k1]; exact h1
  rw [if_neg k1]
  by_cases k2 : o.kind = 2
  · rw [if_pos k2]; exact h2
  rw [if_neg k2]
  by_cases k3 : o.kind = 3
  · rw [if_pos k3]; exact h3
  rw [if_neg k3]
  by_cases k4 : o.kind = 4
  · rw [if_pos k4]; exact h4
  rw [if_neg k4]
  by_cases k5 : o.kind = 5
  · rw [if_pos k5]; exact h5
  rw [if_neg k5]
  by_cases k6 : o.kind = 6
  · rw [if_pos k6]; exact h6
  rw [if_neg k6]
  by_cases k7 : o.kind = 7
  · rw [if_pos k7]; dsimp only; omega
  rw [if_neg k7]
  exact Nat.le_refl _
theorem rTake_sum (s : List Int × Int) (n : Int) : (rTake s n).1.length + (rTake s n).2.1.length ≤ s.1.length := by
  unfold rTake
  split
  · simp; omega
  · simp
theorem rNum_sum (s : List Int × Int) (n : Nat) : (rNum s n).2.1.length ≤ s.1.length := rNum_len s n
/-- What both hold together grows by eight a call. -/
theorem ag_len (st : (List Int × Int) × (List Int × Int)) (o : OpL) : (agStep st o).2.1.length + (agStep st o).1.1.length ≤ st.2.1.length + st.1.1.length + 8 := by
  obtain ⟨r, w⟩ := st
  unfold agStep
  dsimp only
  have l1 := rNum_len r 1
  have l2 := rNum_len r 2
  have l3 := rNum_len r 4
  have l4 := rNum_len r 8
  have l6 := rTake_sum r o.n
  have l7 := rList_len r o.most
  have l5 : (rBool r).2.1.length ≤ r.1.length := by unfold rBool; split; exact Nat.le_refl _; exact l1
  unfold rOp
  by_cases k1 : o.kind = 1
  · rw [if_pos k1]; unfold wOp; rw [if_pos k1]
    have := wNum_len w (rNum r 1).1 1
    dsimp only; omega
  rw [if_neg k1]
  by_cases k2 : o.kind = 2
  · rw [if_pos k2]; unfold wOp; rw [if_neg k1, if_pos k2]
    have := wNum_len w (rNum r 2).1 2
    dsimp only; omega
  rw [if_neg k2]
  by_cases k3 : o.kind = 3
  · rw [if_pos k3]; unfold wOp; rw [if_neg k1, if_neg k2, if_pos k3]
    have := wNum_len w (rNum r 4).1 4
    dsimp only; omega
  rw [if_neg k3]
  by_cases k4 : o.kind = 4
  · rw [if_pos k4]; unfold wOp; rw [if_neg k1, if_neg k2, if_neg k3, if_pos k4]
    have := wI64_len w (wrap64 (rNum r 8).1)
    dsimp only; omega
  rw [if_neg k4]
  by_cases k5 : o.kind = 5
  · rw [if_pos k5]; unfold wOp; rw [if_neg k1, if_neg k2, if_neg k3, if_neg k4, if_pos k5]
    have := wNum_len w (if (rBool r).1 = true then 1 else 0) 1
    dsimp only; omega
  rw [if_neg k5]
  by_cases k6 : o.kind = 6
  · rw [if_pos k6]; unfold wOp; rw [if_neg k1, if_neg k2, if_neg k3, if_neg k4, if_neg k5, if_pos k6]
    have := wPut_len w (rTake r o.n).1
    dsimp only; omega
  rw [if_neg k6]
  by_cases k7 : o.kind = 7
  · rw [if_pos k7]; unfold wOp; rw [if_neg k1, if_neg k2, if_neg k3, if_neg k4, if_neg k5, if_neg k6, if_pos k7]
    have := wList_len w (rList r o.most).1 o.most
    dsimp only; omega
  rw [if_neg k7]
  unfold wOp
  rw [if_neg k1, if_neg k2, if_neg k3, if_neg k4, if_neg k5, if_neg k6, if_neg k7]
  dsimp only; omega
end Go.Proofs.Ytceeoifbimlkdaa.B
