/- Proved, plainly: what is written within its bounds is read again by the same calls; of a proper beginning a fault is left. No program's step in it. -/
import Derived.Test.YtceeoifbimlkdaaHAgainMath
namespace Go.Proofs.Ytceeoifbimlkdaa.B
open Go.RowKit Go.Proofs.YtceeoifbimlkdaaW.PrintWords Go.Proofs.YtceeoifbimlkdaaW.PrintLast Go.Proofs.YtceeoifbimlkdaaW.PrintMore

theorem and_i64 (n : Int) (m k : Nat) (hm : m = 2 ^ k - 1) (hk : k < 63) : Go.bits .and .i64 n (m : Int) = n % ((2 ^ k : Nat) : Int) := by
  have hlt : m < 2 ^ 64 := by have := Nat.pow_lt_pow_right (a := 2) (by decide) (show k < 64 by omega); omega
  have h2 : 2 ^ k ≤ 4611686018427387904 := by have := Nat.pow_le_pow_right (n := 2) (by decide) (show k ≤ 62 by omega); exact this
  have hpos : 0 < 2 ^ k := Nat.pow_pos (by decide)
  show IntKind.i64.wrap ((BitVec.ofInt 64 n &&& BitVec.ofInt 64 (m : Int)).toNat : Int) = _
  have e1 : (BitVec.ofInt 64 (m : Int)).toNat = m := by rw [BitVec.ofInt_natCast, BitVec.toNat_ofNat]; exact Nat.mod_eq_of_lt hlt
  have e2 : (BitVec.ofInt 64 n).toNat = (n % 18446744073709551616).toNat := by rw [BitVec.toNat_ofInt]; rfl
  rw [BitVec.toNat_and, e1, e2, hm, Nat.and_two_pow_sub_one_eq_mod]
  have hd : (2 ^ k : Nat) ∣ 18446744073709551616 := by
    have : (18446744073709551616 : Nat) = 2 ^ k * 2 ^ (64 - k) := by rw [← Nat.pow_add, show k + (64 - k) = 64 by omega]
    exact ⟨_, this⟩
  have e3 : (((n % 18446744073709551616).toNat % 2 ^ k : Nat) : Int) = n % ((2 ^ k : Nat) : Int) := by
    rw [Int.natCast_emod, Int.toNat_of_nonneg (Int.emod_nonneg _ (by decide))]
    exact Int.emod_emod_of_dvd n (Int.natCast_dvd_natCast.2 hd)
  rw [e3]
  have h5 := Int.emod_nonneg n (show ((2 ^ k : Nat) : Int) ≠ 0 by omega)
  have h6 := Int.emod_lt_of_pos n (show (0 : Int) < ((2 ^ k : Nat) : Int) by omega)
  exact IntWalk.i64_in _ (by omega)
theorem and8 (n : Int) : Go.bits .and .i64 n 255 = n % 256 := and_i64 n 255 8 rfl (by decide)
theorem and16 (n : Int) : Go.bits .and .i64 n 65535 = n % 65536 := and_i64 n 65535 16 rfl (by decide)
theorem and32 (n : Int) : Go.bits .and .i64 n 4294967295 = n % 4294967296 := and_i64 n 4294967295 32 rfl (by decide)
theorem and3 (n : Int) : Go.bits .and .i64 n 7 = n % 8 := and_i64 n 7 3 rfl (by decide)

/-- A call's numbers, made to fit. -/
def fit (o : OpL) : OpL :=
  if o.kind = 1 then { o with n := o.n % 256 } else if o.kind = 2 then { o with n := o.n % 65536 } else if o.kind = 3 then { o with n := o.n % 4294967296 } else
  if o.kind = 7 then { o with list := o.list.map (· % 65536), most := (o.list.length : Int) + o.most % 8 } else o
/-- It fits. -/
structure Fit (o : OpL) : Prop where
  n1 : o.kind = 1 → 0 ≤ o.n ∧ o.n < 256
  n2 : o.kind = 2 → 0 ≤ o.n ∧ o.n < 65536
  n3 : o.kind = 3 → 0 ≤ o.n ∧ o.n < 4294967296
  wd : -9223372036854775808 ≤ o.wide ∧ o.wide < 9223372036854775808
  bs : BytesOk o.bytes
  ls : o.kind = 7 → (∀ x ∈ o.list, 0 ≤ x ∧ x < 65536) ∧ (o.list.length : Int) ≤ o.most
  ll : o.list.length < 4294967296
theorem fit_fit (o : OpL) (hw : -9223372036854775808 ≤ o.wide ∧ o.wide < 9223372036854775808) (hb : BytesOk o.bytes) (hl : o.list.length < 4294967296) : Fit (fit o) := by
  unfold fit
  split
  · rename_i k
    exact ⟨fun _ => by dsimp only; omega, fun h => by dsimp only at h; omega, fun h => by dsimp only at h; omega, hw, hb, fun h => by dsimp only at h; omega, hl⟩
  split
  · rename_i k1 k
    exact ⟨fun h => by dsimp only at h; omega, fun _ => by dsimp only; omega, fun h => by dsimp only at h; omega, hw, hb, fun h => by dsimp only at h; omega, hl⟩
  split
  · rename_i k1 k2 k
    exact ⟨fun h => by dsimp only at h; omega, fun h => by dsimp only at h; omega, fun _ => by dsimp only; omega, hw, hb, fun h => by dsimp only at h; omega, hl⟩
  split
  · rename_i k1 k2 k3 k
    refine ⟨fun h => by dsimp only at h; omega, fun h => by dsimp only at h; omega, fun h => by dsimp only at h; omega, hw, hb, fun _ => ⟨fun x hx => ?_, ?_⟩, by simpa using hl⟩
    · obtain ⟨y, _, rfl⟩ := List.mem_map.1 hx
      omega
    · dsimp only; rw [List.length_map]; omega
  · rename_i k1 k2 k3 k7
    exact ⟨fun h => absurd h k1, fun h => absurd h k2, fun h => absurd h k3, hw, hb, fun h => absurd h k7, hl⟩
theorem fit_len (o : OpL) : (fit o).list.length = o.list.length ∧ (fit o).bytes = o.bytes := by
  unfold fit
  split
  · exact ⟨rfl, rfl⟩
  split
  · exact ⟨rfl, rfl⟩
  split
  · exact ⟨rfl, rfl⟩
  split
  · exact ⟨List.length_map _, rfl⟩
  · exact ⟨rfl, rfl⟩

/-! ### The bytes of a call -/
def listB (l : List Int) : List Int := l.flatMap fun x => bigL x 2
def encO (o : OpL) : List Int :=
  if o.kind = 1 then bigL o.n 1 else if o.kind = 2 then bigL o.n 2 else if o.kind = 3 then bigL o.n 4 else if o.kind = 4 then bigL (IntKind.u64.wrap o.wide) 8 else
  if o.kind = 5 then bigL (if o.flag = true then 1 else 0) 1 else if o.kind = 6 then o.bytes else if o.kind = 7 then bigL o.list.length 4 ++ listB o.list else []
theorem bigL_len : ∀ (n : Nat) (x : Int), (bigL x n).length = n
  | 0, x => rfl
  | n + 1, x => by
    show (bigL (x / 256) n ++ [x % 256]).length = n + 1
    rw [List.length_append, bigL_len n]; rfl
theorem bigL_ok : ∀ (n : Nat) (x : Int), BytesOk (bigL x n)
  | 0, x => fun y hy => by cases hy
  | n + 1, x => by
    intro y hy
    have hy : y ∈ bigL (x / 256) n ++ [x % 256] := hy
    rcases List.mem_append.1 hy with h | h
    · exact bigL_ok n _ y h
    · have : y = x % 256 := by simpa using h
      omega
theorem listB_len (l : List Int) : (listB l).length = 2 * l.length := by
  induction l with
  | nil => rfl
  | cons x l ih =>
    show (bigL x 2 ++ listB l).length = _
    rw [List.length_append, bigL_len, ih, List.length_cons]; omega
theorem encO_ok (o : OpL) (h : BytesOk o.bytes) : BytesOk (encO o) := by
  unfold encO
  repeat' split
  all_goals first | exact bigL_ok _ _ | exact h | skip
  · intro y hy
    rcases List.mem_append.1 hy with h1 | h1
    · exact bigL_ok _ _ y h1
    · obtain ⟨x, _, hx⟩ := List.mem_flatMap.1 h1
      exact bigL_ok _ _ y hx
  · intro y hy; cases hy
theorem encO_len (o : OpL) : (encO o).length ≤ 8 + o.bytes.length + 2 * o.list.length := by
  unfold encO
  repeat' split
  all_goals first | (rw [bigL_len]; omega) | skip
  · omega
  · rw [List.length_append, bigL_len, listB_len]; omega
  · simp
theorem wNum_yes (ws : List Int) (x : Int) (n : Nat) (h : 0 ≤ x ∧ x < 256 ^ n) : wNum (ws, 0) x n = (ws ++ bigL x n, 0) := by
  unfold wNum wPut
  rw [if_pos h, if_pos rfl]
theorem wFold_yes : ∀ (l : List Int) (ws : List Int), (∀ x ∈ l, 0 ≤ x ∧ x < 65536) → l.foldl (fun s x => wNum s x 2) (ws, 0) = (ws ++ listB l, 0)
  | [], ws, _ => by simp [listB]
  | x :: l, ws, h => by
    rw [List.foldl_cons, wNum_yes ws x 2 (by have := h x (by simp); simpa using this), wFold_yes l _ fun y hy => h y (by simp [hy]), List.append_assoc]
    rfl
theorem wOp_yes (o : OpL) (ws : List Int) (h : Fit o) : wOp (ws, 0) o = (ws ++ encO o, 0) := by
  unfold wOp encO
  by_cases k1 : o.kind = 1
  · rw [if_pos k1, if_pos k1]; exact wNum_yes _ _ _ (by simpa using h.n1 k1)
  rw [if_neg k1, if_neg k1]
  by_cases k2 : o.kind = 2
  · rw [if_pos k2, if_pos k2]; exact wNum_yes _ _ _ (by simpa using h.n2 k2)
  rw [if_neg k2, if_neg k2]
  by_cases k3 : o.kind = 3
  · rw [if_pos k3, if_pos k3]; exact wNum_yes _ _ _ (by simpa using h.n3 k3)
  rw [if_neg k3, if_neg k3]
  by_cases k4 : o.kind = 4
  · rw [if_pos k4, if_pos k4]; unfold wI64 wPut; rw [if_pos rfl]
  rw [if_neg k4, if_neg k4]
  by_cases k5 : o.kind = 5
  · rw [if_pos k5, if_pos k5]; exact wNum_yes _ _ _ (by split <;> simp)
  rw [if_neg k5, if_neg k5]
  by_cases k6 : o.kind = 6
  · rw [if_pos k6, if_pos k6]; unfold wPut; rw [if_pos rfl]
  rw [if_neg k6, if_neg k6]
  by_cases k7 : o.kind = 7
  · rw [if_pos k7, if_pos k7]
    obtain ⟨h1, h2⟩ := h.ls k7
    unfold wList
    rw [if_neg (by omega)]
    unfold wPut
    rw [if_pos rfl, wFold_yes _ _ h1, List.append_assoc]
  rw [if_neg k7, if_neg k7, List.append_nil]

/-! ### The same calls on a Reader -/
/-- What a call on the Reader answers, and the state behind it. -/
def bOp (s : List Int × Int) (o : OpL) : Bool × List Int × Int :=
  if o.kind = 1 then ((rNum s 1).1 == o.n, (rNum s 1).2) else if o.kind = 2 then ((rNum s 2).1 == o.n, (rNum s 2).2) else if o.kind = 3 then ((rNum s 4).1 == o.n, (rNum s 4).2) else
  if o.kind = 4 then (wrap64 (rNum s 8).1 == o.wide, (rNum s 8).2) else if o.kind = 5 then ((rBool s).1 == o.flag, (rBool s).2) else if o.kind = 6 then (decide ((rTake s o.bytes.length).1 = o.bytes), (rTake s o.bytes.length).2) else
  if o.kind = 7 then (decide ((rList s o.most).1 = o.list), (rList s o.most).2) else (true, s)
theorem rNum_at (x : Int) (n : Nat) (t : List Int) (h : 0 ≤ x ∧ x < 256 ^ n) : rNum (bigL x n ++ t, 0) n = (x, t, 0) := by
  unfold rNum rTake
  rw [if_pos ⟨rfl, by omega, by dsimp only; rw [List.length_append, bigL_len]; omega⟩, Int.toNat_natCast, List.take_left' (bigL_len n x), List.drop_left' (bigL_len n x), numV_bigL n x h.1 h.2]
theorem rNum_short (t : List Int) (n : Nat) (h : t.length < n) : rNum (t, 0) n = (0, t, 20) := by
  unfold rNum rTake
  rw [if_neg (by dsimp only; omega)]; rfl
theorem rGets_at : ∀ (l : List Int) (t acc : List Int), (∀ x ∈ l, 0 ≤ x ∧ x < 65536) → rGets l.length (listB l ++ t, 0) acc = (acc ++ l, t, 0)
  | [], t, acc, _ => by simp [rGets, listB]
  | x :: l, t, acc, h => by
    have e : rNum (listB (x :: l) ++ t, 0) 2 = (x, listB l ++ t, 0) := by
      show rNum ((bigL x 2 ++ listB l) ++ t, 0) 2 = _
      rw [List.append_assoc]
      exact rNum_at x 2 _ (by have := h x (by simp); simpa using this)
    rw [List.length_cons]
    unfold rGets
    rw [e]
    dsimp only
    rw [if_pos rfl, rGets_at l t _ fun y hy => h y (by simp [hy]), List.append_assoc]; rfl
theorem rGets_short : ∀ (n : Nat) (t acc : List Int), t.length < 2 * n → (rGets n (t, 0) acc).2.2 = 20
  | 0, t, acc, h => by omega
  | n + 1, t, acc, h => by
    unfold rGets
    by_cases c : 2 ≤ t.length
    · have e : rNum (t, 0) 2 = (numV (t.take 2), t.drop 2, 0) := by
        unfold rNum rTake
        rw [if_pos ⟨rfl, by omega, by dsimp only; omega⟩]; rfl
      rw [e]
      dsimp only
      rw [if_pos rfl]
      exact rGets_short n _ _ (by rw [List.length_drop]; omega)
    · rw [rNum_short t 2 (by omega)]
      dsimp only
      rw [if_neg (by decide)]
theorem rList_at (l t : List Int) (most : Int) (h : ∀ x ∈ l, 0 ≤ x ∧ x < 65536) (hm : (l.length : Int) ≤ most) (hl : l.length < 4294967296) : rList (bigL l.length 4 ++ listB l ++ t, 0) most = (l, t, 0) := by
  unfold rList
  rw [if_pos rfl, List.append_assoc, rNum_at (l.length : Int) 4 _ ⟨by omega, by simp; omega⟩]
  dsimp only
  rw [if_pos rfl, if_neg (by omega), if_neg (by rw [List.length_append, listB_len]; omega), Int.toNat_natCast, rGets_at l t [] h]; rfl
theorem u64_of (x : Int) (h : -9223372036854775808 ≤ x ∧ x < 9223372036854775808) : 0 ≤ IntKind.u64.wrap x ∧ IntKind.u64.wrap x < 256 ^ 8 ∧ wrap64 (IntKind.u64.wrap x) = x := by
  have e : IntKind.u64.wrap x = x % 18446744073709551616 := by simp [IntKind.wrap, go_sem, show IntKind.u64.signed = false from rfl]
  rw [e]
  refine ⟨by omega, ?_, ?_⟩
  · show _ < (18446744073709551616 : Int); omega
  · unfold wrap64; omega
/-- What was written is read again. -/
theorem bOp_yes (o : OpL) (t : List Int) (h : Fit o) : bOp (encO o ++ t, 0) o = (true, t, 0) := by
  unfold bOp encO
  by_cases k1 : o.kind = 1
  · rw [if_pos k1, if_pos k1, rNum_at _ _ _ (by simpa using h.n1 k1)]; simp
  rw [if_neg k1, if_neg k1]
  by_cases k2 : o.kind = 2
  · rw [if_pos k2, if_pos k2, rNum_at _ _ _ (by simpa using h.n2 k2)]; simp
  rw [if_neg k2, if_neg k2]
  by_cases k3 : o.kind = 3
  · rw [if_pos k3, if_pos k3, rNum_at _ _ _ (by simpa using h.n3 k3)]; simp
  rw [if_neg k3, if_neg k3]
  by_cases k4 : o.kind = 4
  · have hu := u64_of o.wide h.wd
    rw [if_pos k4, if_pos k4, rNum_at _ _ _ ⟨hu.1, hu.2.1⟩]
    dsimp only
    rw [hu.2.2]; simp
  rw [if_neg k4, if_neg k4]
  by_cases k5 : o.kind = 5
  · rw [if_pos k5, if_pos k5]
    have e : rNum (bigL (if o.flag = true then 1 else 0) 1 ++ t, 0) 1 = (if o.flag = true then 1 else 0, t, 0) := rNum_at _ 1 t (by split <;> simp)
    unfold rBool
    rw [e]
    have hd : ¬ ((bigL (if o.flag = true then 1 else 0) 1 ++ t, (0 : Int)).2 = 0 ∧ 1 < (bigL (if o.flag = true then 1 else 0) 1 ++ t, (0 : Int)).1.headD 0) := by
      cases o.flag <;> simp [bigL]
    rw [if_neg hd]
    cases o.flag <;> simp
  rw [if_neg k5, if_neg k5]
  by_cases k6 : o.kind = 6
  · rw [if_pos k6, if_pos k6]
    have e : rTake (o.bytes ++ t, 0) o.bytes.length = (o.bytes, t, 0) := by
      unfold rTake
      rw [if_pos ⟨rfl, by omega, by dsimp only; rw [List.length_append]; omega⟩, Int.toNat_natCast, List.take_left' rfl, List.drop_left' rfl]
    rw [e]; simp
  rw [if_neg k6, if_neg k6]
  by_cases k7 : o.kind = 7
  · rw [if_pos k7, if_pos k7]
    obtain ⟨h1, h2⟩ := h.ls k7
    rw [rList_at _ _ _ h1 h2 h.ll]; simp
  rw [if_neg k7, if_neg k7]; rfl
/-- Of a proper beginning of a call's bytes a fault is left. -/
theorem bOp_short (o : OpL) (t : List Int) (h : Fit o) (m : Nat) (hm : m < (encO o).length) (ht : t = (encO o).take m) : (bOp (t, 0) o).2.2 = 20 := by
  have hl : t.length = m := by rw [ht, List.length_take]; omega
  unfold encO at hm ht
  unfold bOp
  by_cases k1 : o.kind = 1
  · rw [if_pos k1] at hm ⊢; rw [bigL_len] at hm; rw [rNum_short t 1 (by omega)]
  rw [if_neg k1] at hm ht ⊢
  by_cases k2 : o.kind = 2
  · rw [if_pos k2] at hm ⊢; rw [bigL_len] at hm; rw [rNum_short t 2 (by omega)]
  rw [if_neg k2] at hm ht ⊢
  by_cases k3 : o.kind = 3
  · rw [if_pos k3] at hm ⊢; rw [bigL_len] at hm; rw [rNum_short t 4 (by omega)]
  rw [if_neg k3] at hm ht ⊢
  by_cases k4 : o.kind = 4
  · rw [if_pos k4] at hm ⊢; rw [bigL_len] at hm; rw [rNum_short t 8 (by omega)]
  rw [if_neg k4] at hm ht ⊢
  by_cases k5 : o.kind = 5
  · rw [if_pos k5] at hm ⊢
    rw [bigL_len] at hm
    have : t = [] := List.length_eq_zero_iff.1 (by omega)
    subst this
    unfold rBool
    rw [if_neg (by simp), rNum_short [] 1 (by simp)]
  rw [if_neg k5] at hm ht ⊢
  by_cases k6 : o.kind = 6
  · rw [if_pos k6] at hm ⊢
    unfold rTake
    rw [if_neg (by dsimp only; omega)]; rfl
  rw [if_neg k6] at hm ht ⊢
  by_cases k7 : o.kind = 7
  · rw [if_pos k7] at hm ht ⊢
    obtain ⟨h1, h2⟩ := h.ls k7
    rw [List.length_append, bigL_len, listB_len] at hm
    unfold rList
    rw [if_pos rfl]
    by_cases c : m < 4
    · rw [rNum_short t 4 (by omega)]
      dsimp only
      rw [if_neg (by decide)]
    · have e : t = bigL o.list.length 4 ++ (listB o.list).take (m - 4) := by
        rw [ht, List.take_append, bigL_len, List.take_of_length_le (by rw [bigL_len]; omega)]
      have hlt : ((listB o.list).take (m - 4)).length < 2 * o.list.length := by
        rw [List.length_take, listB_len]; omega
      generalize (listB o.list).take (m - 4) = q at e hlt
      rw [e, rNum_at (o.list.length : Int) 4 _ ⟨by omega, by have := h.ll; simp; omega⟩]
      dsimp only
      rw [if_pos rfl, if_neg (by omega)]
      by_cases c2 : (q.length : Int) < (o.list.length : Int)
      · rw [if_pos c2]
      · rw [if_neg c2, Int.toNat_natCast]
        exact rGets_short _ _ _ hlt
  rw [if_neg k7] at hm
  simp at hm
theorem rNum_bad (t : List Int) (n : Nat) : (rNum (t, 20) n).2.2 = 20 := by rw [rNum_stick (t, 20) n (show ¬ ((20 : Int) = 0) by decide)]
/-- A fault stays. -/
theorem bOp_bad (o : OpL) (t : List Int) : (bOp (t, 20) o).2.2 = 20 := by
  unfold bOp
  by_cases k1 : o.kind = 1
  · rw [if_pos k1]; exact rNum_bad t 1
  rw [if_neg k1]
  by_cases k2 : o.kind = 2
  · rw [if_pos k2]; exact rNum_bad t 2
  rw [if_neg k2]
  by_cases k3 : o.kind = 3
  · rw [if_pos k3]; exact rNum_bad t 4
  rw [if_neg k3]
  by_cases k4 : o.kind = 4
  · rw [if_pos k4]; exact rNum_bad t 8
  rw [if_neg k4]
  by_cases k5 : o.kind = 5
  · rw [if_pos k5]; unfold rBool; rw [if_neg (by simp)]; exact rNum_bad t 1
  rw [if_neg k5]
  by_cases k6 : o.kind = 6
  · rw [if_pos k6]; unfold rTake; rw [if_neg (by simp)]; rfl
  rw [if_neg k6]
  by_cases k7 : o.kind = 7
  · rw [if_pos k7]; unfold rList; rw [if_neg (show ¬ ((20 : Int) = 0) by decide)]
  rw [if_neg k7]
theorem bOp_len (s : List Int × Int) (o : OpL) : (bOp s o).2.1.length ≤ s.1.length := by
  have h1 := rNum_len s 1
  have h2 := rNum_len s 2
  have h3 := rNum_len s 4
  have h4 := rNum_len s 8
  have h6 := (rTake_len s o.bytes.length).1
  have h7 := rList_len s o.most
  have h5 : (rBool s).2.1.length ≤ s.1.length := by unfold rBool; split; exact Nat.le_refl _; exact h1
  unfold bOp
  repeat' split
  all_goals first | assumption | (dsimp only; omega)
theorem bOp_ok (s : List Int × Int) (o : OpL) (h : BytesOk s.1) : BytesOk (bOp s o).2.1 := by
  have h1 := rNum_ok s 1 h
  have h2 := rNum_ok s 2 h
  have h3 := rNum_ok s 4 h
  have h4 := rNum_ok s 8 h
  have h6 := (rTake_ok s o.bytes.length h).2
  have h7 := rList_ok s o.most h
  have h5 : BytesOk (rBool s).2.1 := by unfold rBool; split; exact h; exact h1
  unfold bOp
  repeat' split
  all_goals first | assumption | exact h
/-- All bytes of a list of calls. -/
def allB (ops : List OpL) : List Int := ops.flatMap encO
theorem wAll_yes : ∀ (ops : List OpL) (ws : List Int), (∀ o ∈ ops, Fit o) → ops.foldl wOp (ws, 0) = (ws ++ allB ops, 0)
  | [], ws, _ => by simp [allB]
  | o :: ops, ws, h => by
    rw [List.foldl_cons, wOp_yes o ws (h o (by simp)), wAll_yes ops _ fun y hy => h y (by simp [hy]), List.append_assoc]; rfl
/-- The state that the calls leave. -/
def bAll (ops : List OpL) (s : List Int × Int) : List Int × Int := ops.foldl (fun s o => (bOp s o).2) s
theorem bAll_bad : ∀ (ops : List OpL) (t : List Int), (bAll ops (t, 20)).2 = 20
  | [], t => rfl
  | o :: ops, t => by
    have h := bOp_bad o t
    show (bAll ops (bOp (t, 20) o).2).2 = 20
    generalize (bOp (t, 20) o).2 = s at h
    obtain ⟨u, f⟩ := s
    dsimp only at h
    subst h
    exact bAll_bad ops u
theorem bAll_short : ∀ (ops : List OpL), (∀ o ∈ ops, Fit o) → ∀ m, m < (allB ops).length → (bAll ops ((allB ops).take m, 0)).2 = 20
  | [], _, m, hm => by simp [allB] at hm
  | o :: ops, h, m, hm => by
    have ho := h o (by simp)
    have e : allB (o :: ops) = encO o ++ allB ops := rfl
    rw [e, List.length_append] at hm
    show (bAll ops (bOp ((allB (o :: ops)).take m, 0) o).2).2 = 20
    rw [e, List.take_append]
    by_cases c : m < (encO o).length
    · rw [show m - (encO o).length = 0 by omega, List.take_zero, List.append_nil]
      have hs := bOp_short o _ ho m c rfl
      generalize (bOp ((encO o).take m, 0) o).2 = s at hs
      obtain ⟨u, f⟩ := s
      dsimp only at hs
      subst hs
      exact bAll_bad ops u
    · rw [List.take_of_length_le (by omega), bOp_yes o _ ho]
      exact bAll_short ops (fun y hy => h y (by simp [hy])) _ (by omega)
end Go.Proofs.Ytceeoifbimlkdaa.B
