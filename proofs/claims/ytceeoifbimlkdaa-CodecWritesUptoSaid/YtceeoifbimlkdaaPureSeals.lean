/- Proved, plainly: the reference's check sum, seal and unsealing are the program's; what turned answers. Conditions: bytes are bytes; bounds of the lengths. -/
import Derived.Test.YtceeoifbimlkdaaPureCodec
import Derived.Test.YtceeoifbimlkdaaDx1
namespace Go.Proofs.Ytceeoifbimlkdaa.Pure
open Go.Proofs.Ytceeoifbimlkdaa.B
open Go.RowKit Go.Proofs.YtceeoifbimlkdaaW.PrintWords Go.Proofs.YtceeoifbimlkdaaW.PrintLast Go.Proofs.YtceeoifbimlkdaaW.PrintMore

/-! ## The check sum, bit by bit -/
def refStep (s e : Nat) : Nat := if s % 2 = e % 2 then s / 2 else (s / 2) ^^^ 3988292384
theorem refStep_lt (s e : Nat) (h : s < 4294967296) : refStep s e < 4294967296 := by
  unfold refStep
  split
  · omega
  · exact Nat.xor_lt_two_pow (n := 32) (by omega) (by omega)
def refRun : Nat → Nat → Nat → Nat
  | 0, _, s => s
  | d + 1, e, s => refRun d (e / 2) (refStep s e)
theorem refRun_lt : ∀ (d e s : Nat), s < 4294967296 → refRun d e s < 4294967296
  | 0, _, _, h => h
  | d + 1, e, s, h => refRun_lt d _ _ (refStep_lt s e h)
theorem xor_half (a b : Nat) : (a ^^^ b) / 2 = (a / 2) ^^^ (b / 2) := by
  refine Nat.eq_of_testBit_eq fun i => ?_
  rw [Nat.testBit_div_two, Nat.testBit_xor, Nat.testBit_xor, Nat.testBit_div_two, Nat.testBit_div_two]
theorem xor_odd (a b : Nat) : (a ^^^ b) % 2 = if a % 2 = b % 2 then 0 else 1 := by
  have h : (a ^^^ b).testBit 0 = ((a.testBit 0) ^^ (b.testBit 0)) := Nat.testBit_xor ..
  simp only [Nat.testBit_zero] at h
  have h0 := Nat.mod_two_eq_zero_or_one (a ^^^ b)
  rcases Nat.mod_two_eq_zero_or_one a with e1 | e1 <;> rcases Nat.mod_two_eq_zero_or_one b with e2 | e2 <;> rw [e1, e2] at h <;> rw [e1, e2] <;> rcases h0 with h0 | h0 <;> rw [h0] at h ⊢ <;> simp at h ⊢
theorem round_ref (s e : Nat) : Crc.round (s ^^^ e) = refStep s e ^^^ (e / 2) := by
  unfold Crc.round refStep
  rw [xor_half, xor_odd]
  by_cases h : s % 2 = e % 2
  · rw [if_pos h, if_pos h]; simp
  · rw [if_neg h, if_neg h, Nat.mul_one, Nat.xor_assoc, Nat.xor_comm (e / 2), ← Nat.xor_assoc]
theorem rounds_ref : ∀ (d s e : Nat), Crc.rounds d (s ^^^ e) = refRun d e s ^^^ (e / 2 ^ d)
  | 0, s, e => by simp [Crc.rounds, refRun]
  | d + 1, s, e => by
    unfold Crc.rounds refRun
    rw [round_ref, rounds_ref d, Nat.div_div_eq_div_mul, ← Nat.pow_succ']
theorem byte_ref (s c : Nat) (hc : c < 256) : Crc.byte s c = refRun 8 c s := by
  unfold Crc.byte
  rw [rounds_ref, Nat.div_eq_of_lt (by omega)]; simp
theorem ref_l1 (l : List Int) (i c : Nat) (hi : i < l.length) (_hil : l.length ≤ 281474976710656) (hc : l[i] = (c : Int)) (hc2 : c < 256) : ∀ (d j k s : Nat), j + d = 8 → s < 4294967296 →
    bulkheadref02_Sum.l1 (k + d + 1) l (s : Int) (i : Int) (j : Int) = bulkheadref02_Sum.l0 k l ((refRun d (c / 2 ^ j) s : Nat) : Int) (wrap64 ((i : Int) + 1)) := by
  intro d
  induction d with
  | zero =>
    intro j k s hj hs
    simp only [bulkheadref02_Sum.l1]
    rw [if_neg (by omega)]
    rfl
  | succ d ih =>
    intro j k s hj hs
    obtain ⟨K, hK⟩ : ∃ K, k + d + 1 = K := ⟨_, rfl⟩
    rw [show k + (d + 1) + 1 = K + 1 by omega]
    have e : rd l (i : Int) = (c : Int) := by rw [rd_at, List.getD_eq_getElem?_getD, List.getElem?_eq_getElem hi, hc]; rfl
    have e2 : shr .u8 (c : Int) (j : Int) = ((c / 2 ^ j : Nat) : Int) := by
      unfold shr
      rw [Int.toNat_natCast, Nat.min_eq_left (by show j ≤ 8; omega)]
      simp
    have hq : c / 2 ^ j < 256 := Nat.lt_of_le_of_lt (Nat.div_le_self _ _) hc2
    have e3 : Int.tmod (s : Int) 2 = ((s % 2 : Nat) : Int) := (Int.ofNat_tmod s 2).symm
    have e4 : (Int.tdiv (s : Int) 2) % 4294967296 = ((s / 2 : Nat) : Int) := by
      have : Int.tdiv (s : Int) 2 = ((s / 2 : Nat) : Int) := (Int.ofNat_tdiv s 2).symm
      rw [this]; omega
    have e5 : ((c / 2 ^ j : Nat) : Int) % 4294967296 % 2 = (((c / 2 ^ j) % 2 : Nat) : Int) := by
      generalize c / 2 ^ j = q at *
      omega
    have e6 : c / 2 ^ (j + 1) = c / 2 ^ j / 2 := by rw [Nat.pow_succ, Nat.div_div_eq_div_mul]
    simp only [bulkheadref02_Sum.l1]
    rw [← hK, if_pos (by omega), if_pos (by omega), if_pos (by omega), if_pos (by omega), e, e2, e3, e4, e5, wr (x := (j : Int) + 1) (by omega) (by omega), show (j : Int) + 1 = ((j + 1 : Nat) : Int) by omega]
    show _ = bulkheadref02_Sum.l0 k l ((refRun d (c / 2 ^ j / 2) (refStep s (c / 2 ^ j)) : Nat) : Int) _
    by_cases h : s % 2 = (c / 2 ^ j) % 2
    · rw [if_pos (by rw [h]), ih (j + 1) k (s / 2) (by omega) (by omega), e6]
      unfold refStep
      rw [if_pos h]
    · rw [if_neg (by omega), show (3988292384 : Int) = ((3988292384 : Nat) : Int) from rfl, xor32 _ _ (by omega) (by omega), ih (j + 1) k _ (by omega) (Nat.xor_lt_two_pow (n := 32) (by omega) (by omega)), e6]
      unfold refStep
      rw [if_neg h]
theorem not32 (s : Nat) (h : s < 4294967296) : 4294967295 - s = 4294967295 ^^^ s := by
  refine Nat.eq_of_testBit_eq fun i => ?_
  have h1 := Nat.testBit_two_pow_sub_succ (n := 32) (x := s) h i
  rw [show 2 ^ 32 - (s + 1) = 4294967295 - s by omega] at h1
  rw [h1, Nat.testBit_xor]
  have h2 : (4294967295 : Nat).testBit i = decide (i < 32) := Nat.testBit_two_pow_sub_one 32 i
  rw [h2]
  by_cases hi : i < 32
  · simp [hi]
  · have h32 : (2 : Nat) ^ 32 ≤ 2 ^ i := Nat.pow_le_pow_right (by decide) (by omega)
    have : s.testBit i = false := Nat.testBit_lt_two_pow (Nat.lt_of_lt_of_le h h32)
    simp [hi, this]
theorem ref_l0 (l : List Int) (hb : Bytes l) (hl : l.length ≤ 281474976710656) : ∀ (d i k s : Nat), i + d = l.length → s < 4294967296 → bulkheadref02_Sum.l0 (k + 10 * d + 1) l (s : Int) (i : Int) = some ((4294967295 ^^^ Crc.run s (toN (l.drop i)) : Nat) : Int) := by
  intro d
  induction d with
  | zero =>
    intro i k s hi hs
    simp only [bulkheadref02_Sum.l0]
    rw [if_neg (by omega), List.drop_of_length_le (by omega)]
    show some _ = some ((4294967295 ^^^ s : Nat) : Int)
    rw [← not32 s hs]
    congr 1
    omega
  | succ d ih =>
    intro i k s hi hs
    have hx := hb (l[i]'(by omega)) (List.getElem_mem _)
    obtain ⟨K, hK⟩ : ∃ K, k + 10 * d + 1 + 8 + 1 = K := ⟨_, rfl⟩
    rw [show k + 10 * (d + 1) + 1 = K + 1 by omega]
    simp only [bulkheadref02_Sum.l0]
    rw [← hK, if_pos (by omega)]
    obtain ⟨c, hc⟩ : ∃ c : Nat, l[i]'(by omega) = (c : Int) := ⟨(l[i]'(by omega)).toNat, by omega⟩
    have hc256 : c < 256 := by omega
    have h8 := ref_l1 l i c (by omega) hl hc hc256 8 0 (k + 10 * d + 1) s rfl hs
    rw [show ((0 : Nat) : Int) = 0 from rfl, Nat.pow_zero, Nat.div_one, ← byte_ref s c hc256] at h8
    rw [h8, wr (x := (i : Int) + 1) (by omega) (by omega), show (i : Int) + 1 = ((i + 1 : Nat) : Int) by omega, ih (i + 1) k _ (by omega) (Crc.byte_lt s c hs hc256)]
    rw [List.drop_eq_getElem_cons (show i < l.length by omega)]
    show _ = some ((4294967295 ^^^ Crc.run s ((l[i]'(by omega)).toNat :: toN (l.drop (i + 1))) : Nat) : Int)
    rw [hc, Int.toNat_natCast]
    rfl
theorem ref_sum_eq (l : List Int) (hb : Bytes l) (hl : l.length ≤ 281474976710656) (k : Nat) (hk : 10 * l.length + 1 ≤ k) : bulkheadref02_Sum.f k l = some ((sumN l : Nat) : Int) := by
  have := ref_l0 l hb hl l.length 0 (k - 10 * l.length - 1) 4294967295 (by omega) (by omega)
  rw [show k - 10 * l.length - 1 + 10 * l.length + 1 = k by omega, List.drop_zero] at this
  exact this

/-! ## Numbers, the seal -/
theorem number_eq (k : Nat) (n : Int) : bulkheadref02_Number.f (k + 5) n 4 = some [n / 16777216 % 256, n / 65536 % 256, n / 256 % 256, n % 256] := by
  unfold bulkheadref02_Number.f
  have s3 : shr .u64 n 24 = n / 16777216 := rfl
  have s2 : shr .u64 n 16 = n / 65536 := rfl
  have s1 : shr .u64 n 8 = n / 256 := rfl
  have s0 : shr .u64 n 0 = n / 1 := rfl
  have u0 : wrap64 (4 - 1) = 3 := by unfold wrap64; omega
  have w0 : wrap64 (8 * 3) = 24 := by unfold wrap64; omega
  have w1 : wrap64 (8 * 2) = 16 := by unfold wrap64; omega
  have w2 : wrap64 (8 * 1) = 8 := by unfold wrap64; omega
  have w3 : wrap64 (8 * 0) = 0 := by unfold wrap64; omega
  have v0 : wrap64 (3 - 1) = 2 := by unfold wrap64; omega
  have v1 : wrap64 (2 - 1) = 1 := by unfold wrap64; omega
  have v2 : wrap64 (1 - 1) = 0 := by unfold wrap64; omega
  have v3 : wrap64 (0 - 1) = -1 := by unfold wrap64; omega
  simp only [u0, bulkheadref02_Number.l0, w0, w1, w2, w3, v0, v1, v2, v3, s0, s1, s2, s3]
  simp
theorem ref_tail (k : Nat) (x : List Int) (s : Int) (hl : x.length ≤ 281474976710) : bulkheadref02_Seal.l0 (k + 5) x s 0 = some (x ++ tailL s, 0) := by
  have s3 : shr .u32 s 24 = s / 16777216 := rfl
  have s2 : shr .u32 s 16 = s / 65536 := rfl
  have s1 : shr .u32 s 8 = s / 256 := rfl
  have s0 : shr .u32 s 0 = s / 1 := rfl
  have w0 : wrap64 (8 * 3) = 24 := by unfold wrap64; omega
  have w1 : wrap64 (8 * 2) = 16 := by unfold wrap64; omega
  have w2 : wrap64 (8 * 1) = 8 := by unfold wrap64; omega
  have w3 : wrap64 (8 * 0) = 0 := by unfold wrap64; omega
  have v0 : wrap64 (0 + 1) = 1 := by unfold wrap64; omega
  have v1 : wrap64 (1 + 1) = 2 := by unfold wrap64; omega
  have v2 : wrap64 (2 + 1) = 3 := by unfold wrap64; omega
  have v3 : wrap64 (3 + 1) = 4 := by unfold wrap64; omega
  simp only [bulkheadref02_Seal.l0, w0, w1, w2, w3, v0, v1, v2, v3, s0, s1, s2, s3]
  unfold tailL
  rw [if_pos (by decide), if_pos (by decide), if_pos (by omega), if_pos (by decide), if_pos (by decide), if_pos (by simp; omega), if_pos (by decide), if_pos (by decide), if_pos (by simp; omega), if_pos (by decide), if_pos (by decide), if_pos (by simp; omega), if_neg (by decide)]
  simp
theorem ref_seal_eq (k : Nat) (kind : Int) (l : List Int) (hk : 0 ≤ kind ∧ kind < 256) (hb : Bytes l) (hl : l.length ≤ 4194304) (hkk : 10 * l.length + 200 ≤ k) : bulkheadref02_Seal.f k kind l = some (sealL kind l, 0) := by
  obtain ⟨k, rfl⟩ : ∃ m, k = m + 5 := ⟨k - 5, by omega⟩
  unfold bulkheadref02_Seal.f
  have u : IntKind.u64.wrap (l.length : Int) = (l.length : Int) := IntWalk.u64_in _ (by omega)
  rw [if_neg (by omega), u, number_eq k _]
  simp only [Option.bind_some]
  have hh : ([66, 75, kind, 1] : List Int) ++ [(l.length : Int) / 16777216 % 256, (l.length : Int) / 65536 % 256, (l.length : Int) / 256 % 256, (l.length : Int) % 256] = headL kind l.length := rfl
  rw [hh, if_pos (by simp), if_pos (by rw [headL_length]; omega), ref_sum_eq _ (bytes_append (headL_bytes _ _ hk) hb) (by rw [List.length_append, headL_length]; omega) _ (by rw [List.length_append, headL_length]; omega)]
  simp only [Option.bind_some]
  rw [ref_tail k _ _ (by rw [List.length_append, headL_length]; omega), List.append_assoc]
  rfl
/-- What both answer. -/
def sealP (kind : Int) (l : List Int) : List Int × Int := if l.length ≤ 4194304 then (sealL kind l, 0) else ([], 1)
theorem seal_both (k : Nat) (kind : Int) (l : List Int) (hk : 0 ≤ kind ∧ kind < 256) (hb : Bytes l) (hkk : 10 * l.length + 200 ≤ k) : codec_Seal.f k kind l = some (sealP kind l) ∧ bulkheadref02_Seal.f k kind l = some (sealP kind l) := by
  unfold sealP
  by_cases h : l.length ≤ 4194304
  · rw [if_pos h]
    exact ⟨seal_eq k kind l hk hb h hkk, ref_seal_eq k kind l hk hb h hkk⟩
  · rw [if_neg h]
    unfold codec_Seal.f bulkheadref02_Seal.f
    rw [if_pos (by omega), if_pos (by omega)]
    exact ⟨rfl, rfl⟩
theorem sealP_bytes (kind : Int) (l : List Int) (hk : 0 ≤ kind ∧ kind < 256) (hb : Bytes l) : Bytes (sealP kind l).1 := by
  unfold sealP
  by_cases h : l.length ≤ 4194304
  · rw [if_pos h]; exact sealL_bytes kind l hk hb
  · rw [if_neg h]; exact fun x hx => by cases hx
theorem sealP_length (kind : Int) (l : List Int) : (sealP kind l).1.length ≤ l.length + 12 := by
  unfold sealP
  by_cases h : l.length ≤ 4194304
  · rw [if_pos h, sealL_length]; exact Nat.le_refl _
  · rw [if_neg h]; exact Nat.zero_le _
/-! ## Unsealing -/
theorem ref_unseal_go (b inn again : List Int) (hlen : b.length ≤ 281474976710656) (hal : again.length = b.length) : ∀ (d i k : Nat), i + d = b.length → d < k → (∀ j, j < i → again[j]? = b[j]?) → bulkheadref02_Unseal.l0 k b inn again (i : Int) = some (if again = b then (inn, 0) else ([], 20)) := by
  intro d
  induction d with
  | zero =>
    intro i k hi hk hq
    obtain ⟨k, rfl⟩ : ∃ m, k = m + 1 := ⟨k - 1, by omega⟩
    simp only [bulkheadref02_Unseal.l0]
    have e : again = b := by
      refine List.ext_getElem? fun j => ?_
      by_cases hj : j < i
      · exact hq j hj
      · rw [List.getElem?_eq_none (by omega), List.getElem?_eq_none (by omega)]
    rw [if_neg (by omega), if_pos e]
  | succ d ih =>
    intro i k hi hk hq
    obtain ⟨k, rfl⟩ : ∃ m, k = m + 1 := ⟨k - 1, by omega⟩
    simp only [bulkheadref02_Unseal.l0]
    have e1 : rd again (i : Int) = again[i]'(by omega) := by rw [rd_at, List.getD_eq_getElem?_getD, List.getElem?_eq_getElem (by omega)]; rfl
    have e2 : rd b (i : Int) = b[i]'(by omega) := by rw [rd_at, List.getD_eq_getElem?_getD, List.getElem?_eq_getElem (by omega)]; rfl
    rw [if_pos (by omega), if_pos (by omega), if_pos (by omega), e1, e2]
    by_cases c : again[i]'(by omega) = b[i]'(by omega)
    · rw [if_pos c, wr (x := (i : Int) + 1) (by omega) (by omega), show (i : Int) + 1 = ((i + 1 : Nat) : Int) by omega]
      refine ih (i + 1) k (by omega) (by omega) fun j hj => ?_
      by_cases hj2 : j = i
      · subst hj2; rw [List.getElem?_eq_getElem (by omega), List.getElem?_eq_getElem (by omega), c]
      · exact hq j (by omega)
    · rw [if_neg c, if_neg]
      intro e
      exact c (by simp only [e])
/-- What both answer. -/
def unsealP (kind : Int) (b : List Int) : List Int × Int := if 4194316 < b.length then ([], 1) else if b.length < 12 then ([], 20) else if sealL kind (innerL b) = b then (innerL b, 0) else ([], 20)
theorem innerL_length (b : List Int) : (innerL b).length = b.length - 12 := by unfold innerL; rw [List.length_drop, List.length_take]; omega
theorem innerL_bytes (b : List Int) (hb : Bytes b) : Bytes (innerL b) := fun x hx => hb x (List.mem_of_mem_take (List.mem_of_mem_drop hx))
theorem unseal_both (k : Nat) (kind : Int) (b : List Int) (hk : 0 ≤ kind ∧ kind < 256) (hb : Bytes b) (hl : b.length ≤ 281474976710656) (hkk : 10 * b.length + 200 ≤ k) : codec_Unseal.f k kind b = some (unsealP kind b) ∧ bulkheadref02_Unseal.f k kind b = some (unsealP kind b) := by
  unfold unsealP
  by_cases h1 : 4194316 < b.length
  · rw [if_pos h1]
    unfold codec_Unseal.f bulkheadref02_Unseal.f
    rw [if_pos (by omega), if_pos (by omega)]
    exact ⟨rfl, rfl⟩
  · rw [if_neg h1]
    by_cases h2 : b.length < 12
    · rw [if_pos h2]
      refine ⟨unseal_short k kind b h2, ?_⟩
      unfold bulkheadref02_Unseal.f
      rw [if_neg (by omega), if_pos (by omega)]
    · rw [if_neg h2]
      refine ⟨unseal_eq k kind b hk hb (by omega) (by omega) hkk, ?_⟩
      unfold bulkheadref02_Unseal.f
      have w : wrap64 ((b.length : Int) - 4) = (b.length : Int) - 4 := wr (by omega) (by omega)
      rw [if_neg (by omega), if_neg (by omega), w, if_pos (by omega), if_pos (by omega), show ((b.length : Int) - 4).toNat = b.length - 4 by omega]
      have hil := innerL_length b
      have e0 : ([] : List Int) ++ ((b.take (b.length - 4)).drop 8) = innerL b := rfl
      have e1 : ((b.take (b.length - 4)).drop 8).length = (innerL b).length := rfl
      rw [e1, if_pos (by simp; omega)]
      simp only [Option.bind_some]
      rw [e0, (seal_both k kind (innerL b) hk (innerL_bytes b hb) (by omega)).2]
      simp only [Option.bind_some]
      have e2 : sealP kind (innerL b) = (sealL kind (innerL b), 0) := by unfold sealP; rw [if_pos (by omega)]
      rw [e2]
      exact ref_unseal_go b (innerL b) _ hl (by rw [sealL_length]; omega) b.length 0 k (by omega) (by omega) (fun j hj => absurd hj (Nat.not_lt_zero _))
theorem unsealP_length (kind : Int) (b : List Int) : (unsealP kind b).1.length ≤ b.length := by
  unfold unsealP
  have := innerL_length b
  split
  · exact Nat.zero_le _
  · split
    · exact Nat.zero_le _
    · split
      · dsimp only; omega
      · exact Nat.zero_le _
/-! ## turned -/
def turnL (b : List Int) : List Int := (b.map fun x => (x + 1) % 256).reverse
theorem turnL_length (b : List Int) : (turnL b).length = b.length := by simp [turnL]
theorem turnL_bytes (b : List Int) : Bytes (turnL b) := fun x hx => by
  unfold turnL at hx
  rw [List.mem_reverse, List.mem_map] at hx
  obtain ⟨y, _, rfl⟩ := hx
  omega
theorem turned_go (b : List Int) (hl : b.length ≤ 281474976710) : ∀ (d k : Nat) (x : List Int), d ≤ b.length → d < k → x = ((b.drop d).map fun x => (x + 1) % 256).reverse → bulkheadlaw02_turned.l0 k b x ((d : Int) - 1) = some (turnL b) := by
  intro d
  induction d with
  | zero =>
    intro k x hd hk hx
    obtain ⟨k, rfl⟩ : ∃ m, k = m + 1 := ⟨k - 1, by omega⟩
    simp only [bulkheadlaw02_turned.l0]
    rw [if_neg (by omega), hx]; rfl
  | succ d ih =>
    intro k x hd hk hx
    obtain ⟨k, rfl⟩ : ∃ m, k = m + 1 := ⟨k - 1, by omega⟩
    simp only [bulkheadlaw02_turned.l0]
    have e0 : ((d + 1 : Nat) : Int) - 1 = (d : Int) := by omega
    have e1 : rd b (d : Int) = b[d]'(by omega) := by rw [rd_at, List.getD_eq_getElem?_getD, List.getElem?_eq_getElem (by omega)]; rfl
    have hxl : x.length = b.length - (d + 1) := by rw [hx]; simp
    rw [e0, if_pos (by omega), if_pos (by omega), if_pos (by omega), if_pos (by omega), e1, wr (x := (d : Int) - 1) (by omega) (by omega)]
    refine ih k _ (by omega) (by omega) ?_
    rw [List.drop_eq_getElem_cons (show d < b.length by omega), List.map_cons, List.reverse_cons, ← hx]
theorem turned_eq (b : List Int) (hl : b.length ≤ 281474976710) (k : Nat) (hk : b.length < k) : bulkheadlaw02_turned.f k b = some (turnL b) := by
  unfold bulkheadlaw02_turned.f
  rw [wr (x := (b.length : Int) - 1) (by omega) (by omega)]
  exact turned_go b hl b.length k [] (Nat.le_refl _) hk (by simp)
end Go.Proofs.Ytceeoifbimlkdaa.Pure
