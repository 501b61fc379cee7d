/- The law CodecSealed, plainly: what is sealed is unsealed; with one bit turned, with bytes missing or behind, or as another kind it is not. -/
import Derived.Test.YtceeoifbimlkdaaCx3
import Derived.Test.YtceeoifbimlkdaaCrc
import Derived.Laws.Strings
namespace Go.Proofs.Ytceeoifbimlkdaa.Pure
open Go.Proofs.Ytceeoifbimlkdaa.B
open Go.RowKit Go.Proofs.YtceeoifbimlkdaaW.PrintWords Go.Proofs.YtceeoifbimlkdaaW.PrintLast Go.Proofs.YtceeoifbimlkdaaW.PrintMore

def Bytes (l : List Int) : Prop := ∀ x ∈ l, 0 ≤ x ∧ x < 256
theorem u8_bd {n : Int} (h : (Lit.int .u8 n).wf = true) : 0 ≤ n ∧ n < 256 := by
  simp [Lit.wf, IntKind.min, IntKind.max, IntKind.signed, IntKind.bits] at h
  omega
theorem i64_bd {n : Int} (h : (Lit.int .i64 n).wf = true) : -9223372036854775808 ≤ n ∧ n ≤ 9223372036854775807 := by
  simp [Lit.wf, IntKind.min, IntKind.max, IntKind.signed, IntKind.bits] at h
  omega
theorem wr {x : Int} (h1 : -9223372036854775808 ≤ x) (h2 : x ≤ 9223372036854775807) : wrap64 x = x := by unfold wrap64; omega
theorem rd_at (l : List Int) (i : Nat) : rd l (i : Int) = l.getD i 0 := by simp [rd]

/-! ## The check sum -/
theorem xor_nat (k : IntKind) (a b : Nat) (ha : a % 2 ^ k.bits = a) (hb : b % 2 ^ k.bits = b) : Go.bits .xor k (a : Int) (b : Int) = k.wrap ((a ^^^ b : Nat) : Int) := by
  simp only [Go.bits, BitVec.ofInt_natCast, BitVec.toNat_xor, BitVec.toNat_ofNat, ha, hb]
theorem xor32 (a b : Nat) (ha : a < 4294967296) (hb : b < 4294967296) : Go.bits .xor .u32 (a : Int) (b : Int) = ((a ^^^ b : Nat) : Int) := by
  have hx : a ^^^ b < 2 ^ 32 := Nat.xor_lt_two_pow ha hb
  rw [xor_nat .u32 a b (Nat.mod_eq_of_lt ha) (Nat.mod_eq_of_lt hb)]
  exact IntWalk.u32_in _ (by omega)
theorem and1 (a : Nat) (ha : a < 4294967296) : Go.bits .and .u32 (a : Int) 1 = ((a % 2 : Nat) : Int) := by
  have h := Go.bits_mask .u32 32 (by decide) (fun n h0 h1 => IntWalk.u32_in n ⟨h0, by have : (2 : Int) ^ 32 = 4294967296 := rfl; omega⟩) 1 (by decide) (a : Int) (by omega) (by have : (2 : Int) ^ 32 = 4294967296 := rfl; omega)
  have e1 : (2 : Int) ^ 1 - 1 = 1 := rfl
  have e2 : (2 : Int) ^ 1 = 2 := rfl
  rw [e1, e2] at h
  rw [h]; omega
theorem xor8 (a b : Nat) (ha : a < 256) (hb : b < 256) : Go.bits .xor .u8 (a : Int) (b : Int) = ((a ^^^ b : Nat) : Int) := by
  have hx : a ^^^ b < 2 ^ 8 := Nat.xor_lt_two_pow ha hb
  rw [xor_nat .u8 a b (Nat.mod_eq_of_lt ha) (Nat.mod_eq_of_lt hb)]
  exact IntWalk.u8_in _ (by omega)

def toN (l : List Int) : List Nat := l.map Int.toNat
/-- The check sum. -/
def sumN (l : List Int) : Nat := 4294967295 ^^^ Crc.run 4294967295 (toN l)
theorem toN_lt (l : List Int) (h : Bytes l) : ∀ c, c ∈ toN l → c < 256 := by
  intro c hc
  obtain ⟨x, hx, rfl⟩ := List.mem_map.1 hc
  have := h x hx; omega
theorem round_is (s : Nat) (hs : s < 4294967296) : Go.bits .xor .u32 ((s : Int) / 2) ((3988292384 * (Go.bits .and .u32 (s : Int) 1)) % 4294967296) = ((Crc.round s : Nat) : Int) := by
  rw [and1 s hs, show ((s : Int) / 2) = ((s / 2 : Nat) : Int) by omega, show (3988292384 * ((s % 2 : Nat) : Int)) % 4294967296 = ((3988292384 * (s % 2) : Nat) : Int) by omega, xor32 _ _ (by omega) (by omega)]
  rfl
theorem sum_l1 (l : List Int) (n i : Int) : ∀ (d j k s : Nat), j + d = 8 → s < 4294967296 → codec_Sum.l1 (k + d + 1) (s : Int) l n i (j : Int) = codec_Sum.l0 k ((Crc.rounds d s : Nat) : Int) l n (wrap64 (i + 1)) := by
  intro d
  induction d with
  | zero =>
    intro j k s hj hs
    simp only [codec_Sum.l1]
    rw [if_neg (by omega)]
    rfl
  | succ d ih =>
    intro j k s hj hs
    obtain ⟨K, hK⟩ : ∃ K, k + d + 1 = K := ⟨_, rfl⟩
    rw [show k + (d + 1) + 1 = K + 1 by omega]
    simp only [codec_Sum.l1]
    rw [← hK, if_pos (by omega), round_is s hs, wr (x := (j : Int) + 1) (by omega) (by omega), show (j : Int) + 1 = ((j + 1 : Nat) : Int) by omega, ih (j + 1) k (Crc.round s) (by omega) (Crc.round_lt s hs)]
    rfl
theorem sum_l0 (l : List Int) (hb : Bytes l) (hl : l.length ≤ 281474976710656) : ∀ (d i k s : Nat), i + d = l.length → s < 4294967296 → codec_Sum.l0 (k + 10 * d + 1) (s : Int) l (l.length : Int) (i : Int) = some ((4294967295 ^^^ Crc.run s (toN (l.drop i)) : Nat) : Int) := by
  intro d
  induction d with
  | zero =>
    intro i k s hi hs
    simp only [codec_Sum.l0]
    rw [if_neg (by omega), show (4294967295 : Int) = ((4294967295 : Nat) : Int) from rfl, xor32 _ _ (by omega) hs, List.drop_of_length_le (by omega)]
    rfl
  | succ d ih =>
    intro i k s hi hs
    have hx := hb (l[i]'(by omega)) (List.getElem_mem _)
    have e : rd l (i : Int) = l[i]'(by omega) := by rw [rd_at, List.getD_eq_getElem?_getD, List.getElem?_eq_getElem (by omega)]; rfl
    obtain ⟨K, hK⟩ : ∃ K, k + 10 * d + 1 + 8 + 1 = K := ⟨_, rfl⟩
    rw [show k + 10 * (d + 1) + 1 = K + 1 by omega]
    simp only [codec_Sum.l0]
    rw [← hK, if_pos (by omega), if_pos (by omega), if_pos (by omega), e]
    obtain ⟨c, hc⟩ : ∃ c : Nat, l[i]'(by omega) = (c : Int) := ⟨(l[i]'(by omega)).toNat, by omega⟩
    have hc256 : c < 256 := by omega
    have hsx : s ^^^ c < 4294967296 := Nat.xor_lt_two_pow (n := 32) hs (by omega)
    rw [hc, show ((c : Int) % 4294967296) = (c : Int) by omega, xor32 s c hs (by omega)]
    have h8 := sum_l1 l (l.length : Int) (i : Int) 8 0 (k + 10 * d + 1) (s ^^^ c) rfl hsx
    rw [show ((0 : Nat) : Int) = 0 from rfl] at h8
    rw [h8, wr (x := (i : Int) + 1) (by omega) (by omega), show (i : Int) + 1 = ((i + 1 : Nat) : Int) by omega, ih (i + 1) k _ (by omega) (Crc.rounds_lt 8 _ hsx)]
    rw [List.drop_eq_getElem_cons (show i < l.length by omega)]
    show _ = some ((4294967295 ^^^ Crc.run s ((l[i]'(by omega)).toNat :: toN (l.drop (i + 1))) : Nat) : Int)
    rw [hc, Int.toNat_natCast]
    rfl
theorem sum_eq (l : List Int) (hb : Bytes l) (hl : l.length ≤ 281474976710656) (k : Nat) (hk : 10 * l.length + 1 ≤ k) : codec_Sum.f k l = some ((sumN l : Nat) : Int) := by
  have := sum_l0 l hb hl l.length 0 (k - 10 * l.length - 1) 4294967295 (by omega) (by omega)
  rw [show k - 10 * l.length - 1 + 10 * l.length + 1 = k by omega, List.drop_zero] at this
  exact this
theorem sumN_lt (l : List Int) (hb : Bytes l) : sumN l < 4294967296 := Nat.xor_lt_two_pow (n := 32) (by omega) (Crc.run_lt _ _ (by omega) (toN_lt l hb))

/-! ## The head, the tail, the seal -/
def headL (kind : Int) (n : Int) : List Int := [66, 75, kind, 1, n / 16777216 % 256, n / 65536 % 256, n / 256 % 256, n % 256]
def tailL (s : Int) : List Int := [s % 256, s / 256 % 256, s / 65536 % 256, s / 16777216 % 256]
def sealL (kind : Int) (l : List Int) : List Int := headL kind l.length ++ (l ++ tailL (sumN (headL kind l.length ++ l)))
theorem big_eq (k : Nat) (n : Int) (_h0 : 0 ≤ n) (_h1 : n < 4294967296) : codec_big.f (k + 5) n 4 = some [n / 16777216 % 256, n / 65536 % 256, n / 256 % 256, n % 256] := by
  unfold codec_big.f
  rw [if_pos (by omega), if_pos (by simp)]
  simp only [Option.bind_some]
  have e : List.replicate (4 : Int).toNat (0 : Int) = [0, 0, 0, 0] := rfl
  rw [e]
  have s3 : shr .u64 n 24 = n / 16777216 := rfl
  have s2 : shr .u64 n 16 = n / 65536 := rfl
  have s1 : shr .u64 n 8 = n / 256 := rfl
  have s0 : shr .u64 n 0 = n / 1 := rfl
  have w0 : wrap64 (8 * wrap64 (wrap64 (4 - 1) - 0)) = 24 := by unfold wrap64; omega
  have w1 : wrap64 (8 * wrap64 (wrap64 (4 - 1) - 1)) = 16 := by unfold wrap64; omega
  have w2 : wrap64 (8 * wrap64 (wrap64 (4 - 1) - 2)) = 8 := by unfold wrap64; omega
  have w3 : wrap64 (8 * wrap64 (wrap64 (4 - 1) - 3)) = 0 := by unfold wrap64; omega
  have v0 : wrap64 (0 + 1) = 1 := by unfold wrap64; omega
  have v1 : wrap64 (1 + 1) = 2 := by unfold wrap64; omega
  have v2 : wrap64 (2 + 1) = 3 := by unfold wrap64; omega
  have v3 : wrap64 (3 + 1) = 4 := by unfold wrap64; omega
  simp only [codec_big.l0, w0, w1, w2, w3, v0, v1, v2, v3, s0, s1, s2, s3]
  simp
theorem headL_length (kind n : Int) : (headL kind n).length = 8 := rfl
theorem tailL_length (s : Int) : (tailL s).length = 4 := rfl
theorem headL_bytes (kind n : Int) (h : 0 ≤ kind ∧ kind < 256) : Bytes (headL kind n) := by
  intro x hx
  simp only [headL, List.mem_cons, List.not_mem_nil, or_false] at hx
  rcases hx with rfl | rfl | rfl | rfl | rfl | rfl | rfl | rfl <;> omega
theorem tailL_bytes (s : Int) : Bytes (tailL s) := by
  intro x hx
  simp only [tailL, List.mem_cons, List.not_mem_nil, or_false] at hx
  rcases hx with rfl | rfl | rfl | rfl <;> omega
theorem bytes_append {a b : List Int} (ha : Bytes a) (hb : Bytes b) : Bytes (a ++ b) := fun x hx => (List.mem_append.1 hx).elim (ha x) (hb x)
theorem sealL_bytes (kind : Int) (l : List Int) (h : 0 ≤ kind ∧ kind < 256) (hb : Bytes l) : Bytes (sealL kind l) := bytes_append (headL_bytes _ _ h) (bytes_append hb (tailL_bytes _))
theorem sealL_length (kind : Int) (l : List Int) : (sealL kind l).length = l.length + 12 := by simp [sealL, headL_length, tailL_length]; omega
theorem headL_inj {k n k' n' : Int} (h : headL k n = headL k' n') : k = k' ∧ n / 16777216 % 256 = n' / 16777216 % 256 ∧ n / 65536 % 256 = n' / 65536 % 256 ∧ n / 256 % 256 = n' / 256 % 256 ∧ n % 256 = n' % 256 := by
  simp only [headL, List.cons.injEq, and_true, true_and] at h
  exact h
theorem headL_len {k k' : Int} {n n' : Nat} (h : headL k n = headL k' n') (hn : n < 16777216) (hn' : n' < 16777216) : n = n' := by
  have := headL_inj h; omega
theorem tailL_inj {s s' : Nat} (h : tailL s = tailL s') (h1 : s < 4294967296) (h2 : s' < 4294967296) : s = s' := by
  simp only [tailL, List.cons.injEq, and_true] at h
  omega
theorem seal_eq (k : Nat) (kind : Int) (l : List Int) (hk : 0 ≤ kind ∧ kind < 256) (hb : Bytes l) (hl : l.length ≤ 4194304) (hkk : 10 * l.length + 200 ≤ k) : codec_Seal.f k kind l = some (sealL kind l, 0) := by
  obtain ⟨k, rfl⟩ : ∃ m, k = m + 5 := ⟨k - 5, by omega⟩
  unfold codec_Seal.f
  have u : IntKind.u64.wrap (l.length : Int) = (l.length : Int) := IntWalk.u64_in _ (by omega)
  rw [if_neg (by omega), u, big_eq k _ (by omega) (by omega)]
  simp only [Option.bind_some]
  have hh : ([66, 75, kind, 1] : List Int) ++ [(l.length : Int) / 16777216 % 256, (l.length : Int) / 65536 % 256, (l.length : Int) / 256 % 256, (l.length : Int) % 256] = headL kind l.length := rfl
  rw [hh, if_pos (by simp), if_pos (by rw [headL_length]; omega), sum_eq _ (bytes_append (headL_bytes _ _ hk) hb) (by rw [List.length_append, headL_length]; omega) _ (by rw [List.length_append, headL_length]; omega)]
  simp only [Option.bind_some]
  rw [if_pos (by rw [List.length_append, headL_length]; simp; omega)]
  rw [List.append_assoc]
  rfl

/-! ## Unsealing -/
def innerL (b : List Int) : List Int := (b.take (b.length - 4)).drop 8
theorem inner_parts (h m t : List Int) (hh : h.length = 8) (ht : t.length = 4) : innerL (h ++ (m ++ t)) = m := by
  unfold innerL
  have e : (h ++ (m ++ t)).length - 4 = (h ++ m).length := by simp; omega
  rw [e, ← List.append_assoc, List.take_left', ← hh, List.drop_left']
  · rfl
  · rfl
theorem nums_inj : ∀ a b : List Int, Bytes a → Bytes b → (a.map fun n => UInt8.ofNat n.toNat) = (b.map fun n => UInt8.ofNat n.toNat) → a = b
  | [], [], _, _, _ => rfl
  | [], y :: b, _, _, h => by cases h
  | x :: a, [], _, _, h => by cases h
  | x :: a, y :: b, ha, hb, h => by
    simp only [List.map_cons, List.cons.injEq] at h
    have hx := ha x (List.mem_cons_self ..)
    have hy := hb y (List.mem_cons_self ..)
    have e := congrArg UInt8.toNat h.1
    rw [UInt8.toNat_ofNat', UInt8.toNat_ofNat', Nat.mod_eq_of_lt (by omega), Nat.mod_eq_of_lt (by omega)] at e
    have ex : x = y := by omega
    rw [ex, nums_inj a b (fun z hz => ha z (List.mem_cons_of_mem _ hz)) (fun z hz => hb z (List.mem_cons_of_mem _ hz)) h.2]
theorem str_inj (a b : List Int) (ha : Bytes a) (hb : Bytes b) : ((strOfNums a).toList == (strOfNums b).toList) = decide (a = b) := by
  rw [ByteArray.toList_eq, ByteArray.toList_eq, Bool.eq_iff_iff, beq_iff_eq, decide_eq_true_iff]
  exact ⟨fun h => nums_inj a b ha hb h, fun h => by rw [h]⟩
theorem unseal_eq (k : Nat) (kind : Int) (b : List Int) (hk : 0 ≤ kind ∧ kind < 256) (hb : Bytes b) (h1 : 12 ≤ b.length) (h2 : b.length ≤ 4194316) (hkk : 10 * b.length + 200 ≤ k) :
    codec_Unseal.f k kind b = some (if sealL kind (innerL b) = b then (innerL b, 0) else ([], 20)) := by
  have hi : Bytes (innerL b) := fun x hx => hb x (List.mem_of_mem_take (List.mem_of_mem_drop hx))
  have hil : (innerL b).length = b.length - 12 := by unfold innerL; rw [List.length_drop, List.length_take]; omega
  unfold codec_Unseal.f
  have w : wrap64 ((b.length : Int) - 4) = (b.length : Int) - 4 := wr (by omega) (by omega)
  rw [if_neg (by omega), if_neg (by omega), w, if_pos (by omega), if_pos (by omega), show ((b.length : Int) - 4).toNat = b.length - 4 by omega]
  show ((codec_Seal.f k kind (innerL b)).bind _) = _
  rw [seal_eq k kind (innerL b) hk hi (by omega) (by omega)]
  simp only [Option.bind_some]
  unfold bytes_Equal.f
  simp only [Option.bind_some]
  rw [str_inj _ _ (sealL_bytes kind _ hk hi) hb]
  by_cases e : sealL kind (innerL b) = b
  · rw [decide_eq_true e, if_pos rfl, if_pos e]
    show ((bytes_Clone.f (innerL b)).bind _) = _
    unfold bytes_Clone.f
    rw [if_pos (by simp; omega)]
    rfl
  · rw [decide_eq_false e, if_neg (by simp), if_neg e]
theorem unseal_short (k : Nat) (kind : Int) (b : List Int) (h1 : b.length < 12) : codec_Unseal.f k kind b = some ([], 20) := by
  unfold codec_Unseal.f
  rw [if_neg (by omega), if_pos (by omega)]
/-- A text of three parts is unsealed just if its head and its tail are those of its middle. -/
theorem seal_iff (kind : Int) (h m t : List Int) (hh : h.length = 8) (_ht : t.length = 4) : sealL kind m = h ++ (m ++ t) ↔ headL kind m.length = h ∧ tailL (sumN (headL kind m.length ++ m)) = t := by
  unfold sealL
  constructor
  · intro e
    obtain ⟨e1, e2⟩ := List.append_inj e (by rw [hh]; rfl)
    exact ⟨e1, (List.append_inj e2 rfl).2⟩
  · rintro ⟨e1, e2⟩
    rw [e2, ← e1]
theorem set_ne (l : List Int) (i : Nat) (v : Int) (h : i < l.length) (hv : v ≠ l.getD i 0) : l.set i v ≠ l := by
  intro e
  have : (l.set i v).getD i 0 = l.getD i 0 := by rw [e]
  rw [List.getD_eq_getElem?_getD, List.getElem?_set_self h] at this
  exact hv this
/-- One byte turned: it is not unsealed. -/
theorem turned_bad (kind : Int) (l : List Int) (hk : 0 ≤ kind ∧ kind < 256) (hb : Bytes l) (hl : l.length ≤ 4194304) (i : Nat) (v : Int) (hi : i < (sealL kind l).length) (hv : 0 ≤ v ∧ v < 256) (hne : v ≠ (sealL kind l).getD i 0) :
    sealL kind (innerL ((sealL kind l).set i v)) ≠ (sealL kind l).set i v := by
  rw [sealL_length] at hi
  have hH := headL_length kind l.length
  have hT := tailL_length (sumN (headL kind l.length ++ l))
  unfold sealL at hne
  generalize hq : tailL (sumN (headL kind l.length ++ l)) = T at hT hne
  have hs : sealL kind l = headL kind l.length ++ (l ++ T) := by unfold sealL; rw [hq]
  rw [hs]
  rw [List.getD_eq_getElem?_getD] at hne
  by_cases c1 : i < 8
  · rw [List.getElem?_append_left (by omega), ← List.getD_eq_getElem?_getD] at hne
    rw [List.set_append_left _ _ (by omega), inner_parts _ _ _ (by rw [List.length_set]; exact hH) hT, Ne, seal_iff kind _ l T (by rw [List.length_set]; exact hH) hT]
    rintro ⟨e, _⟩
    exact set_ne _ i v (by omega) hne e.symm
  · rw [List.getElem?_append_right (by omega), hH] at hne
    rw [List.set_append_right _ _ (by omega), hH]
    by_cases c2 : i - 8 < l.length
    · rw [List.getElem?_append_left c2] at hne
      rw [List.set_append_left _ _ c2, inner_parts _ _ _ hH hT, Ne, seal_iff kind _ _ T hH hT, List.length_set]
      rintro ⟨_, e⟩
      have hbs : Bytes (l.set (i - 8) v) := by
        intro x hx
        rcases List.mem_or_eq_of_mem_set hx with h | h
        · exact hb x h
        · rw [h]; exact hv
      rw [← hq] at e
      have e2 := tailL_inj e (sumN_lt _ (bytes_append (headL_bytes _ _ hk) hbs)) (sumN_lt _ (bytes_append (headL_bytes _ _ hk) hb))
      unfold sumN at e2
      have e3 := Crc.xor_left e2
      have split : ∀ u : Int, toN (headL kind l.length ++ l.set (i - 8) u) = toN (headL kind l.length ++ l.take (i - 8)) ++ u.toNat :: toN (l.drop (i - 8 + 1)) := fun u => by
        rw [List.set_eq_take_append_cons_drop, if_pos c2]
        simp [toN]
      have self := split (l[i - 8]'c2)
      rw [List.set_getElem_self] at self
      rw [split v, self] at e3
      have hx := hb (l[i - 8]'c2) (List.getElem_mem _)
      have := Crc.run_one _ _ _ _ 4294967295 (by omega) (toN_lt _ (bytes_append (headL_bytes _ _ hk) fun x hx => hb x (List.mem_of_mem_take hx))) (toN_lt _ fun x hx => hb x (List.mem_of_mem_drop hx)) (by omega) (by omega) e3
      rw [List.getElem?_eq_getElem c2] at hne
      exact hne (show v = l[i - 8]'c2 by omega)
    · rw [List.getElem?_append_right (by omega), ← List.getD_eq_getElem?_getD] at hne
      rw [List.set_append_right _ _ (by omega), inner_parts _ _ _ hH (by rw [List.length_set]; exact hT), Ne, seal_iff kind _ l _ hH (by rw [List.length_set]; exact hT), hq]
      rintro ⟨_, e⟩
      exact set_ne T _ v (by omega) hne e.symm
/-- Another length: it is not unsealed. -/
theorem length_bad (kind : Int) (l b : List Int) (hl : l.length ≤ 4194304) (h12 : 12 ≤ b.length) (hb2 : b.length ≤ 4194316) (h8 : b.take 8 = headL kind l.length) (hne : b.length ≠ l.length + 12) : sealL kind (innerL b) ≠ b := by
  intro e
  have hil : (innerL b).length = b.length - 12 := by unfold innerL; rw [List.length_drop, List.length_take]; omega
  have e2 : (sealL kind (innerL b)).take 8 = b.take 8 := by rw [e]
  unfold sealL at e2
  rw [List.take_left' (headL_length _ _), h8] at e2
  have := headL_len e2 (by omega) (by omega)
  omega
theorem same_self (l : List Int) (hl : l.length ≤ 281474976710656) (k : Nat) (hk : l.length < k) : bulkheadlaw02_same.f k l l = some true := by
  have key : ∀ (d i k : Nat), i + d = l.length → d < k → bulkheadlaw02_same.l0 k l l (i : Int) = some true := by
    intro d
    induction d with
    | zero =>
      intro i k hi hk
      obtain ⟨k, rfl⟩ : ∃ m, k = m + 1 := ⟨k - 1, by omega⟩
      simp only [bulkheadlaw02_same.l0]
      rw [if_neg (by omega)]
    | succ d ih =>
      intro i k hi hk
      obtain ⟨k, rfl⟩ : ∃ m, k = m + 1 := ⟨k - 1, by omega⟩
      simp only [bulkheadlaw02_same.l0]
      rw [if_pos (by omega), if_pos (by omega), if_pos (by omega), if_pos trivial, wr (x := (i : Int) + 1) (by omega) (by omega), show (i : Int) + 1 = ((i + 1 : Nat) : Int) by omega]
      exact ih (i + 1) k (by omega) (by omega)
  have h0 := key l.length 0 k (by omega) hk
  unfold bulkheadlaw02_same.f
  rw [if_pos rfl]
  exact h0

theorem inner_seal (kind : Int) (l : List Int) : innerL (sealL kind l) = l := inner_parts _ _ _ (headL_length _ _) (tailL_length _)
theorem other_eq (kind : Int) (l : List Int) (other : Int) (hk : 0 ≤ kind ∧ kind < 256) (ho : 0 ≤ other ∧ other < 256) (hb : Bytes l) (hl : l.length ≤ 4194304) (k : Nat) (hkk : 10 * l.length + 400 ≤ k) : codec_Unseal.f k other (sealL kind l) = some (if other = kind then (l, 0) else ([], 20)) := by
  rw [unseal_eq k other _ ho (sealL_bytes kind l hk hb) (by rw [sealL_length]; omega) (by rw [sealL_length]; omega) (by rw [sealL_length]; omega), inner_seal kind l]
  by_cases c : other = kind
  · rw [if_pos (by rw [c]), if_pos c]
  · rw [if_neg ?_, if_neg c]
    intro e
    unfold sealL at e
    exact c (headL_inj (List.append_inj e rfl).1).1
theorem last_eq (kind : Int) (l : List Int) (other : Int) (hk : 0 ≤ kind ∧ kind < 256) (ho : 0 ≤ other ∧ other < 256) (hb : Bytes l) (hl : l.length ≤ 4194304) (k : Nat) (hkk : 10 * l.length + 400 ≤ k) : ((codec_Unseal.f k other (sealL kind l)).bind fun bt => (if ((other == kind) == (bt.2 == 0)) = true then ((bulkheadlaw02_works.f).bind fun t => (some t)) else (some false))) = some true := by
  rw [other_eq kind l other hk ho hb hl k hkk]
  simp only [Option.bind_some]
  by_cases c : other = kind
  · rw [if_pos c]
    subst c
    simp [bulkheadlaw02_works.f]
  · rw [if_neg c]
    have : (other == kind) = false := by simpa using c
    rw [this]
    simp [bulkheadlaw02_works.f]
section
variable (kind : Int) (l more : List Int) (other : Int) (hk : 0 ≤ kind ∧ kind < 256) (ho : 0 ≤ other ∧ other < 256) (hb : Bytes l) (hm : Bytes more) (hl : l.length ≤ 4194304)
include hk ho hb hm hl
theorem j5_holds (k : Nat) (hkk : 10 * l.length + 10 * more.length + 400 ≤ k) (hmm : more.length ≤ 140737488351232) (x : Bool) (hx : x = true → 0 < more.length ∧ (sealL kind l).length + more.length ≤ 4194316) :
    bulkheadlaw02_CodecSealed.j5 (k + 1) kind more other (sealL kind l) x = some true := by
  have hsl := sealL_length kind l
  simp only [bulkheadlaw02_CodecSealed.j5]
  cases x with
  | false => rw [if_neg (by simp)]; exact last_eq kind l other hk ho hb hl k (by omega)
  | true =>
    obtain ⟨x1, x2⟩ := hx rfl
    rw [if_pos rfl, if_pos (by simp; omega)]
    simp only [Option.bind_some, List.nil_append]
    have hlen : (sealL kind l ++ more).length = l.length + 12 + more.length := by rw [List.length_append]; omega
    have bad := length_bad kind l (sealL kind l ++ more) hl (by omega) (by omega) (by unfold sealL; rw [List.append_assoc, List.take_left' (headL_length _ _)]) (by omega)
    rw [if_pos (by omega), unseal_eq k kind _ hk (bytes_append (sealL_bytes kind l hk hb) hm) (by omega) (by omega) (by omega), if_neg bad]
    simp only [Option.bind_some, if_true]
    exact last_eq kind l other hk ho hb hl k (by omega)
theorem j4_holds (k : Nat) (hkk : 10 * l.length + 10 * more.length + 400 ≤ k) (hmm : more.length ≤ 140737488351232) : bulkheadlaw02_CodecSealed.j4 (k + 1 + 1) kind more other (sealL kind l) = some true := by
  have hsl := sealL_length kind l
  obtain ⟨K, hK⟩ : ∃ K, k + 1 = K := ⟨_, rfl⟩
  rw [hK]
  simp only [bulkheadlaw02_CodecSealed.j4]
  rw [← hK]
  by_cases c : (more.length : Int) > 0
  · rw [if_pos c, wr (x := ((sealL kind l).length : Int) + (more.length : Int)) (by omega) (by omega)]
    exact j5_holds kind l more other hk ho hb hm hl k hkk hmm _ (fun h => by have := of_decide_eq_true h; omega)
  · rw [if_neg c]
    exact j5_holds kind l more other hk ho hb hm hl k hkk hmm _ (fun h => by cases h)
theorem j3_holds (k : Nat) (hkk : 10 * l.length + 10 * more.length + 400 ≤ k) (hmm : more.length ≤ 140737488351232) (cut : Int) (x : Bool) (hx : x = true → 0 ≤ cut ∧ cut < (sealL kind l).length) : bulkheadlaw02_CodecSealed.j3 (k + 1 + 1 + 1) kind cut more other (sealL kind l) x = some true := by
  have hsl := sealL_length kind l
  have ih := j4_holds kind l more other hk ho hb hm hl k hkk hmm
  obtain ⟨K, hK⟩ : ∃ K, k + 1 + 1 = K := ⟨_, rfl⟩
  rw [hK] at ih ⊢
  simp only [bulkheadlaw02_CodecSealed.j3]
  cases x with
  | false => rw [if_neg (by simp)]; exact ih
  | true =>
    obtain ⟨x1, x2⟩ := hx rfl
    rw [if_pos rfl, if_pos x1, if_pos (by omega)]
    have hlen : ((sealL kind l).take cut.toNat).length = cut.toNat := by rw [List.length_take]; omega
    have e : codec_Unseal.f K kind ((sealL kind l).take cut.toNat) = some ([], 20) := by
      by_cases c : cut.toNat < 12
      · exact unseal_short K kind _ (by omega)
      · have bad := length_bad kind l ((sealL kind l).take cut.toNat) hl (by omega) (by omega) (by rw [List.take_take, Nat.min_eq_left (by omega)]; unfold sealL; rw [List.take_left' (headL_length _ _)]) (by omega)
        rw [unseal_eq K kind _ hk (fun y hy => sealL_bytes kind l hk hb y (List.mem_of_mem_take hy)) (by omega) (by omega) (by omega), if_neg bad]
    rw [e]
    simp only [Option.bind_some, if_true]
    exact ih
theorem j2_holds (k : Nat) (hkk : 10 * l.length + 10 * more.length + 400 ≤ k) (hmm : more.length ≤ 140737488351232) (cut : Int) : bulkheadlaw02_CodecSealed.j2 (k + 1 + 1 + 1 + 1) kind cut more other (sealL kind l) = some true := by
  obtain ⟨K, hK⟩ : ∃ K, k + 1 + 1 + 1 = K := ⟨_, rfl⟩
  have ih := fun x hx => j3_holds kind l more other hk ho hb hm hl k hkk hmm cut x hx
  rw [hK] at ih ⊢
  simp only [bulkheadlaw02_CodecSealed.j2]
  by_cases c : cut ≥ 0
  · rw [if_pos c]; exact ih _ (fun h => by have := of_decide_eq_true h; omega)
  · rw [if_neg c]; exact ih _ (fun h => by cases h)
theorem j1_holds (k : Nat) (hkk : 10 * l.length + 10 * more.length + 400 ≤ k) (hmm : more.length ≤ 140737488351232) (bit cut : Int) (x : Bool) (hx : x = true → 0 ≤ bit ∧ bit < 8 * ((sealL kind l).length : Int)) : bulkheadlaw02_CodecSealed.j1 (k + 1 + 1 + 1 + 1 + 1) kind bit cut more other (sealL kind l) x = some true := by
  have hsl := sealL_length kind l
  obtain ⟨K, hK⟩ : ∃ K, k + 1 + 1 + 1 + 1 = K := ⟨_, rfl⟩
  have ih := j2_holds kind l more other hk ho hb hm hl k hkk hmm cut
  rw [hK] at ih ⊢
  simp only [bulkheadlaw02_CodecSealed.j1]
  cases x with
  | false => rw [if_neg (by simp)]; exact ih
  | true =>
    obtain ⟨x1, x2⟩ := hx rfl
    obtain ⟨q, rfl⟩ : ∃ q : Nat, bit = (q : Int) := ⟨bit.toNat, by omega⟩
    have e1 : Int.tdiv (q : Int) 8 = ((q / 8 : Nat) : Int) := by rw [Int.tdiv_eq_ediv_of_nonneg (by omega)]; omega
    have e2 : Int.tmod (q : Int) 8 = ((q % 8 : Nat) : Int) := by rw [Int.tmod_eq_emod_of_nonneg (by omega)]; omega
    rw [if_pos rfl, if_pos (by simp; omega), e1, e2, wr (x := ((q / 8 : Nat) : Int)) (by omega) (by omega)]
    simp only [Option.bind_some, List.nil_append]
    rw [if_pos (by omega), if_pos (by omega), if_pos (by omega), Int.toNat_natCast, rd_at]
    have hsb := sealL_bytes kind l hk hb
    have hi : q / 8 < (sealL kind l).length := by omega
    have hxb : 0 ≤ (sealL kind l).getD (q / 8) 0 ∧ (sealL kind l).getD (q / 8) 0 < 256 := by
      rw [List.getD_eq_getElem?_getD, List.getElem?_eq_getElem hi]; exact hsb _ (List.getElem_mem _)
    have hj : q % 8 < 8 := Nat.mod_lt _ (by omega)
    have hsh : shl .u8 1 ((q % 8 : Nat) : Int) = ((2 ^ (q % 8) : Nat) : Int) ∧ 2 ^ (q % 8) < 256 ∧ 0 < 2 ^ (q % 8) := by
      generalize q % 8 = j at hj
      match j, hj with
      | 0, _ => exact ⟨rfl, by omega, by omega⟩
      | 1, _ => exact ⟨rfl, by omega, by omega⟩
      | 2, _ => exact ⟨rfl, by omega, by omega⟩
      | 3, _ => exact ⟨rfl, by omega, by omega⟩
      | 4, _ => exact ⟨rfl, by omega, by omega⟩
      | 5, _ => exact ⟨rfl, by omega, by omega⟩
      | 6, _ => exact ⟨rfl, by omega, by omega⟩
      | 7, _ => exact ⟨rfl, by omega, by omega⟩
      | j + 8, h => omega
    obtain ⟨c, hc⟩ : ∃ c : Nat, (sealL kind l).getD (q / 8) 0 = (c : Int) := ⟨((sealL kind l).getD (q / 8) 0).toNat, by omega⟩
    have hc256 : c < 256 := by omega
    rw [hc, hsh.1, xor8 c _ hc256 hsh.2.1]
    have hv : c ^^^ 2 ^ (q % 8) < 256 := Nat.xor_lt_two_pow (n := 8) hc256 hsh.2.1
    have hne : c ^^^ 2 ^ (q % 8) ≠ c := by
      intro h
      have := Crc.xor_left (a := 2 ^ (q % 8)) (b := 0) (c := c) (by rw [h, Nat.xor_zero])
      omega
    have bad := turned_bad kind l hk hb hl (q / 8) ((c ^^^ 2 ^ (q % 8) : Nat) : Int) hi (by omega) (by rw [hc]; omega)
    have hlen : ((sealL kind l).set (q / 8) ((c ^^^ 2 ^ (q % 8) : Nat) : Int)).length = l.length + 12 := by rw [List.length_set]; exact hsl
    have hbs : Bytes ((sealL kind l).set (q / 8) ((c ^^^ 2 ^ (q % 8) : Nat) : Int)) := by
      intro y hy
      rcases List.mem_or_eq_of_mem_set hy with h | h
      · exact hsb y h
      · rw [h]; omega
    rw [unseal_eq K kind _ hk hbs (by omega) (by omega) (by omega), if_neg bad]
    simp only [Option.bind_some, if_true]
    rw [if_pos (by simp)]
    exact ih
end

theorem long_case (kind : Int) (l : List Int) (bit cut : Int) (more : List Int) (other : Int) (k : Nat) (c : (l.length : Int) > 4194304) : bulkheadlaw02_CodecSealed.f k kind l bit cut more other = some true := by
  have e : codec_Seal.f k kind l = some ([], 1) := by unfold codec_Seal.f; rw [if_pos c]
  unfold bulkheadlaw02_CodecSealed.f
  rw [e]
  simp only [Option.bind_some]
  rw [if_pos c, if_pos trivial, if_pos (by simp)]
  rfl
theorem j0_holds (kind : Int) (l more : List Int) (other : Int) (hk : 0 ≤ kind ∧ kind < 256) (ho : 0 ≤ other ∧ other < 256) (hb : Bytes l) (hm : Bytes more) (hl : l.length ≤ 4194304) (k : Nat) (hkk : 10 * l.length + 10 * more.length + 400 ≤ k) (hmm : more.length ≤ 140737488351232) (bit cut : Int) :
    bulkheadlaw02_CodecSealed.j0 (k + 1 + 1 + 1 + 1 + 1 + 1) kind bit cut more other (sealL kind l) false = some true := by
  have hsl := sealL_length kind l
  obtain ⟨K, hK⟩ : ∃ K, k + 1 + 1 + 1 + 1 + 1 = K := ⟨_, rfl⟩
  have ih := fun x hx => j1_holds kind l more other hk ho hb hm hl k hkk hmm bit cut x hx
  rw [hK] at ih ⊢
  simp only [bulkheadlaw02_CodecSealed.j0]
  rw [if_neg (by simp)]
  by_cases c1 : bit ≥ 0
  · rw [if_pos c1, wr (x := 8 * ((sealL kind l).length : Int)) (by omega) (by omega)]
    exact ih _ (fun h => by have := of_decide_eq_true h; omega)
  · rw [if_neg c1]
    exact ih _ (fun h => by cases h)
theorem short_case (kind : Int) (l more : List Int) (other : Int) (hk : 0 ≤ kind ∧ kind < 256) (ho : 0 ≤ other ∧ other < 256) (hb : Bytes l) (hm : Bytes more) (hl : l.length ≤ 4194304) (k : Nat) (hkk : 10 * l.length + 10 * more.length + 400 ≤ k) (hmm : more.length ≤ 140737488351232) (bit cut : Int) :
    bulkheadlaw02_CodecSealed.f (k + 1 + 1 + 1 + 1 + 1 + 1) kind l bit cut more other = some true := by
  have ih := j0_holds kind l more other hk ho hb hm hl k hkk hmm bit cut
  obtain ⟨K, hK⟩ : ∃ K, k + 1 + 1 + 1 + 1 + 1 + 1 = K := ⟨_, rfl⟩
  rw [hK] at ih ⊢
  have hKK : 10 * l.length + 400 ≤ K := by omega
  clear hK hkk
  have hsl := sealL_length kind l
  have en : (((sealL kind l).length : Int) != wrap64 ((l.length : Int) + 12)) = false := by rw [wr (by omega) (by omega)]; simp; omega
  have e1 := seal_eq K kind l hk hb hl (by omega)
  have e2 := other_eq kind l kind hk hk hb hl K hKK
  rw [if_pos rfl] at e2
  have e3 := same_self l (by omega) K (by omega)
  have c : ¬ (l.length : Int) > 4194304 := by omega
  unfold bulkheadlaw02_CodecSealed.f
  rw [e1]
  simp only [Option.bind_some]
  rw [if_neg c, e2]
  simp only [Option.bind_some, if_true]
  rw [e3]
  simp only [Option.bind_some, if_true]
  rw [en]
  exact ih
theorem CodecSealed : bulkheadlaw02_CodecSealed.Pure := by
  intro kind l bit cut more other hk _ _ hl _ _ _ hm8 hm ho
  have hb : Bytes l := fun x hx => u8_bd (hl x hx)
  have hmb : Bytes more := fun x hx => u8_bd (hm x hx)
  by_cases c : (l.length : Int) > 4194304
  · exact ⟨0, long_case kind l bit cut more other 0 c⟩
  · obtain ⟨M, hM⟩ : ∃ M, 10 * l.length + 10 * more.length + 400 ≤ M := ⟨_, Nat.le_refl _⟩
    exact ⟨_, short_case kind l more other (u8_bd hk) (u8_bd ho) hb hmb (by omega) M hM (by omega) bit cut⟩
end Go.Proofs.Ytceeoifbimlkdaa.Pure
