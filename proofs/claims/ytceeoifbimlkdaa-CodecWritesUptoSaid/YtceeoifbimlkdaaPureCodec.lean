/- Proved, plainly: what the program's check sum, seal and unsealing answer. Conditions: bytes are bytes; bounds of the lengths. -/
import Derived.Test.YtceeoifbimlkdaaCx1
import Derived.Test.YtceeoifbimlkdaaHClone
import Derived.Test.YtceeoifbimlkdaaCrc
import Derived.Laws.Strings
namespace Go.Proofs.Ytceeoifbimlkdaa.Pure
open Go.Proofs.Ytceeoifbimlkdaa.B
open Go.RowKit Go.Proofs.YtceeoifbimlkdaaW.PrintWords Go.Proofs.YtceeoifbimlkdaaW.PrintLast Go.Proofs.YtceeoifbimlkdaaW.PrintMore

def Bytes (l : List Int) : Prop := ∀ x ∈ l, 0 ≤ x ∧ x < 256
theorem u8_bd {n : Int} (h : (Lit.int .u8 n).wf = true) : 0 ≤ n ∧ n < 256 := by
  simp [Lit.wf, IntKind.min, IntKind.max, IntKind.signed, IntKind.bits] at h
  omega
theorem i64_bd {n : Int} (h : (Lit.int .i64 n).wf = true) : -9223372036854775808 ≤ n ∧ n ≤ 9223372036854775807 := by
  simp [Lit.wf, IntKind.min, IntKind.max, IntKind.signed, IntKind.bits] at h
  omega
theorem wr {x : Int} (h1 : -9223372036854775808 ≤ x) (h2 : x ≤ 9223372036854775807) : wrap64 x = x := by unfold wrap64; omega
theorem rd_at (l : List Int) (i : Nat) : rd l (i : Int) = l.getD i 0 := by simp [rd]

/-! ## The check sum -/
theorem xor_nat (k : IntKind) (a b : Nat) (ha : a % 2 ^ k.bits = a) (hb : b % 2 ^ k.bits = b) : Go.bits .xor k (a : Int) (b : Int) = k.wrap ((a ^^^ b : Nat) : Int) := by
  simp only [Go.bits, BitVec.ofInt_natCast, BitVec.toNat_xor, BitVec.toNat_ofNat, ha, hb]
theorem xor32 (a b : Nat) (ha : a < 4294967296) (hb : b < 4294967296) : Go.bits .xor .u32 (a : Int) (b : Int) = ((a ^^^ b : Nat) : Int) := by
  have hx : a ^^^ b < 2 ^ 32 := Nat.xor_lt_two_pow ha hb
  rw [xor_nat .u32 a b (Nat.mod_eq_of_lt ha) (Nat.mod_eq_of_lt hb)]
  exact IntWalk.u32_in _ (by omega)
theorem and1 (a : Nat) (ha : a < 4294967296) : Go.bits .and .u32 (a : Int) 1 = ((a % 2 : Nat) : Int) := by
  have h := Go.bits_mask .u32 32 (by decide) (fun n h0 h1 => IntWalk.u32_in n ⟨h0, by have : (2 : Int) ^ 32 = 4294967296 := rfl; omega⟩) 1 (by decide) (a : Int) (by omega) (by have : (2 : Int) ^ 32 = 4294967296 := rfl; omega)
  have e1 : (2 : Int) ^ 1 - 1 = 1 := rfl
  have e2 : (2 : Int) ^ 1 = 2 := rfl
  rw [e1, e2] at h
  rw [h]; omega
theorem xor8 (a b : Nat) (ha : a < 256) (hb : b < 256) : Go.bits .xor .u8 (a : Int) (b : Int) = ((a ^^^ b : Nat) : Int) := by
  have hx : a ^^^ b < 2 ^ 8 := Nat.xor_lt_two_pow ha hb
  rw [xor_nat .u8 a b (Nat.mod_eq_of_lt ha) (Nat.mod_eq_of_lt hb)]
  exact IntWalk.u8_in _ (by omega)

def toN (l : List Int) : List Nat := l.map Int.toNat
/-- The check sum. -/
def sumN (l : List Int) : Nat := 4294967295 ^^^ Crc.run 4294967295 (toN l)
theorem toN_lt (l : List Int) (h : Bytes l) : ∀ c, c ∈ toN l → c < 256 := by
  intro c hc
  obtain ⟨x, hx, rfl⟩ := List.mem_map.1 hc
  have := h x hx; omega
theorem round_is (s : Nat) (hs : s < 4294967296) : Go.bits .xor .u32 ((s : Int) / 2) ((3988292384 * (Go.bits .and .u32 (s : Int) 1)) % 4294967296) = ((Crc.round s : Nat) : Int) := by
  rw [and1 s hs, show ((s : Int) / 2) = ((s / 2 : Nat) : Int) by omega, show (3988292384 * ((s % 2 : Nat) : Int)) % 4294967296 = ((3988292384 * (s % 2) : Nat) : Int) by omega, xor32 _ _ (by omega) (by omega)]
  rfl
theorem sum_l1 (l : List Int) (n i : Int) : ∀ (d j k s : Nat), j + d = 8 → s < 4294967296 → codec_Sum.l1 (k + d + 1) (s : Int) l n i (j : Int) = codec_Sum.l0 k ((Crc.rounds d s : Nat) : Int) l n (wrap64 (i + 1)) := by
  intro d
  induction d with
  | zero =>
    intro j k s hj hs
    simp only [codec_Sum.l1]
    rw [if_neg (by omega)]
    rfl
  | succ d ih =>
    intro j k s hj hs
    obtain ⟨K, hK⟩ : ∃ K, k + d + 1 = K := ⟨_, rfl⟩
    rw [show k + (d + 1) + 1 = K + 1 by omega]
    simp only [codec_Sum.l1]
    rw [← hK, if_pos (by omega), round_is s hs, wr (x := (j : Int) + 1) (by omega) (by omega), show (j : Int) + 1 = ((j + 1 : Nat) : Int) by omega, ih (j + 1) k (Crc.round s) (by omega) (Crc.round_lt s hs)]
    rfl
theorem sum_l0 (l : List Int) (hb : Bytes l) (hl : l.length ≤ 281474976710656) : ∀ (d i k s : Nat), i + d = l.length → s < 4294967296 → codec_Sum.l0 (k + 10 * d + 1) (s : Int) l (l.length : Int) (i : Int) = some ((4294967295 ^^^ Crc.run s (toN (l.drop i)) : Nat) : Int) := by
  intro d
  induction d with
  | zero =>
    intro i k s hi hs
    simp only [codec_Sum.l0]
    rw [if_neg (by omega), show (4294967295 : Int) = ((4294967295 : Nat) : Int) from rfl, xor32 _ _ (by omega) hs, List.drop_of_length_le (by omega)]
    rfl
  | succ d ih =>
    intro i k s hi hs
    have hx := hb (l[i]'(by omega)) (List.getElem_mem _)
    have e : rd l (i : Int) = l[i]'(by omega) := by rw [rd_at, List.getD_eq_getElem?_getD, List.getElem?_eq_getElem (by omega)]; rfl
    obtain ⟨K, hK⟩ : ∃ K, k + 10 * d + 1 + 8 + 1 = K := ⟨_, rfl⟩
    rw [show k + 10 * (d + 1) + 1 = K + 1 by omega]
    simp only [codec_Sum.l0]
    rw [← hK, if_pos (by omega), if_pos (by omega), if_pos (by omega), e]
    obtain ⟨c, hc⟩ : ∃ c : Nat, l[i]'(by omega) = (c : Int) := ⟨(l[i]'(by omega)).toNat, by omega⟩
    have hc256 : c < 256 := by omega
    have hsx : s ^^^ c < 4294967296 := Nat.xor_lt_two_pow (n := 32) hs (by omega)
    rw [hc, show ((c : Int) % 4294967296) = (c : Int) by omega, xor32 s c hs (by omega)]
    have h8 := sum_l1 l (l.length : Int) (i : Int) 8 0 (k + 10 * d + 1) (s ^^^ c) rfl hsx
    rw [show ((0 : Nat) : Int) = 0 from rfl] at h8
    rw [h8, wr (x := (i : Int) + 1) (by omega) (by omega), show (i : Int) + 1 = ((i + 1 : Nat) : Int) by omega, ih (i + 1) k _ (by omega) (Crc.rounds_lt 8 _ hsx)]
    rw [List.drop_eq_getElem_cons (show i < l.length by omega)]
    show _ = some ((4294967295 ^^^ Crc.run s ((l[i]'(by omega)).toNat :: toN (l.drop (i + 1))) : Nat) : Int)
    rw [hc, Int.toNat_natCast]
    rfl
theorem sum_eq (l : List Int) (hb : Bytes l) (hl : l.length ≤ 281474976710656) (k : Nat) (hk : 10 * l.length + 1 ≤ k) : codec_Sum.f k l = some ((sumN l : Nat) : Int) := by
  have := sum_l0 l hb hl l.length 0 (k - 10 * l.length - 1) 4294967295 (by omega) (by omega)
  rw [show k - 10 * l.length - 1 + 10 * l.length + 1 = k by omega, List.drop_zero] at this
  exact this
theorem sumN_lt (l : List Int) (hb : Bytes l) : sumN l < 4294967296 := Nat.xor_lt_two_pow (n := 32) (by omega) (Crc.run_lt _ _ (by omega) (toN_lt l hb))

/-! ## The head, the tail, the seal -/
def headL (kind : Int) (n : Int) : List Int := [66, 75, kind, 1, n / 16777216 % 256, n / 65536 % 256, n / 256 % 256, n % 256]
def tailL (s : Int) : List Int := [s % 256, s / 256 % 256, s / 65536 % 256, s / 16777216 % 256]
def sealL (kind : Int) (l : List Int) : List Int := headL kind l.length ++ (l ++ tailL (sumN (headL kind l.length ++ l)))
theorem big_eq (k : Nat) (n : Int) (_h0 : 0 ≤ n) (_h1 : n < 4294967296) : codec_big.f (k + 5) n 4 = some [n / 16777216 % 256, n / 65536 % 256, n / 256 % 256, n % 256] := by
  unfold codec_big.f
  rw [if_pos (by omega), if_pos (by simp)]
  simp only [Option.bind_some]
  have e : List.replicate (4 : Int).toNat (0 : Int) = [0, 0, 0, 0] := rfl
  rw [e]
  have s3 : shr .u64 n 24 = n / 16777216 := rfl
  have s2 : shr .u64 n 16 = n / 65536 := rfl
  have s1 : shr .u64 n 8 = n / 256 := rfl
  have s0 : shr .u64 n 0 = n / 1 := rfl
  have w0 : wrap64 (8 * wrap64 (wrap64 (4 - 1) - 0)) = 24 := by unfold wrap64; omega
  have w1 : wrap64 (8 * wrap64 (wrap64 (4 - 1) - 1)) = 16 := by unfold wrap64; omega
  have w2 : wrap64 (8 * wrap64 (wrap64 (4 - 1) - 2)) = 8 := by unfold wrap64; omega
  have w3 : wrap64 (8 * wrap64 (wrap64 (4 - 1) - 3)) = 0 := by unfold wrap64; omega
  have v0 : wrap64 (0 + 1) = 1 := by unfold wrap64; omega
  have v1 : wrap64 (1 + 1) = 2 := by unfold wrap64; omega
  have v2 : wrap64 (2 + 1) = 3 := by unfold wrap64; omega
  have v3 : wrap64 (3 + 1) = 4 := by unfold wrap64; omega
  simp only [codec_big.l0, w0, w1, w2, w3, v0, v1, v2, v3, s0, s1, s2, s3]
  simp
theorem headL_length (kind n : Int) : (headL kind n).length = 8 := rfl
theorem tailL_length (s : Int) : (tailL s).length = 4 := rfl
theorem headL_bytes (kind n : Int) (h : 0 ≤ kind ∧ kind < 256) : Bytes (headL kind n) := by
  intro x hx
  simp only [headL, List.mem_cons, List.not_mem_nil, or_false] at hx
  rcases hx with rfl | rfl | rfl | rfl | rfl | rfl | rfl | rfl <;> omega
theorem tailL_bytes (s : Int) : Bytes (tailL s) := by
  intro x hx
  simp only [tailL, List.mem_cons, List.not_mem_nil, or_false] at hx
  rcases hx with rfl | rfl | rfl | rfl <;> omega
theorem bytes_append {a b : List Int} (ha : Bytes a) (hb : Bytes b) : Bytes (a ++ b) := fun x hx => (List.mem_append.1 hx).elim (ha x) (hb x)
theorem sealL_bytes (kind : Int) (l : List Int) (h : 0 ≤ kind ∧ kind < 256) (hb : Bytes l) : Bytes (sealL kind l) := bytes_append (headL_bytes _ _ h) (bytes_append hb (tailL_bytes _))
theorem sealL_length (kind : Int) (l : List Int) : (sealL kind l).length = l.length + 12 := by simp [sealL, headL_length, tailL_length]; omega
theorem headL_inj {k n k' n' : Int} (h : headL k n = headL k' n') : k = k' ∧ n / 16777216 % 256 = n' / 16777216 % 256 ∧ n / 65536 % 256 = n' / 65536 % 256 ∧ n / 256 % 256 = n' / 256 % 256 ∧ n % 256 = n' % 256 := by
  simp only [headL, List.cons.injEq, and_true, true_and] at h
  exact h
theorem headL_len {k k' : Int} {n n' : Nat} (h : headL k n = headL k' n') (hn : n < 16777216) (hn' : n' < 16777216) : n = n' := by
  have := headL_inj h; omega
theorem tailL_inj {s s' : Nat} (h : tailL s = tailL s') (h1 : s < 4294967296) (h2 : s' < 4294967296) : s = s' := by
  simp only [tailL, List.cons.injEq, and_true] at h
  omega
theorem seal_eq (k : Nat) (kind : Int) (l : List Int) (hk : 0 ≤ kind ∧ kind < 256) (hb : Bytes l) (hl : l.length ≤ 4194304) (hkk : 10 * l.length + 200 ≤ k) : codec_Seal.f k kind l = some (sealL kind l, 0) := by
  obtain ⟨k, rfl⟩ : ∃ m, k = m + 5 := ⟨k - 5, by omega⟩
  unfold codec_Seal.f
  have u : IntKind.u64.wrap (l.length : Int) = (l.length : Int) := IntWalk.u64_in _ (by omega)
  rw [if_neg (by omega), u, big_eq k _ (by omega) (by omega)]
  simp only [Option.bind_some]
  have hh : ([66, 75, kind, 1] : List Int) ++ [(l.length : Int) / 16777216 % 256, (l.length : Int) / 65536 % 256, (l.length : Int) / 256 % 256, (l.length : Int) % 256] = headL kind l.length := rfl
  rw [hh, if_pos (by simp), if_pos (by rw [headL_length]; omega), sum_eq _ (bytes_append (headL_bytes _ _ hk) hb) (by rw [List.length_append, headL_length]; omega) _ (by rw [List.length_append, headL_length]; omega)]
  simp only [Option.bind_some]
  rw [if_pos (by rw [List.length_append, headL_length]; simp; omega)]
  rw [List.append_assoc]
  rfl

/-! ## Unsealing -/
def innerL (b : List Int) : List Int := (b.take (b.length - 4)).drop 8
theorem inner_parts (h m t : List Int) (hh : h.length = 8) (ht : t.length = 4) : innerL (h ++ (m ++ t)) = m := by
  unfold innerL
  have e : (h ++ (m ++ t)).length - 4 = (h ++ m).length := by simp; omega
  rw [e, ← List.append_assoc, List.take_left', ← hh, List.drop_left']
  · rfl
  · rfl
theorem nums_inj : ∀ a b : List Int, Bytes a → Bytes b → (a.map fun n => UInt8.ofNat n.toNat) = (b.map fun n => UInt8.ofNat n.toNat) → a = b
  | [], [], _, _, _ => rfl
  | [], y :: b, _, _, h => by cases h
  | x :: a, [], _, _, h => by cases h
  | x :: a, y :: b, ha, hb, h => by
    simp only [List.map_cons, List.cons.injEq] at h
    have hx := ha x (List.mem_cons_self ..)
    have hy := hb y (List.mem_cons_self ..)
    have e := congrArg UInt8.toNat h.1
    rw [UInt8.toNat_ofNat', UInt8.toNat_ofNat', Nat.mod_eq_of_lt (by omega), Nat.mod_eq_of_lt (by omega)] at e
    have ex : x = y := by omega
    rw [ex, nums_inj a b (fun z hz => ha z (List.mem_cons_of_mem _ hz)) (fun z hz => hb z (List.mem_cons_of_mem _ hz)) h.2]
theorem str_inj (a b : List Int) (ha : Bytes a) (hb : Bytes b) : ((strOfNums a).toList == (strOfNums b).toList) = decide (a = b) := by
  rw [ByteArray.toList_eq, ByteArray.toList_eq, Bool.eq_iff_iff, beq_iff_eq, decide_eq_true_iff]
  exact ⟨fun h => nums_inj a b ha hb h, fun h => by rw [h]⟩
theorem unseal_eq (k : Nat) (kind : Int) (b : List Int) (hk : 0 ≤ kind ∧ kind < 256) (hb : Bytes b) (h1 : 12 ≤ b.length) (h2 : b.length ≤ 4194316) (hkk : 10 * b.length + 200 ≤ k) :
    codec_Unseal.f k kind b = some (if sealL kind (innerL b) = b then (innerL b, 0) else ([], 20)) := by
  have hi : Bytes (innerL b) := fun x hx => hb x (List.mem_of_mem_take (List.mem_of_mem_drop hx))
  have hil : (innerL b).length = b.length - 12 := by unfold innerL; rw [List.length_drop, List.length_take]; omega
  unfold codec_Unseal.f
  have w : wrap64 ((b.length : Int) - 4) = (b.length : Int) - 4 := wr (by omega) (by omega)
  rw [if_neg (by omega), if_neg (by omega), w, if_pos (by omega), if_pos (by omega), show ((b.length : Int) - 4).toNat = b.length - 4 by omega]
  show ((codec_Seal.f k kind (innerL b)).bind _) = _
  rw [seal_eq k kind (innerL b) hk hi (by omega) (by omega)]
  simp only [Option.bind_some]
  unfold bytes_Equal.f
  simp only [Option.bind_some]
  rw [str_inj _ _ (sealL_bytes kind _ hk hi) hb]
  by_cases e : sealL kind (innerL b) = b
  · rw [decide_eq_true e, if_pos rfl, if_pos e]
    show ((bytes_Clone.f (innerL b)).bind _) = _
    unfold bytes_Clone.f
    rw [if_pos (by simp; omega)]
    rfl
  · rw [decide_eq_false e, if_neg (by simp), if_neg e]
theorem unseal_short (k : Nat) (kind : Int) (b : List Int) (h1 : b.length < 12) : codec_Unseal.f k kind b = some ([], 20) := by
  unfold codec_Unseal.f
  rw [if_neg (by omega), if_pos (by omega)]
end Go.Proofs.Ytceeoifbimlkdaa.Pure
