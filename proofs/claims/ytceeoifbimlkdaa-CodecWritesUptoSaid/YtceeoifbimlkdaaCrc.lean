/- Plain facts on the check sum's rounds: no round loses anything; so texts of one length that differ in one byte have unlike sums. No program in it. -/
namespace Go.Proofs.Ytceeoifbimlkdaa.Crc

theorem xor_right {a b c : Nat} (h : a ^^^ c = b ^^^ c) : a = b := by
  have := congrArg (· ^^^ c) h
  simpa [Nat.xor_assoc] using this
theorem xor_left {a b c : Nat} (h : c ^^^ a = c ^^^ b) : a = b := xor_right (c := c) (by rw [Nat.xor_comm a c, Nat.xor_comm b c]; exact h)
/-- One round on 32 bits. -/
def round (s : Nat) : Nat := (s / 2) ^^^ (3988292384 * (s % 2))
theorem round_lt (s : Nat) (h : s < 4294967296) : round s < 4294967296 := by
  unfold round
  have h1 : s / 2 < 2 ^ 32 := by omega
  have h2 : 3988292384 * (s % 2) < 2 ^ 32 := by omega
  exact Nat.xor_lt_two_pow h1 h2
theorem round_top (s : Nat) (h : s < 4294967296) : (round s).testBit 31 = decide (s % 2 = 1) := by
  unfold round
  rw [Nat.testBit_xor, Nat.testBit_lt_two_pow (show s / 2 < 2 ^ 31 by omega)]
  rcases Nat.mod_two_eq_zero_or_one s with e | e <;> rw [e] <;> decide
theorem round_inj (s t : Nat) (hs : s < 4294967296) (ht : t < 4294967296) (h : round s = round t) : s = t := by
  have e : decide (s % 2 = 1) = decide (t % 2 = 1) := by rw [← round_top s hs, ← round_top t ht, h]
  have e2 : s % 2 = t % 2 := by
    rcases Nat.mod_two_eq_zero_or_one s with a | a <;> rcases Nat.mod_two_eq_zero_or_one t with b | b <;> simp_all
  have e3 : s / 2 = t / 2 := by
    unfold round at h
    rw [e2] at h
    exact xor_right h
  omega

/-- A byte's eight rounds. -/
def rounds : Nat → Nat → Nat
  | 0, s => s
  | k + 1, s => rounds k (round s)
theorem rounds_lt : ∀ (k s : Nat), s < 4294967296 → rounds k s < 4294967296
  | 0, _, h => h
  | k + 1, s, h => rounds_lt k _ (round_lt s h)
theorem rounds_inj : ∀ (k s t : Nat), s < 4294967296 → t < 4294967296 → rounds k s = rounds k t → s = t
  | 0, _, _, _, _, h => h
  | k + 1, s, t, hs, ht, h => round_inj s t hs ht (rounds_inj k _ _ (round_lt s hs) (round_lt t ht) h)
def byte (s c : Nat) : Nat := rounds 8 (s ^^^ c)
theorem byte_lt (s c : Nat) (hs : s < 4294967296) (hc : c < 256) : byte s c < 4294967296 :=
  rounds_lt 8 _ (Nat.xor_lt_two_pow (n := 32) hs (by omega))
theorem byte_inj_state (s t c : Nat) (hs : s < 4294967296) (ht : t < 4294967296) (hc : c < 256) (h : byte s c = byte t c) : s = t :=
  xor_right (rounds_inj 8 _ _ (Nat.xor_lt_two_pow (n := 32) hs (by omega)) (Nat.xor_lt_two_pow (n := 32) ht (by omega)) h)
theorem byte_inj_byte (s c d : Nat) (hs : s < 4294967296) (hc : c < 256) (hd : d < 256) (h : byte s c = byte s d) : c = d :=
  xor_left (rounds_inj 8 _ _ (Nat.xor_lt_two_pow (n := 32) hs (by omega)) (Nat.xor_lt_two_pow (n := 32) hs (by omega)) h)

/-- The state behind bytes. -/
def run (s : Nat) (l : List Nat) : Nat := l.foldl byte s
theorem run_lt : ∀ (l : List Nat) (s : Nat), s < 4294967296 → (∀ c, c ∈ l → c < 256) → run s l < 4294967296
  | [], _, h, _ => h
  | c :: l, s, h, hc => run_lt l (byte s c) (byte_lt s c h (hc c (List.mem_cons_self ..))) fun d hd => hc d (List.mem_cons_of_mem _ hd)
theorem run_inj : ∀ (l : List Nat) (s t : Nat), s < 4294967296 → t < 4294967296 → (∀ c, c ∈ l → c < 256) → run s l = run t l → s = t
  | [], _, _, _, _, _, h => h
  | c :: l, s, t, hs, ht, hc, h => by
    have hc0 := hc c (List.mem_cons_self ..)
    exact byte_inj_state s t c hs ht hc0 (run_inj l _ _ (byte_lt s c hs hc0) (byte_lt t c ht hc0) (fun d hd => hc d (List.mem_cons_of_mem _ hd)) h)
/-- Two texts that differ in one byte leave unlike states. -/
theorem run_one (a b : List Nat) (c d s : Nat) (hs : s < 4294967296) (ha : ∀ x, x ∈ a → x < 256) (hb : ∀ x, x ∈ b → x < 256) (hc : c < 256) (hd : d < 256) (h : run s (a ++ c :: b) = run s (a ++ d :: b)) : c = d := by
  unfold run at h
  rw [List.foldl_append, List.foldl_append] at h
  have hl : run s a < 4294967296 := run_lt a s hs ha
  exact byte_inj_byte _ c d hl hc hd (run_inj b _ _ (byte_lt _ c hl hc) (byte_lt _ d hl hd) hb h)
end Go.Proofs.Ytceeoifbimlkdaa.Crc
