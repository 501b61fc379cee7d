/- Proved: the contracts of a Reader's calls where no fault is met: what is read is the next bytes. Conditions: the bytes are there. -/
import Derived.Test.YtceeoifbimlkdaaHClone
import Derived.Test.YtceeoifbimlkdaaHWriter
import Derived.Outline
import Derived.LoopTactic
import Derived.Laws.Slices
namespace Go.Proofs.Ytceeoifbimlkdaa.B
open Go.RowKit Go.Proofs.YtceeoifbimlkdaaW.PrintWords Go.Proofs.YtceeoifbimlkdaaW.PrintLast Go.Proofs.YtceeoifbimlkdaaW.PrintMore

/-- A Reader at block g: the bytes that are left, its fault. -/
structure RdAt (W : World) (g : Nat) (A : Option Addr) (c : Nat) (xs : List Int) (f : Int) : Prop where
  blk : W.heap[g]? = some (.cells #[.slice A xs.length c, .int .i64 f] 106 (0, 0))
  room : xs.length ≤ c
  row : Kd.C (Kd.int .u8) W A xs.length xs
  off : ∀ ad, A = some ad → ad.block ≠ g

theorem cut_tom {P : Program} (t e : TypeId) (kh km : IntKind) {i : TypeInfo} (ht : P.underlying t = some (.slice e)) (hi : P.info? e = some i) (A : Option Addr) (n c : Nat) (j : Int) (h0 : 0 ≤ j) (hm : j ≤ n) (hc : n ≤ c) :
    ∀ W : World, (Instr.slice t (.slice A n c) none (some (.int kh j)) (some (.int km j))).run P W = .ok (.slice A j.toNat j.toNat) W := by
  intro W
  have hel : P.elem t = e := by simp [Program.elem, ht]
  have hu : P.underlying t = some (.slice (P.elem t)) := by rw [hel]; exact ht
  have ha : (A.map fun x => x.add 0) = A := by cases A <;> simp [Addr.add]
  rw [run_slice_hm W t A n c hu kh km j j h0 (by omega) (by omega), hel]
  simp [sizeOf, typeInfo, hi, sliced, Result.andThen, ha]

set_option maxHeartbeats 4000000 in
set_option maxRecDepth 100000 in
theorem take_is (W : World) (g : Nat) (A : Option Addr) (c : Nat) (xs : List Int) (n : Nat) (hr : RdAt W g A c xs 0) (hn : n ≤ xs.length) :
    Calls Try.prog 116 #[.pointer (some ⟨g, 0, none⟩), .int .i64 (n : Nat)] W fun e w' =>
      e = .returned (.slice A n n) ∧ (∃ A2, RdAt w' g A2 (c - n) (xs.drop n) 0) ∧ Kd.C (Kd.int .u8) w' A (xs.take n).length (xs.take n) ∧ KeepBut W w' g none ∧ (∀ B, B ≤ g → Below B W w') := by
  obtain ⟨A2, hA2⟩ : ∃ A2, (if c = n then A else A.map (·.add (n * 1))) = A2 := ⟨_, rfl⟩
  have hmx : xs.length ≤ 9223372036854775807 := Kd.C_max hr.row
  have HR := Aside0.mk hr
  have j0 := (blk_cell hr.blk 0).trans rfl
  have j1 := (blk_cell hr.blk 1).trans rfl
  have jf := blk_frozen hr.blk 0
  have hu106 := Try.underlying106
  obtain ⟨i0, hi0, _, hsz, _⟩ := info_parts infoU8
  have hcut1 := cut_tom (P := Try.prog) 37 5 .i64 .i64 Try.underlying37 hi0 A xs.length c (n : Int) (by omega) (by omega) hr.room
  have hcut2 := cut_from (P := Try.prog) 37 5 .i64 Try.underlying37 hi0 1 hsz A xs.length c (n : Int) (by omega) (by omega)
  rw [Int.toNat_natCast] at hcut1 hcut2
  rw [hA2] at hcut2
  have HA2 := Aside0.mk hA2
  clear hA2
  have hd1 : decide (xs.length < n) = false := decide_eq_false (by omega)
  have hd0 : decide ((n : Int) < 0) = false := decide_eq_false (by omega)
  have hno : ¬ ((n : Int) < 0 ∨ xs.length < n) := by omega
  have HN := Aside0.mk hn
  clear hr hi0 hsz hn
  go_enter Try.func116, Try.ntmps116
  go_wp2
  go_ret
  have hr := HR.out
  have hn := HN.out
  have hk : KeepBut W (W.setCell ⟨g, 0, none⟩ (.slice A2 (xs.length - n) (c - n))) g none := (KeepBut.refl W g none).set_ 0 _
  have hcd := Kd.C_drop hr.row hn hr.room
  have hA2 := HA2.out
  have hoff : ∀ ad, A2 = some ad → ad.block ≠ g := fun ad h => by
    rw [← hA2] at h
    split at h
    · exact hr.off ad h
    · cases A with
      | none => cases h
      | some a => cases h; show (Addr.add a _).block ≠ g; rw [add_block]; exact hr.off a rfl
  have hcd2 : Kd.C (Kd.int .u8) W A2 (xs.drop n).length (xs.drop n) := by rw [← hA2]; exact hcd
  refine ⟨rfl, ⟨A2, ⟨?_, ?_, ?_, hoff⟩⟩, ?_, hk, fun B hB => (Below.refl B W).setCell (p := ⟨g, 0, none⟩) hB _⟩
  · rw [List.length_drop]; exact blk_put hr.blk 0 _ rfl
  · rw [List.length_drop]; have := hr.room; omega
  · exact Kd.C_keep (0 : Int) (h1 := fun _ => rfl) hcd2 hk fun ad h _ => hoff ad h
  · exact Kd.C_keep (0 : Int) (h1 := fun _ => rfl) (Kd.C_take hr.row hn) hk fun ad h _ => hr.off ad h

/-- The number of these bytes, the highest first. -/
def numV (l : List Int) : Int := l.foldl (fun x c => x * 256 + c) 0
theorem numV_snoc (l : List Int) (c : Int) : numV (l ++ [c]) = numV l * 256 + c := by simp [numV]
theorem numV_bd (l : List Int) (hw : ∀ x ∈ l, 0 ≤ x ∧ x < 256) (k : Nat) (hk : k ≤ l.length) : 0 ≤ numV (l.take k) ∧ numV (l.take k) < 256 ^ k := by
  induction k with
  | zero => simp [numV]
  | succ k ih =>
    have h := ih (by omega)
    have hx := hw (l[k]) (List.getElem_mem _)
    rw [List.take_succ_eq_append_getElem (by omega), numV_snoc, Int.pow_succ]
    generalize (256 : Int) ^ k = P at *
    omega
theorem u64_join (x y : Int) (h0 : 0 ≤ x) (h1 : x < 72057594037927936) (y0 : 0 ≤ y) (y1 : y < 256) : Go.bits .or .u64 (x * 256) y = x * 256 + y :=
  Go.bits_join .u64 64 (by decide) (fun n a b => IntWalk.u64_in n ⟨a, by have : (2 : Int) ^ 64 = 18446744073709551616 := rfl; omega⟩) 8 (x * 256) y (by omega) (by omega) (by have : (2 : Int) ^ 64 = 18446744073709551616 := rfl; omega) y0 (by omega) (by have : (2 : Int) ^ 64 = 18446744073709551616 := rfl; omega)

theorem pow256 : ∀ k : Nat, k < 8 → (256 : Int) ^ k ≤ 72057594037927936
  | 0, _ => by decide
  | 1, _ => by decide
  | 2, _ => by decide
  | 3, _ => by decide
  | 4, _ => by decide
  | 5, _ => by decide
  | 6, _ => by decide
  | 7, _ => by decide
  | n + 8, h => by omega
set_option maxHeartbeats 4000000 in
set_option maxRecDepth 100000 in
theorem rnumber_is (W : World) (g : Nat) (A : Option Addr) (c : Nat) (xs : List Int) (n : Nat) (hr : RdAt W g A c xs 0) (hn : n ≤ xs.length) (h8 : n ≤ 8) (hw : ∀ x ∈ xs, 0 ≤ x ∧ x < 256) :
    Calls Try.prog 115 #[.pointer (some ⟨g, 0, none⟩), .int .i64 (n : Nat)] W fun e w' =>
      e = .returned (.int .u64 (numV (xs.take n))) ∧ (∃ A2, RdAt w' g A2 (c - n) (xs.drop n) 0) ∧ KeepBut W w' g none ∧ (∀ B, B ≤ g → Below B W w') := by
  have HT := Aside0.mk (take_is W g A c xs n hr hn)
  obtain ⟨ys, hys⟩ : ∃ ys, xs.take n = ys := ⟨_, rfl⟩
  have hyl : ys.length = n := by rw [← hys, List.length_take]; omega
  have hyw : ∀ x ∈ ys, 0 ≤ x ∧ x < 256 := fun x hx => hw x (by rw [← hys] at hx; exact List.mem_of_mem_take hx)
  rw [hys] at HT ⊢
  have HY := Aside0.mk hyl
  have HYW := Aside0.mk hyw
  clear hr hn hw hys hyl hyw
  go_enter Try.func115, Try.ntmps115
  go_wp2_with (go_at_call 116; refine HT.out.mono ?_; rintro e w1 ⟨rfl, hrd, hC, hK, hB⟩; have HRD := Aside0.mk hrd; have HC := Aside0.mk hC; have HK := Aside0.mk hK; have HB := Aside0.mk hB; clear hrd hC hK hB)
  go_loop [5, 12] (fun x i => ∃ k : Nat, k ≤ n ∧ i = .int .i64 k ∧ x = .int .u64 (numV (ys.take k))) (fun _ i => n - (intOf i).toNat)
  case atStart => exact ⟨0, Nat.zero_le _, rfl, rfl⟩
  case round =>
    obtain ⟨k, hk, rfl, rfl⟩ := hrel
    by_cases hlt : k < n
    · have hyl := HY.out
      obtain ⟨ad, e, hx⟩ := Kd.at_int HC.out (k : Int) (by omega) (by omega)
      cases e
      rw [Int.toNat_natCast] at hx
      have hbd := numV_bd ys HYW.out k (by omega)
      have hxb := HYW.out (ys[k]'(by omega)) (List.getElem_mem _)
      have e2 : rd ys (k : Int) = ys[k]'(by omega) := by simp [rd, List.getD_eq_getElem?_getD, show k < ys.length by omega]
      rw [e2] at hx
      have hs : numV (ys.take (k + 1)) = numV (ys.take k) * 256 + ys[k]'(by omega) := by rw [List.take_succ_eq_append_getElem (by omega), numV_snoc]
      have HS := Aside0.mk hs
      generalize numV (ys.take k) = X at *
      generalize (ys[k]'(by omega)) = C at *
      clear hs e2 hyl
      go_wp2
      go_round
      case rel =>
        refine ⟨k + 1, by omega, by go_num, ?_⟩
        rw [HS.out]
        have hp := pow256 k (by omega)
        rw [IntWalk.u64_in (X * 256) (by omega), u64_join X _ hbd.1 (by omega) hxb.1 hxb.2]
      case measure => simp [intOf]; omega
    · obtain rfl : k = n := by omega
      go_wp2
      go_ret
      rw [List.take_of_length_le (by have := HY.out; omega)]
      exact ⟨rfl, HRD.out, HK.out, HB.out⟩

/-- The bytes of a list are bytes. -/
def BytesOk (l : List Int) : Prop := ∀ x ∈ l, 0 ≤ x ∧ x < 256
set_option maxHeartbeats 4000000 in
theorem rU16_is (W : World) (g : Nat) (A : Option Addr) (c : Nat) (xs : List Int) (hr : RdAt W g A c xs 0) (hn : 2 ≤ xs.length) (hw : BytesOk xs) :
    Calls Try.prog 51 #[.pointer (some ⟨g, 0, none⟩)] W fun e w' =>
      e = .returned (.int .i64 (numV (xs.take 2))) ∧ (∃ A2, RdAt w' g A2 (c - 2) (xs.drop 2) 0) ∧ KeepBut W w' g none ∧ (∀ B, B ≤ g → Below B W w') := by
  have HN := Aside0.mk (rnumber_is W g A c xs 2 hr hn (by omega) hw)
  have hbd := numV_bd xs hw 2 hn
  have hq : IntKind.i64.wrap (numV (xs.take 2)) = numV (xs.take 2) := IntWalk.i64_in _ (by omega)
  generalize numV (xs.take 2) = X at *
  rw [show ((2 : Nat) : Int) = 2 from rfl] at HN
  clear hr hn hw
  go_enter Try.func51, Try.ntmps51
  go_wp2_with (go_at_call 115; refine HN.out.mono ?_; rintro e w' ⟨rfl, h1, h2, h3⟩)
  go_ret
  exact ⟨by first | rfl | (simp [hq]; done), h1, h2, h3⟩
set_option maxHeartbeats 4000000 in
set_option maxRecDepth 100000 in
theorem rBool_is (W : World) (g : Nat) (A : Option Addr) (c : Nat) (x : Int) (xs : List Int) (hr : RdAt W g A c (x :: xs) 0) (hx : 0 ≤ x ∧ x ≤ 1) (hw : BytesOk xs) :
    Calls Try.prog 54 #[.pointer (some ⟨g, 0, none⟩)] W fun e w' =>
      e = .returned (.bool (x == 1)) ∧ (∃ A2, RdAt w' g A2 (c - 1) xs 0) ∧ KeepBut W w' g none ∧ (∀ B, B ≤ g → Below B W w') := by
  have hw2 : ∀ y ∈ x :: xs, 0 ≤ y ∧ y < 256 := by
    intro y hy
    rcases List.mem_cons.1 hy with rfl | h
    · omega
    · exact hw y h
  have HN := Aside0.mk (rnumber_is W g A c (x :: xs) 1 hr (by simp) (by omega) hw2)
  rw [show numV ((x :: xs).take 1) = x by simp [numV], show (x :: xs).drop 1 = xs from rfl, show ((1 : Nat) : Int) = 1 from rfl] at HN
  have j0 := (blk_cell hr.blk 0).trans rfl
  have j1 := (blk_cell hr.blk 1).trans rfl
  have hu106 := Try.underlying106
  obtain ⟨ad, e, hc⟩ := Kd.at_int hr.row 0 (by omega) (by simp)
  cases e
  have hc0 : W.cell? ad = some (.int .u8 x) := by
    have e0 : ad.add 0 = ad := by cases ad; simp [Addr.add]
    have h : W.cell? (ad.add 0) = some (.int .u8 x) := hc
    rwa [e0] at h
  obtain ⟨n, hn⟩ : ∃ n, (x :: xs).length = n := ⟨_, rfl⟩
  have hn1 : 1 ≤ n := by rw [← hn]; simp
  rw [hn] at j0
  have hd1 : decide (0 < n) = true := decide_eq_true (by omega)
  have hd2 : decide (1 < x) = false := decide_eq_false (by omega)
  have hx1 := hx
  clear hr hw hw2 hc hn hx
  go_enter Try.func54, Try.ntmps54
  go_wp2_with (go_at_call 115; refine HN.out.mono ?_; rintro e w' ⟨rfl, h1, h2, h3⟩)
  go_ret
  exact ⟨rfl, h1, h2, h3⟩
set_option maxHeartbeats 4000000 in
theorem rLeft_is (W : World) (g : Nat) (A : Option Addr) (c : Nat) (xs : List Int) (f : Int) (hr : RdAt W g A c xs f) :
    Calls Try.prog 43 #[.pointer (some ⟨g, 0, none⟩)] W fun e w' => e = .returned (.int .i64 (xs.length : Nat)) ∧ W = w' := by
  have j0 := (blk_cell hr.blk 0).trans rfl
  have hu106 := Try.underlying106
  clear hr
  go_enter Try.func43, Try.ntmps43
  go_wp2
  go_ret
  exact ⟨rfl, rfl⟩
set_option maxHeartbeats 4000000 in
theorem rDone_is (W : World) (g : Nat) (A : Option Addr) (c : Nat) (xs : List Int) (hr : RdAt W g A c xs 0) :
    Calls Try.prog 41 #[.pointer (some ⟨g, 0, none⟩)] W fun e w' => e = .returned (.int .i64 (if xs = [] then 0 else 20)) ∧ W = w' := by
  have j0 := (blk_cell hr.blk 0).trans rfl
  have j1 := (blk_cell hr.blk 1).trans rfl
  have hu106 := Try.underlying106
  clear hr
  by_cases h : xs = []
  · subst h
    rw [if_pos rfl]
    go_enter Try.func41, Try.ntmps41
    go_wp2
    go_ret
    exact ⟨rfl, rfl⟩
  · rw [if_neg h]
    obtain ⟨n, hn⟩ : ∃ n, xs.length = n := ⟨_, rfl⟩
    have hn1 : 0 < n := by rw [← hn]; exact List.length_pos_iff.2 h
    rw [hn] at j0
    have hd1 : decide (0 < n) = true := decide_eq_true (by omega)
    clear hn h
    go_enter Try.func41, Try.ntmps41
    go_wp2
    go_ret
    exact ⟨rfl, rfl⟩
set_option maxHeartbeats 4000000 in
theorem newReader_is (W : World) (A : Option Addr) (c : Nat) (xs : List Int) (hr : Kd.C (Kd.int .u8) W A xs.length xs) (hc : xs.length ≤ c) (hl : xs.length < 140737488355328) :
    Calls Try.prog 39 #[.slice A xs.length c] W fun e w' => ∃ g A2 c2, e = .returned (.pointer (some ⟨g, 0, none⟩)) ∧ W.heap.size ≤ g ∧ RdAt w' g A2 c2 xs 0 ∧ Below W.heap.size W w' := by
  have HN := Aside0.mk (bytes_Clone.calls A c xs xs W hr hc (by unfold bytes_Clone.f; rw [if_pos (by simpa using hl)]))
  have hu106 := Try.underlying106
  clear hr
  go_enter Try.func39, Try.ntmps39
  go_wp2_with (go_at_call 66; refine HN.out.mono ?_; rintro e w1 ⟨v1, rfl, hR, hB⟩; obtain ⟨A2, c2, rfl⟩ := Kd.R_slice hR; have HR := Aside0.mk hR; have HB := Aside0.mk hB; clear hR hB)
  go_ret
  have h := Kd.R_reads' HR.out
  refine ⟨w1.heap.size, A2, c2, rfl, HB.out.size, ⟨heap_alloc_new _ _, h.2.1, Kd.C_alloc h.2.2 _, ?_⟩, HB.out.alloc HB.out.size _⟩
  intro ad ha
  subst ha
  obtain ⟨h0, ⟨h1, h2⟩ | ⟨b, cap, cur, e1, e2, e3, e4⟩⟩ := Kd.own_of_R HR.out
  · cases h1
  · cases e1
    have := blk_lt e3
    show b ≠ _
    omega
end Go.Proofs.Ytceeoifbimlkdaa.B
