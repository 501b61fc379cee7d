/- Proved: num.NextAt at an offset below its period, periods up to 2^20, is the least release from a tick on; a set of servers in memory, and the iterator's rests, as plain facts of a world. No conditions. -/
import Derived.Test.YtckdjcidbpnfeaaDoorHCheck2
import Derived.Test.YtckdjcidbpnfeaaDoorBx1
import Derived.Test.YtckdjcidbpnfeaaDoorOccMath
namespace Go.Proofs.YtckdjcidbpnfeaaDoor.B
open Go.RowKit Go.Proofs.YtckdjcidbpnfeaaDoorW.PrintWords Go.Proofs.YtckdjcidbpnfeaaDoorW.PrintLast Go.Proofs.YtckdjcidbpnfeaaDoorW.PrintMore

theorem next_plain (o p now : Nat) (hp : 1 ≤ p) (hp2 : p ≤ 1048576) (ho : o < p) (hn : now ≤ 4194304) : num_NextAt.f 1 (o : Int) (p : Int) (now : Int) = some (((OccMath.nx o p now : Nat) : Int), true) := by
  unfold num_NextAt.f
  rw [if_neg (by omega), decide_eq_false (by omega)]
  rw [show (1 : Nat) = 0 + 1 from rfl]
  simp only [num_NextAt.j0]
  rw [if_neg (by simp)]
  unfold OccMath.nx
  by_cases c : now ≤ o
  · rw [if_pos (by omega), if_pos c]
  · rw [if_neg (by omega), if_neg c, if_neg (by omega)]
    have e : wrap64 ((now : Int) - (o : Int)) = ((now - o : Nat) : Int) := by unfold wrap64; omega
    rw [e, ← Int.ofNat_tmod]
    have hd := Nat.div_add_mod (now - o) p
    have hm := Nat.mod_lt (now - o) (show p > 0 by omega)
    by_cases z : (now - o) % p = 0
    · rw [if_pos (by omega)]
      have : (now - o + p - 1) / p = (now - o) / p := by
        rw [z, Nat.add_zero] at hd
        conv => lhs; rw [show now - o + p - 1 = p - 1 + p * ((now - o) / p) by omega]
        rw [Nat.add_mul_div_left _ _ (by omega), Nat.div_eq_of_lt (by omega), Nat.zero_add]
      rw [this, Nat.mul_comm]
      have : ((now : Nat) : Int) = ((o + p * ((now - o) / p) : Nat) : Int) := by omega
      rw [this]
    · rw [if_neg (by omega)]
      have : (now - o + p - 1) / p = (now - o) / p + 1 := by
        conv => lhs; rw [show now - o + p - 1 = ((now - o) % p - 1) + p * ((now - o) / p + 1) by rw [Nat.mul_add]; omega]
        rw [Nat.add_mul_div_left _ _ (by omega), Nat.div_eq_of_lt (by omega), Nat.zero_add]
      rw [this, Nat.mul_comm, Nat.mul_add, Nat.mul_one]
      generalize p * ((now - o) / p) = q at *
      have e2 : wrap64 (wrap64 ((now : Int) - (((now - o) % p : Nat) : Int)) + (p : Int)) = ((o + (q + p) : Nat) : Int) := by unfold wrap64; omega
      rw [e2, decide_eq_true (by omega)]
      have : mx ((o + (q + p) : Nat) : Int) 0 = ((o + (q + p) : Nat) : Int) := by unfold mx; split <;> omega
      rw [this]

theorem NextAt_is (o p now : Nat) (hp : 1 ≤ p) (hp2 : p ≤ 1048576) (ho : o < p) (hn : now ≤ 4194304) (w : World) :
    Calls Tryd.prog 84 #[.int .i64 (o : Int), .int .i64 (p : Int), .int .i64 (now : Int)] w fun e w' => e = .returned (.tuple #[.int .i64 (OccMath.nx o p now : Nat), .bool true]) ∧ Below w.heap.size w w' :=
  num_NextAt.calls 1 _ _ _ _ _ w (next_plain o p now hp hp2 ho hn)

theorem nx_bd (o p now : Nat) (hp : 1 ≤ p) (hp2 : p ≤ 1048576) (ho : o < p) (hn : now ≤ 4194304) : now ≤ OccMath.nx o p now ∧ OccMath.nx o p now ≤ 5242880 := by
  unfold OccMath.nx
  by_cases c : now ≤ o
  · rw [if_pos c]; omega
  · rw [if_neg c]
    have := OccMath.up_mul (now - o) p hp
    omega

/-- Servers as plain numbers. -/
def sv (l : List S24) : OccMath.Sv :=
  ⟨l.length, fun i => (l.getD i z24).f0.toNat, fun i => (l.getD i z24).f1.toNat, fun i => (l.getD i z24).f2.toNat, fun i => (l.getD i z24).f3.toNat⟩

/-- The servers lie in memory, below a bound. -/
def Srv (n0 : Nat) (A : Option Addr) (l : List S24) (w : World) : Prop :=
  ∀ i, i < l.length → ∃ ad : Addr, A = some ad ∧ (ad.add (i * 4)).block < n0 ∧ w.cell? (ad.add (i * 4)) = some (.int .i64 ((sv l).p i)) ∧
    w.cell? ⟨(ad.add (i * 4)).block, (ad.add (i * 4)).off + 1, none⟩ = some (.int .i64 ((sv l).b i)) ∧
    w.cell? ⟨(ad.add (i * 4)).block, (ad.add (i * 4)).off + 2, none⟩ = some (.int .i64 ((sv l).o i)) ∧
    w.cell? ⟨(ad.add (i * 4)).block, (ad.add (i * 4)).off + 3, none⟩ = some (.int .i64 ((sv l).pr i))

/-- Bounds of servers that may be. -/
def Bd (S : OccMath.Sv) : Prop := S.n ≤ 32 ∧ ∀ i, i < S.n → 1 ≤ S.p i ∧ S.p i ≤ 1048576 ∧ 1 ≤ S.b i ∧ S.b i ≤ S.p i ∧ S.o i < S.p i ∧ S.pr i < 256

theorem srv_at {l : List S24} (hok : ∀ i, i < l.length → okAt l i = true) (i : Nat) (hi : i < l.length) :
    (l.getD i z24).f0 = ((sv l).p i : Nat) ∧ (l.getD i z24).f1 = ((sv l).b i : Nat) ∧ (l.getD i z24).f2 = ((sv l).o i : Nat) ∧ (l.getD i z24).f3 = ((sv l).pr i : Nat) ∧
    1 ≤ (sv l).p i ∧ (sv l).p i ≤ 1048576 ∧ 1 ≤ (sv l).b i ∧ (sv l).b i ≤ (sv l).p i ∧ (sv l).o i < (sv l).p i ∧ (sv l).pr i < 256 := by
  have h := hok i hi
  unfold okAt validS at h
  simp only [Bool.and_eq_true, decide_eq_true_eq] at h
  dsimp only [sv]
  omega

theorem bd_of {l : List S24} (h32 : l.length ≤ 32) (hok : ∀ i, i < l.length → okAt l i = true) : Bd (sv l) :=
  ⟨h32, fun i hi => by have := srv_at hok i hi; omega⟩

theorem srv_of {n0 : Nat} {A : Option Addr} {l : List S24} {w : World} (hok : ∀ i, i < l.length → okAt l i = true) (hr : Kd.C k24 w A l.length l) (hn : w.heap.size ≤ n0) : Srv n0 A l w := by
  intro i hi
  obtain ⟨ad, rfl, x0, x1, x2, x3⟩ := at_T24 hr (i : Int) (by omega) (by omega)
  have e : rd_T24 l (i : Int) = l.getD i z24 := by simp [rd_T24]
  obtain ⟨e0, e1, e2, e3, _⟩ := srv_at hok i hi
  rw [e] at x0 x1 x2 x3
  simp only [Int.toNat_natCast] at x0 x1 x2 x3
  refine ⟨ad, rfl, Nat.lt_of_lt_of_le (World.block_lt_of_cell? w (ad.add (i * 4)) x0) hn, by rw [← e0]; exact x0, by rw [← e1]; exact x1, by rw [← e2]; exact x2, by rw [← e3]; exact x3⟩

theorem Srv.kept {n0 : Nat} {A : Option Addr} {l : List S24} {w w' : World} (h : Srv n0 A l w) (hk : ∀ k, k < n0 → w'.heap[k]? = w.heap[k]?) : Srv n0 A l w' := by
  intro i hi
  obtain ⟨ad, e, hb, x0, x1, x2, x3⟩ := h i hi
  have same : ∀ p : Addr, p.block = (ad.add (i * 4)).block → w'.cell? p = w.cell? p := fun p hp => World.cell?_of_block (w := w) (hk p.block (by rw [hp]; exact hb))
  exact ⟨ad, e, hb, (same (ad.add (i * 4)) rfl).trans x0, (same ⟨(ad.add (i * 4)).block, (ad.add (i * 4)).off + 1, none⟩ rfl).trans x1, (same ⟨(ad.add (i * 4)).block, (ad.add (i * 4)).off + 2, none⟩ rfl).trans x2, (same ⟨(ad.add (i * 4)).block, (ad.add (i * 4)).off + 3, none⟩ rfl).trans x3⟩

/-- The rests lie in a block of their own. -/
def RowAt (t : TypeId) (b : Nat) (n : Nat) (r : Nat → Nat) (w : World) : Prop := ∃ cs : Array Value, w.heap[b]? = some (.cells cs t (0, 0)) ∧ cs.size = n ∧ ∀ i, i < n → cs[i]? = some (.int .i64 (r i : Nat))

theorem RowAt.cell {t : TypeId} {b n : Nat} {r : Nat → Nat} {w : World} (h : RowAt t b n r w) (i : Nat) (hi : i < n) : w.cell? ⟨b, i, none⟩ = some (.int .i64 (r i : Nat)) := by
  obtain ⟨cs, h1, _, h2⟩ := h
  rw [blk_cell h1]; exact h2 i hi
theorem RowAt.frozen {t : TypeId} {b n : Nat} {r : Nat → Nat} {w : World} (h : RowAt t b n r w) (i : Nat) : w.frozen? ⟨b, i, none⟩ = false := by
  obtain ⟨cs, h1, _⟩ := h
  exact blk_frozen h1 i
theorem RowAt.kept {t : TypeId} {b n : Nat} {r : Nat → Nat} {w w' : World} (h : RowAt t b n r w) (e : w'.heap[b]? = w.heap[b]?) : RowAt t b n r w' := by
  obtain ⟨cs, h1, h2⟩ := h
  exact ⟨cs, e.trans h1, h2⟩
theorem RowAt.congr {t : TypeId} {b n : Nat} {r r' : Nat → Nat} {w : World} (h : RowAt t b n r w) (e : ∀ i, i < n → r i = r' i) : RowAt t b n r' w := by
  obtain ⟨cs, h1, h2, h3⟩ := h
  exact ⟨cs, h1, h2, fun i hi => by rw [h3 i hi, e i hi]⟩
theorem RowAt.put {t : TypeId} {b n : Nat} {r : Nat → Nat} {w : World} (h : RowAt t b n r w) (i : Nat) (v : Nat) : RowAt t b n (fun j => if j = i then v else r j) (w.setCell ⟨b, i, none⟩ (.int .i64 (v : Nat))) := by
  obtain ⟨cs, h1, h2, h3⟩ := h
  refine ⟨_, blk_set h1 i _, by simp [h2], fun j hj => ?_⟩
  rw [Array.getElem?_setIfInBounds]
  by_cases c : i = j
  · subst c; rw [if_pos rfl, if_pos (by omega)]; dsimp only; rw [if_pos rfl]
  · rw [if_neg c]; dsimp only; rw [if_neg (fun e => c e.symm)]; exact h3 j hj
theorem RowAt.alloc {t : TypeId} {b n : Nat} {r : Nat → Nat} {w : World} (h : RowAt t b n r w) (o : Obj) : RowAt t b n r (w.alloc o) := by
  obtain ⟨cs, h1, h2⟩ := h
  exact ⟨cs, blk_alloc h1 o, h2⟩

theorem rowAt_made {t : TypeId} {w w' : World} {n : Nat} (e : w' = w.alloc (.cells (madeCells #[.int .i64 0] n) t)) : RowAt t w.heap.size n (fun _ => 0) w' := by
  subst e
  refine ⟨_, heap_alloc_new _ _, size_madeCells _ _, fun i hi => ?_⟩
  simp [madeCells, hi, Nat.mod_one]
end Go.Proofs.YtckdjcidbpnfeaaDoor.B
