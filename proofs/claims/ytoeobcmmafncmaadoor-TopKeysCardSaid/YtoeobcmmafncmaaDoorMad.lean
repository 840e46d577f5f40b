/-
  SHA-256: rotated, word, put, walked.
-/
import Derived.Test.YtoeobcmmafncmaaDoorMac
import Derived.Test.YtoeobcmmafncmaaDoorMaa
import Derived.StillTailTactics
import Derived.BigQuiet
namespace Go.Proofs.YtoeobcmmafncmaaDoor
open Go.RowKit

theorem xor_nat (a b : Nat) (ha : a < 4294967296) (hb : b < 4294967296) : bits BinOp.xor IntKind.u32 (a : Int) (b : Int) = ((a ^^^ b : Nat) : Int) := u32_xor_nat a b ha hb

set_option maxHeartbeats 1000000 in
theorem rotated_e (v : Nat) (w : World) (h1 : v < 4294967296) : Calls Tryd.prog 99 #[.int .u32 v, .int .i64 6, .int .i64 11, .int .i64 25] w (Same (.int .u32 (rot3 v 6 11 25 : Nat)) w) := by
  have e1 := rotN_lt (a := 6) h1
  have e2 := rotN_lt (a := 11) h1
  have e3 := rotN_lt (a := 25) h1
  have hx := Lib.hid (xor_nat _ _ e1 e2)
  have hy := Lib.hid (xor_nat _ _ (xor_lt e1 e2) e3)
  go_enter Tryd.func99, Tryd.ntmps99
  go_wp2_with fail
  refine (rot_any v (-6) _ h1 (by decide)).mono ?_
  rintro e w' ⟨rfl, rfl⟩
  rw [show (-(-6 : Int)).toNat = 6 from rfl]
  go_wp2_with fail
  refine (rot_any v (-11) _ h1 (by decide)).mono ?_
  rintro e w' ⟨rfl, rfl⟩
  rw [show (-(-11 : Int)).toNat = 11 from rfl]
  go_wp2_with fail
  refine (rot_any v (-25) _ h1 (by decide)).mono ?_
  rintro e w' ⟨rfl, rfl⟩
  rw [show (-(-25 : Int)).toNat = 25 from rfl]
  go_wp2_with fail
  rw [hx.out, hy.out]
  go_ret
  exact ⟨rfl, rfl⟩

set_option maxHeartbeats 1000000 in
theorem rotated_a (v : Nat) (w : World) (h1 : v < 4294967296) : Calls Tryd.prog 99 #[.int .u32 v, .int .i64 2, .int .i64 13, .int .i64 22] w (Same (.int .u32 (rot3 v 2 13 22 : Nat)) w) := by
  have e1 := rotN_lt (a := 2) h1
  have e2 := rotN_lt (a := 13) h1
  have e3 := rotN_lt (a := 22) h1
  have hx := Lib.hid (xor_nat _ _ e1 e2)
  have hy := Lib.hid (xor_nat _ _ (xor_lt e1 e2) e3)
  go_enter Tryd.func99, Tryd.ntmps99
  go_wp2_with fail
  refine (rot_any v (-2) _ h1 (by decide)).mono ?_
  rintro e w' ⟨rfl, rfl⟩
  rw [show (-(-2 : Int)).toNat = 2 from rfl]
  go_wp2_with fail
  refine (rot_any v (-13) _ h1 (by decide)).mono ?_
  rintro e w' ⟨rfl, rfl⟩
  rw [show (-(-13 : Int)).toNat = 13 from rfl]
  go_wp2_with fail
  refine (rot_any v (-22) _ h1 (by decide)).mono ?_
  rintro e w' ⟨rfl, rfl⟩
  rw [show (-(-22 : Int)).toNat = 22 from rfl]
  go_wp2_with fail
  rw [hx.out, hy.out]
  go_ret
  exact ⟨rfl, rfl⟩

def accB (l : List Nat) : Nat → Nat
  | 0 => 0
  | k + 1 => accB l k * 256 + l[k]?.getD 0
theorem accB_lt {l : List Nat} (h : okB l) : ∀ k, accB l k < 256 ^ k
  | 0 => by simp [accB]
  | k + 1 => by
    have h1 := accB_lt h k
    have h2 : l[k]?.getD 0 < 256 := by
      cases hx : l[k]? with
      | none => decide
      | some x => exact h x (List.mem_of_getElem? hx)
    show accB l k * 256 + l[k]?.getD 0 < _
    rw [Nat.pow_succ]
    omega
theorem join_byte {n c : Nat} (hn : n < 16777216) (hc : c < 256) : bits BinOp.or IntKind.u32 ((n : Int) * 256) (c : Int) = ((n * 256 + c : Nat) : Int) := by
  have e1 : ((n : Int) * 256) = ((n * 256 : Nat) : Int) := by omega
  rw [e1, u32_or_nat _ _ (by omega) (by omega)]
  congr 1
  have := Nat.shiftLeft_add_eq_or_of_lt (b := c) (i := 8) (by omega) n
  rw [Nat.shiftLeft_eq] at this
  exact this.symm

/-- A byte in memory. -/
theorem Byt_at {w : World} {B n k : Nat} {A : Option Addr} {l : List Nat} {x : Nat} (h : Rd w B 1 A n (byts l)) (hn : k < n) (hx : l[k]? = some x) :
    ∃ b off, A = some ⟨b, off, none⟩ ∧ b < B ∧ w.cell? ⟨b, off + k, none⟩ = some (.int .u8 x) := by
  obtain ⟨b, off, hA, hb, hc⟩ := h.2 (by omega)
  exact ⟨b, off, hA, hb, hc _ _ (byts_at hx)⟩

set_option maxHeartbeats 1000000 in
theorem word_any (A : Option Addr) (n c : Nat) (l : List Nat) (w : World) (hA : Rd w w.heap.size 1 A n (byts l)) (ho : okB l) (hn : 4 ≤ n) (hc : n ≤ c) (hc2 : c ≤ 9223372036854775807) :
    Calls Tryd.prog 97 #[.slice A n c] w (Same (.int .u32 (accB l 4 : Nat)) w) := by
  have hl : Hid (l.length = n) := by have := hA.1; rw [byts_length, Nat.mul_one] at this; exact this
  go_enter Tryd.func97, Tryd.ntmps97
  go_wp2
  go_loop [2, 8] (fun s i => ∃ k : Nat, k ≤ 4 ∧ i = .int .i64 k ∧ s = .int .u32 (accB l k : Nat)) (fun _ i => 4 - (intOf i).toNat)
  case atStart => exact ⟨0, Nat.zero_le _, rfl, rfl⟩
  case round =>
    obtain ⟨k, hkn, rfl, rfl⟩ := hrel
    by_cases hlt : k < 4
    · obtain ⟨x, hx⟩ : ∃ x, Hid (l[k]? = some x) := ⟨_, Lib.hid (List.getElem?_eq_getElem (by rw [hl.out]; omega))⟩
      obtain ⟨b, off, rfl, hbb, c0⟩ := Byt_at hA (show k < n by omega) hx.out
      have hx8 : x < 256 := ho x (List.mem_of_getElem? hx.out)
      have ha : accB l k < 16777216 := Nat.lt_of_lt_of_le (accB_lt ho k) (by
        have : 256 ^ k ≤ 256 ^ 3 := Nat.pow_le_pow_right (by omega) (by omega)
        exact this)
      have hs : Hid (bits BinOp.or IntKind.u32 ((accB l k : Int) * 256) (x : Int) = ((accB l (k + 1) : Nat) : Int)) := by
        show _ = _
        rw [join_byte ha hx8]
        show _ = ((accB l k * 256 + l[k]?.getD 0 : Nat) : Int)
        rw [hx.out]; rfl
      go_wp2
      exact ⟨⟨k + 1, by omega, by go_num, by rw [hs.out]⟩, by simp [intOf]; omega⟩
    · obtain rfl : k = 4 := by omega
      go_wp2
      go_ret
      exact ⟨rfl, rfl⟩

theorem grownBy_trans {a b c : World} {row : Option Nat} (h : a.grownBy b row) (k : b.grownBy c row) : a.grownBy c row :=
  ⟨k.1.trans h.1, k.2.trans h.2, k.3.trans h.3, Nat.le_trans h.size k.size, fun i hi hr => (k.block i (Nat.lt_of_lt_of_le hi h.size) hr).trans (h.block i hi hr)⟩
theorem grownBy_setCell_at (W : World) (b i : Nat) (v : Value) : W.grownBy (W.setCell ⟨b, i, none⟩ v) (some b) :=
  ⟨rfl, rfl, rfl, by simp [World.setCell], fun k _ hk => Below.heap_setCell _ _ _ k (fun e => hk (by rw [e]))⟩
theorem bytesN_cons (n : Nat) : ∀ j, bytesN n (j + 1) = (n / 256 ^ j % 256) :: bytesN n j
  | 0 => by simp [bytesN]
  | j + 1 => by
    have h := bytesN_cons (n / 256) j
    show bytesN (n / 256) (j + 1) ++ [n % 256] = _ :: (bytesN (n / 256) j ++ [n % 256])
    rw [h, Nat.div_div_eq_div_mul, Nat.pow_succ, Nat.mul_comm 256]
    rfl
/-- Bytes are put into a row of a block. -/
theorem putRow_step {pre post : List Value} {n k i : Nat} (hi : i < k) (old : List Value) (ho : old.length = k) :
    ((pre ++ (old.take (k - i) ++ byts (bytesN n i)) ++ post).set (pre.length + (k - 1 - i)) (.int .u8 ((n / 256 ^ i % 256 : Nat) : Int))) = pre ++ (old.take (k - (i + 1)) ++ byts (bytesN n (i + 1))) ++ post := by
  have e1 : k - i = (k - (i + 1)) + 1 := by omega
  have e2 : old.take (k - i) = old.take (k - (i + 1)) ++ [old[k - (i + 1)]'(by omega)] := by
    rw [e1, List.take_succ_eq_append_getElem]
  have e3 : (old.take (k - (i + 1))).length = k - 1 - i := by rw [List.length_take]; omega
  have e4 : byts (bytesN n (i + 1)) = .int .u8 ((n / 256 ^ i % 256 : Nat) : Int) :: byts (bytesN n i) := by rw [bytesN_cons]; rfl
  rw [e2, e4]
  generalize old.take (k - (i + 1)) = q at *
  generalize old[k - (i + 1)]'(by omega) = x at *
  generalize byts (bytesN n i) = r at *
  subst_vars
  have : pre ++ (q ++ [x] ++ r) ++ post = (pre ++ q) ++ (x :: (r ++ post)) := by simp
  rw [this, List.set_append_right _ _ (by simp; omega)]
  have : pre.length + (old.length - 1 - i) - (pre ++ q).length = 0 := by simp; omega
  rw [this]
  simp

set_option maxHeartbeats 1000000 in
theorem put_any (b off k c n : Nat) (t : TypeId) (pre old post : List Value) (w : World) (hB : Blk w b t (pre ++ old ++ post).toArray) (hpre : pre.length = off) (hold : old.length = k) (hk : k ≤ 8) :
    Calls Tryd.prog 87 #[.slice (some ⟨b, off, none⟩) k c, .int .u64 n] w fun r w' => r = .returned (.tuple #[]) ∧ w.grownBy w' (some b) ∧ Blk w' b t (pre ++ byts (bytesN n k) ++ post).toArray := by
  go_enter Tryd.func87, Tryd.ntmps87
  go_wp2
  go_loopw [7] (fun i wr => ∃ j : Nat, j ≤ k ∧ i = .int .i64 j ∧ w.grownBy wr (some b) ∧ Blk wr b t (pre ++ (old.take (k - j) ++ byts (bytesN n j)) ++ post).toArray) (fun i _ => k - (intOf i).toNat)
  case atStart => exact ⟨0, Nat.zero_le _, rfl, World.grownBy.refl _ _, by simp [bytesN, byts, ← hold]; simpa using hB⟩
  case round =>
    obtain ⟨j, hj, rfl, hg, hBr⟩ := hrel
    by_cases hlt : j < k
    · have hcell : ∃ v, wr.cell? ⟨b, off + (k - 1 - j), none⟩ = some v := by
        rw [hBr.cell]
        simp only [List.getElem?_toArray]
        exact ⟨_, List.getElem?_eq_getElem (by simp only [List.length_append, List.length_take, byts_length, bytesN_len]; omega)⟩
      obtain ⟨v, hv⟩ := hcell
      have hz := hBr.frozen (off + (k - 1 - j))
      have hb2 := Lib.hid (hBr.set_ (off + (k - 1 - j)) (.int .u8 ((n / 256 ^ j % 256 : Nat) : Int)))
      have hg2 := Lib.hid (grownBy_setCell_at wr b (off + (k - 1 - j)) (.int .u8 ((n / 256 ^ j % 256 : Nat) : Int)))
      have hn2 : Hid (((n : Int) / 2 ^ (8 * j) % 256) = ((n / 256 ^ j % 256 : Nat) : Int)) := by
        show _ = _
        rw [show (256 : Nat) = 2 ^ 8 by decide, ← Nat.pow_mul]
        simp
      have hst := Lib.hid (putRow_step (pre := pre) (post := post) (n := n) hlt old hold)
      go_wp2
      rw [hn2.out]
      refine ⟨⟨j + 1, by omega, by go_num, grownBy_trans hg hg2.out, ?_⟩, by simp [intOf]; omega⟩
      have h := hb2.out
      rw [List.setIfInBounds_toArray, ← hpre, hst.out] at h
      rw [← hpre]
      exact h
    · obtain rfl : j = k := by omega
      go_wp2
      go_end0
      exact ⟨rfl, hg, by simpa using hBr⟩

end Go.Proofs.YtoeobcmmafncmaaDoor

/-
  A region that draws its order, whose operations only read (its callees leave the world as it is), but for the last ones, that stand in one forced order.
-/
namespace Go.Proofs.YtoeobcmmafncmaaDoor
open Go.RowKit

/-- The world itself, under a name that stands. -/
def stay (w : World) (_ : Later) : World := w
theorem cell_stay (w : World) (x : Later) (p : Addr) : (stay w x).cell? p = w.cell? p := rfl
theorem frozen_stay (w : World) (x : Later) (p : Addr) : (stay w x).frozen? p = w.frozen? p := rfl
theorem heap_stay (w : World) (x : Later) : (stay w x).heap = w.heap := rfl
attribute [go_sem] cell_stay frozen_stay heap_stay
theorem still_of_quiet {P : Program} {o : Oper} {a : Act} {w0 : World} {next next' : Act → Prop} (hn : ∀ a, next a → next' a) (h : o.quiet P a (fun w' => ∃ x : Later, w' = stay w0 x) next) : o.still P a w0 next' := by
  obtain ⟨v, hv, hk⟩ := h
  have h1 := hv w0 ⟨default, rfl⟩
  unfold Oper.quietAt at h1
  unfold Oper.still
  generalize (execOp a.eval o).run P w0 = r at *
  cases r with
  | ok n w' =>
    cases n with
    | value u => obtain ⟨e1, e2⟩ := h1; subst e2; exact ⟨e1, hn _ hk⟩
    | skip => obtain ⟨e1, e2⟩ := h1; subst e2; exact ⟨e1, hn _ hk⟩
    | enter f args => exact ⟨h1.1, v, h1.2.mono fun e w'' ⟨he, x, hx⟩ => ⟨he, hx⟩, hn _ hk⟩
    | _ => exact h1.elim
  | halt x w' => exact h1.elim
theorem wpStill_of_quiet {P : Program} {ops : Array Oper} {w0 : World} {Q : Act → Prop} : ∀ (l : List Oper) (a : Act), wpQuiet P ops (fun w' => ∃ x : Later, w' = stay w0 x) Q l a → wpStill P ops w0 Q l a
  | [], _, h => h
  | o :: rest, a, h => by
    simp only [wpQuiet] at h
    simp only [wpStill]
    split at h
    · rename_i hw
      rw [if_pos hw]
      exact still_of_quiet (fun a' ha => wpStill_of_quiet rest a' ha) h
    · rename_i hw
      rw [if_neg hw]
      exact wpStill_of_quiet rest _ h
theorem wp_region_tail {P : Program} {id : Nat} {Q : Exit → Act → World → Prop} {a : Act} {w : World} {l : List Oper} (n : Nat) (hm : P.follows .mixedOrders = true) (hB : Region.lexTailB .any l.toArray n = true)
    (h : wpQuiet P l.toArray (fun w' => ∃ x : Later, w' = stay w.drew x) (fun a' => wpList P l.toArray Q (l.drop n) a' w.drew) (l.take n) a) : (Code.region id l.toArray true).wp P Q a w :=
  wp_region_still_tail n hm hB (wpStill_of_quiet _ _ h)
theorem stay_same {P : Program} {f : FuncId} {args : Array Value} {v : Value} {w : World} {x : Later} (h : Calls P f args (stay w x) (Same v (stay w x))) :
    Calls P f args (stay w x) fun e w'' => e = .returned v ∧ ∃ y : Later, w'' = stay w y :=
  h.mono fun _ _ ⟨he, hb⟩ => ⟨he, x, hb.symm⟩

end Go.Proofs.YtoeobcmmafncmaaDoor
