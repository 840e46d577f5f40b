/-
  Hashes under a tag: Tagged, group.Hash, walked.
-/
import Derived.Test.YtoeobcmmafncmaaDoorMag
import Derived.Lib.ConvBytes
import Derived.Test.YtoeobcmmafncmaaDoorMaf
import Derived.Maps.AppendAt
namespace Go.Proofs.YtoeobcmmafncmaaDoor
open Go.RowKit

/-- The bytes of a string. -/
def sb (s : ByteArray) : List Nat := s.data.toList.map UInt8.toNat
theorem sb_len (s : ByteArray) : (sb s).length = s.size := by simp [sb]
theorem sb_ok (s : ByteArray) : okB (sb s) := by
  intro x hx
  obtain ⟨u, _, rfl⟩ := List.mem_map.1 hx
  exact u.toNat_lt
/-- A digest as a value. -/
def dig (l : List Nat) : Value := .agg (byts l).toArray
theorem okB_sha (l : List Nat) : okB (shaN l) := by
  intro x hx
  obtain ⟨v, _, hv⟩ := List.mem_flatMap.1 hx
  exact bytesN_lt v 4 x hv

theorem below_bytes (w : World) (e : TypeId) (s : ByteArray) : Below w.heap.size w (Lib.bytesWorld w e s) :=
  ⟨rfl, rfl, rfl, by rw [Lib.bytesWorld_size]; omega, fun k hk => Lib.bytesWorld_at_old w e s k hk⟩
theorem rd_bytes (w : World) (e : TypeId) (s : ByteArray) (b : Nat) (hb : b = w.heap.size) : Rd (Lib.bytesWorld w e s) (Lib.bytesWorld w e s).heap.size 1 (some ⟨b, 0, none⟩) s.size (byts (sb s)) := by
  subst hb
  refine ⟨by rw [byts_length, sb_len]; omega, fun _ => ⟨w.heap.size, 0, rfl, by rw [Lib.bytesWorld_size]; omega, fun j u hj => ?_⟩⟩
  have hl : j < s.size := by
    have := (List.getElem?_eq_some_iff.1 hj).1
    rw [byts_length, sb_len] at this
    exact this
  rw [Nat.zero_add, Lib.bytesWorld_cell w e s j hl, ← hj]
  unfold byts sb
  have h2 : j < s.data.toList.length := by simpa using hl
  rw [List.getElem?_map, List.getElem?_map, List.getElem?_eq_getElem h2, List.getD_eq_getElem?_getD, List.getElem?_eq_getElem h2]
  rfl

set_option maxRecDepth 100000 in
set_option maxHeartbeats 2000000 in
theorem tagged_any (s : ByteArray) (A : Option Addr) (n c : Nat) (l : List Nat) (W : World) (hA : Rd W W.heap.size 1 A n (byts l)) (hnil : A = none → n = 0 ∧ c = 0) (ho : okB l) (hs : s.size ≤ 1000000) (hn : n ≤ 70368744177000) (hG : ShaG W) :
    Calls Tryd.prog 65 #[.string s, .slice A n c] W (Ret (dig (taggedN (sb s) l)) W) := by
  obtain rfl : l.length = n := by have := hA.1; rw [byts_length, Nat.mul_one] at this; exact this
  go_enter Tryd.func65, Tryd.ntmps65
  have hcv := fun (w : World) => Lib.run_convert_string_bytes (P := Tryd.prog) w 9 24 5 s Tryd.underlying9 Tryd.underlying24 Tryd.underlying5
  go_upto_region 1 with fail
  change Code.wp _ _ _ _ (W.alloc (.cells (byts (zerosN 32)).toArray 30))
  have BD := Blk.new W 30 (byts (zerosN 32)).toArray _ rfl
  have hb := bAl (bRefl W) (.cells (byts (zerosN 32)).toArray 30)
  generalize W.alloc (.cells (byts (zerosN 32)).toArray 30) = w1 at *
  go_wp2_with fail
  refine (sum_any _ _ _ (sb s) _ (by exact rd_bytes w1 _ s _ rfl) (sb_ok s) (by exact grownCap_ge _ _ _ _) (by exact grownCap_le_maxLen _ _ _ _ (by unfold maxLen; omega)) (by exact (hG.below hb).below (below_bytes _ _ _))).mono ?_
  rintro e w2 ⟨rfl, b2⟩
  have hbB := bCall hb (below_bytes w1 5 s)
  have hb2 := bCall hbB b2
  have BD2 : Blk w2 W.heap.size 30 (byts (zerosN 32)).toArray := (BD.below (below_bytes w1 5 s) BD.lt).below b2 (by rw [Lib.bytesWorld_size]; have := BD.lt; omega)
  clear b2 hbB BD hb hcv
  have st1 := store_dig (shaN (sb s)) (shaN_len _)
  have ln1 : (byts (shaN (sb s))).length = 32 := by rw [byts_length, shaN_len]
  go_upto_region 2 with fail
  have BT := Blk.new w2 30 (byts (shaN (sb s))).toArray _ rfl
  have hb3 := bAl hb2 (.cells (byts (shaN (sb s))).toArray 30)
  have BD3 := BD2.alloc (.cells (byts (shaN (sb s))).toArray 30)
  have hlt : W.heap.size < w2.heap.size := BD2.lt
  clear hb2 BD2 st1 ln1
  generalize w2.alloc (.cells (byts (shaN (sb s))).toArray 30) = w3 at *
  generalize w2.heap.size = bt at *
  go_wp2_with fail
  have hS : Rd (w3.alloc (.cells #[.slice (some ⟨bt, 0, none⟩) 32 32, .slice A l.length c] 24)) (w3.alloc (.cells #[.slice (some ⟨bt, 0, none⟩) 32 32, .slice A l.length c] 24)).heap.size 1 (some ⟨w3.heap.size, 0, none⟩) 2 ([(⟨some ⟨bt, 0, none⟩, 32, shaN (sb s)⟩ : BSl), ⟨A, c, l⟩].map BSl.val) := by
    have h := Rd.new w3 [.slice (some ⟨bt, 0, none⟩) 32 32, .slice A l.length c] 24 1 2 _ rfl rfl
    have e : [(⟨some ⟨bt, 0, none⟩, 32, shaN (sb s)⟩ : BSl), ⟨A, c, l⟩].map BSl.val = [.slice (some ⟨bt, 0, none⟩) 32 32, .slice A l.length c] := by simp [BSl.val, shaN_len]
    rw [e]; exact h
  have hjoin : joinN [(⟨some ⟨bt, 0, none⟩, 32, shaN (sb s)⟩ : BSl), ⟨A, c, l⟩] = shaN (sb s) ++ l := by simp [joinN]
  have hb4 := bAl hb3 (.cells #[.slice (some ⟨bt, 0, none⟩) 32 32, .slice A l.length c] 24)
  have BT4 := BT.alloc (.cells #[.slice (some ⟨bt, 0, none⟩) 32 32, .slice A l.length c] 24)
  have BD4 := BD3.alloc (.cells #[.slice (some ⟨bt, 0, none⟩) 32 32, .slice A l.length c] 24)
  clear hb3 BT BD3
  generalize w3.alloc (.cells #[.slice (some ⟨bt, 0, none⟩) 32 32, .slice A l.length c] 24) = w4 at *
  have q := concat_any _ 2 2 _ w4 hS (by
    intro x hx
    simp only [List.mem_cons, List.not_mem_nil, or_false] at hx
    rcases hx with rfl | rfl
    · refine ⟨⟨by rw [byts_length, shaN_len], fun _ => ⟨bt, 0, rfl, BT4.lt, fun j u hu => ?_⟩⟩, fun h => by cases h⟩
      rw [Nat.zero_add, BT4.cell]; simpa using hu
    · exact ⟨(hA.below hb4).more hb4.size, hnil⟩) (by rw [hjoin, List.length_append, shaN_len]; omega) (by omega)
  obtain ⟨X, hX⟩ : ∃ X, Hid (X = shaN (sb s) ++ l) := ⟨_, Lib.hid rfl⟩
  rw [hjoin, ← hX.out] at q
  clear hS hjoin
  with_reducible refine q.mono ?_
  rintro e w5 ⟨v, rfl, b5, A5, c5, rfl, hR5, hc5, hc52, _⟩
  have hb5 := bCall hb4 b5
  have BD5 := BD4.below b5 BD4.lt
  clear q hb4 b5 BT4 BD4
  go_wp2_with fail
  with_reducible refine (sum_any A5 _ c5 X w5 hR5 (by rw [hX.out]; exact okB_app (okB_sha _) ho) hc5 hc52 (hG.below hb5)).mono ?_
  rintro e w6 ⟨rfl, b6⟩
  have hb6 := bCall hb5 b6
  have BD6 := BD5.below b6 BD5.lt
  clear hb5 b6 BD5 hR5
  have hT : Hid (taggedN (sb s) l = shaN X) := by show _ = _; rw [hX.out]; rfl
  dsimp only
  go_step
  refine wpList_store_row rfl 30 (.tmp 4) (.tmp 13) rfl W.heap.size (byts (shaN X)).toArray rfl rfl 30 _ BD6 (by rw [List.size_toArray, byts_length, shaN_len]; exact dig_info) (by rw [List.size_toArray, List.size_toArray, byts_length, byts_length, shaN_len]; rfl) (byts_one _) ?_
  have hb9 := below_setRow hb6 (Nat.le_refl _) (byts (shaN X)).toArray
  have BD9 : Blk (w6.setRow W.heap.size (byts (shaN X)).toArray) W.heap.size 30 (byts (shaN X)).toArray := setRow_heap w6 W.heap.size _ _ 30 _ BD6
  go_wp2_with fail
  exact bodyPost_ret (v := dig (shaN X)) (results_cell_row rfl _ _ W.heap.size 30 _ (0, 0) _ rfl BD9 dig_under rfl (by rw [List.size_toArray, byts_length, shaN_len]; exact dig_info)) rfl ⟨by rw [hT.out], hb9⟩

/-- The number of a hash. -/
def headN (d : List Nat) : List Nat := (d[0]?.getD 0 % 128) :: d.drop 1
def hashN (d : List Nat) : Nat := accB (headN d) 8 % 1073741789
def hashV (tag l : List Nat) : Nat := hashN (taggedN tag l)
theorem hashV_lt (tag l : List Nat) : hashV tag l < 1073741789 := Nat.mod_lt _ (by decide)
theorem headN_set {d : List Nat} (h : 0 < d.length) : (byts d).set 0 (.int .u8 ((d[0]?.getD 0 % 128 : Nat) : Int)) = byts (headN d) := by
  cases d with
  | nil => simp at h
  | cons x d => simp [byts, headN]
theorem okB_head {d : List Nat} (h : okB d) : okB (headN d) := by
  intro x hx
  unfold headN at hx
  rw [List.mem_cons] at hx
  rcases hx with rfl | hx
  · omega
  · exact okB_drop h 1 x hx
theorem accB_head (d : List Nat) (h : okB d) : ∀ k, accB (headN d) (k + 1) < 128 * 256 ^ k
  | 0 => by simp [accB, headN]; omega
  | k + 1 => by
    have h1 := accB_head d h k
    have h2 : (headN d)[k + 1]?.getD 0 < 256 := by
      cases hx : (headN d)[k + 1]? with
      | none => decide
      | some x => exact okB_head h x (List.mem_of_getElem? hx)
    show accB (headN d) (k + 1) * 256 + _ < _
    rw [Nat.pow_succ]
    omega
theorem u8_and127 (x : Nat) (h : x < 256) : bits .and .u8 (x : Int) 127 = ((x % 128 : Nat) : Int) := by
  have := u8_and_nat x 127 h (by omega)
  rw [show (127 : Nat) = 2 ^ 7 - 1 from rfl, Nat.and_two_pow_sub_one_eq_mod] at this
  exact this

theorem i64_or_nat (a b : Nat) (ha : a < 9223372036854775808) (hb : b < 9223372036854775808) : bits .or .i64 (a : Int) (b : Int) = ((a ||| b : Nat) : Int) := by
  have hab : a ||| b < 9223372036854775808 := Nat.or_lt_two_pow (n := 63) ha hb
  have key : (BitVec.ofInt 64 (a : Int) ||| BitVec.ofInt 64 (b : Int)).toNat = a ||| b := by
    rw [BitVec.toNat_or, BitVec.toNat_ofInt, BitVec.toNat_ofInt]
    have e1 : ((a : Int) % ((2 ^ 64 : Nat) : Int)).toNat = a := by omega
    have e2 : ((b : Int) % ((2 ^ 64 : Nat) : Int)).toNat = b := by omega
    rw [e1, e2]
  show IntKind.i64.wrap ((BitVec.ofInt 64 (a : Int) ||| BitVec.ofInt 64 (b : Int)).toNat : Nat) = _
  rw [key, IntKind.wrap_i64]
  omega
theorem join64 {n c : Nat} (hn : n ≤ 36028797018963967) (hc : c < 256) : bits BinOp.or IntKind.i64 ((n : Int) * 256) (c : Int) = ((n * 256 + c : Nat) : Int) := by
  have e1 : ((n : Int) * 256) = ((n * 256 : Nat) : Int) := by omega
  rw [e1, i64_or_nat _ _ (by omega) (by omega)]
  congr 1
  have := Nat.shiftLeft_add_eq_or_of_lt (b := c) (i := 8) (by omega) n
  rw [Nat.shiftLeft_eq] at this
  exact this.symm

set_option maxRecDepth 100000 in
set_option maxHeartbeats 2000000 in
theorem hash_any (s : ByteArray) (A : Option Addr) (n c : Nat) (l : List Nat) (W : World) (hA : Rd W W.heap.size 1 A n (byts l)) (hnil : A = none → n = 0 ∧ c = 0) (ho : okB l) (hs : s.size ≤ 1000000) (hn : n ≤ 70368744177000) (hG : ShaG W) :
    Calls Tryd.prog 58 #[.string s, .slice A n c] W (Ret (.int .i64 (hashV (sb s) l : Nat)) W) := by
  have q := tagged_any s A n c l W hA hnil ho hs hn hG
  obtain ⟨d, hd⟩ : ∃ d, Hid (d = taggedN (sb s) l) := ⟨_, Lib.hid rfl⟩
  have hdl : Hid (d.length = 32) := by show _ = _; rw [hd.out, taggedN_len]
  have hdo : okB d := by rw [hd.out]; exact okB_sha _
  rw [← hd.out] at q
  go_enter Tryd.func58, Tryd.ntmps58
  go_wp2_with fail
  with_reducible refine q.mono ?_
  rintro e w1 ⟨rfl, hb⟩
  clear q
  unfold dig
  have st1 := store_dig d hdl.out
  have ln1 : (byts d).length = 32 := by rw [byts_length, hdl.out]
  go_upto_region 2 with fail
  have BT := Blk.new w1 30 (byts d).toArray _ rfl
  have hb2 := bAl hb (.cells (byts d).toArray 30)
  have hlt : W.heap.size ≤ w1.heap.size := hb.size
  clear hb st1 ln1
  generalize w1.alloc (.cells (byts d).toArray 30) = w2 at *
  generalize w1.heap.size = bt at *
  obtain ⟨x, hx⟩ : ∃ x, Hid (d[0]? = some x) := ⟨_, Lib.hid (List.getElem?_eq_getElem (by rw [hdl.out]; omega))⟩
  have hx8 : x < 256 := hdo x (List.mem_of_getElem? hx.out)
  have c0 : w2.cell? ⟨bt, 0, none⟩ = some (.int .u8 x) := by rw [BT.cell]; simpa using byts_at hx.out
  have z0 := BT.frozen 0
  have ha := Lib.hid (u8_and127 x hx8)
  have hset : Hid ((byts d).set 0 (.int .u8 ((x % 128 : Nat) : Int)) = byts (headN d)) := by
    have h := headN_set (d := d) (by rw [hdl.out]; omega)
    rw [hx.out] at h
    exact h
  go_upto_region 3 with fail
  rw [ha.out]
  have BT2 := BT.set_ 0 (.int .u8 ((x % 128 : Nat) : Int))
  rw [List.setIfInBounds_toArray, hset.out] at BT2
  have hb3 := bSet hb2 (p := ⟨bt, 0, none⟩) hlt (.int .u8 ((x % 128 : Nat) : Int))
  clear BT hb2 c0 z0
  generalize w2.setCell ⟨bt, 0, none⟩ (.int .u8 ((x % 128 : Nat) : Int)) = w3 at *
  have hhl : Hid ((headN d).length = 32) := by show _ = _; simp [headN, hdl.out]
  have hho := okB_head hdo
  go_wp2_with fail
  go_loop [4, 14] (fun s i => ∃ k : Nat, k ≤ 8 ∧ i = .int .i64 k ∧ s = .int .i64 (accB (headN d) k : Nat)) (fun _ i => 8 - (intOf i).toNat)
  case atStart => exact ⟨0, Nat.zero_le _, rfl, rfl⟩
  case round =>
    obtain ⟨k, hk, rfl, rfl⟩ := hrel
    by_cases hlt : k < 8
    · obtain ⟨y, hy⟩ : ∃ y, Hid ((headN d)[k]? = some y) := ⟨_, Lib.hid (List.getElem?_eq_getElem (by rw [hhl.out]; omega))⟩
      have hy8 : y < 256 := hho y (List.mem_of_getElem? hy.out)
      have c0 : w3.cell? ⟨bt, k, none⟩ = some (.int .u8 y) := by rw [BT2.cell]; simpa using byts_at hy.out
      have hacc : accB (headN d) k ≤ 36028797018963967 := by
        rcases k with _ | k
        · simp [accB]
        · have h := accB_head d hdo k
          have h2 : 128 * 256 ^ k ≤ 128 * 256 ^ 6 := Nat.mul_le_mul_left _ (Nat.pow_le_pow_right (by omega) (by omega))
          have h3 : 128 * 256 ^ 6 = 36028797018963968 := by decide
          omega
      have hs : Hid (bits BinOp.or IntKind.i64 ((accB (headN d) k : Int) * 256) (y : Int) = ((accB (headN d) (k + 1) : Nat) : Int)) := by
        show _ = _
        rw [join64 (by omega) hy8]
        show _ = ((accB (headN d) k * 256 + (headN d)[k]?.getD 0 : Nat) : Int)
        rw [hy.out]; rfl
      have hkI : (k : Int) < 32 := by omega
      go_wp2_with fail
      exact ⟨⟨k + 1, by omega, by go_num, by rw [hs.out]⟩, by simp [intOf]; omega⟩
    · have hk8 : Hid (accB (headN d) k % 1073741789 = hashV (sb s) l) := by
        have e : k = 8 := by omega
        show _ = _
        rw [e]
        unfold hashV hashN
        rw [← hd.out]
      go_wp2_with fail
      go_ret
      exact ⟨ret_int (by rw [← hk8.out]; simp), hb3⟩

end Go.Proofs.YtoeobcmmafncmaaDoor

/-
  append onto a row of the call's own: what else has changed (nothing), and where the new row lies.
-/
namespace Go.Proofs.YtoeobcmmafncmaaDoor
open Go.RowKit

/-- w' is w with new blocks, and with stores into v's own block; v' lies there or in a new block. -/
def Grew (w w' : World) (v v' : Value) : Prop := w.grownBy w' v.ownBlock ∧ (v'.ownBlock = v.ownBlock ∨ ∃ g, v'.ownBlock = some g ∧ w.heap.size ≤ g)
theorem Grew.refl (w : World) (v : Value) : Grew w w v v := ⟨World.grownBy.refl _ _, .inl rfl⟩
theorem Grew.trans {w w1 w2 : World} {v v1 v2 : Value} (h : Grew w w1 v v1) (k : Grew w1 w2 v1 v2) : Grew w w2 v v2 := by
  obtain ⟨h1, h2⟩ := h
  obtain ⟨k1, k2⟩ := k
  refine ⟨⟨k1.1.trans h1.1, k1.2.trans h1.2, k1.3.trans h1.3, Nat.le_trans h1.size k1.size, fun i hi hr => ?_⟩, ?_⟩
  · refine (k1.block i (Nat.lt_of_lt_of_le hi h1.size) ?_).trans (h1.block i hi hr)
    rcases h2 with e | ⟨g, e, hg⟩
    · rw [e]; exact hr
    · rw [e]; intro e2; injection e2 with e2; omega
  · rcases k2 with e | ⟨g, e, hg⟩
    · rcases h2 with e2 | ⟨g2, e2, hg2⟩
      · exact .inl (e.trans e2)
      · exact .inr ⟨g2, e.trans e2, hg2⟩
    · exact .inr ⟨g, e, Nat.le_trans h1.size hg⟩
/-- After blocks of one's own and draws. -/
theorem Grew.pre {w w1 w2 : World} {v v' : Value} (hb : Below w.heap.size w w1) (h : Grew w1 w2 v v') : Grew w w2 v v' := by
  obtain ⟨h1, h2⟩ := h
  refine ⟨⟨h1.1.trans hb.os, h1.2.trans hb.tape, h1.3.trans hb.output, Nat.le_trans hb.size h1.size, fun i hi hr => (h1.block i (Nat.lt_of_lt_of_le hi hb.size) hr).trans (hb.block i hi)⟩, ?_⟩
  rcases h2 with e | ⟨g, e, hg⟩
  · exact .inl e
  · exact .inr ⟨g, e, Nat.le_trans hb.size hg⟩
theorem Grew.post {w w1 w2 : World} {v v' : Value} (h : Grew w w1 v v') (hb : Below w1.heap.size w1 w2) : Grew w w2 v v' := by
  obtain ⟨h1, h2⟩ := h
  exact ⟨⟨hb.os.trans h1.1, hb.tape.trans h1.2, hb.output.trans h1.3, Nat.le_trans h1.size hb.size, fun i hi hr => (hb.block i (Nat.lt_of_lt_of_le hi h1.size)).trans (h1.block i hi hr)⟩, h2⟩
theorem Grew.size {w w' : World} {v v' : Value} (h : Grew w w' v v') : w.heap.size ≤ w'.heap.size := h.1.size
/-- A block of another type stays. -/
theorem Grew.blk {w w' : World} {v v' : Value} {base : Nat} {e t : TypeId} {size n g : Nat} {xs : List Value} {cs : Array Value} (h : Grew w w' v v') (hown : w.ownsRow base e size v n xs) (hB : Blk w g t cs) (hne : t ≠ e) : Blk w' g t cs := by
  refine (h.1.block g hB.lt ?_).trans hB
  rcases hown.2 with ⟨rfl, _⟩ | ⟨g2, cap, cur, rfl, _, hg, _⟩
  · simp [Value.ownBlock]
  · intro e2
    have e3 : g = g2 := by simpa [Value.ownBlock] using e2
    subst e3
    unfold Blk at hB
    rw [hB] at hg
    simp at hg
    exact hne hg.2
/-- What lay below the row's base stays. -/
theorem Grew.below {w w' : World} {v v' : Value} {base : Nat} {e : TypeId} {size n : Nat} {xs : List Value} (h : Grew w w' v v') (hown : w.ownsRow base e size v n xs) (hb : base ≤ w.heap.size) : Below base w w' :=
  (Below.refl _ _).grown h.1 hb (fun k hk => (hown.lt k hk).1)
/-- A map, or whatever block is not the row's own. -/
theorem Grew.other {w w' : World} {v v' : Value} {g : Nat} (h : Grew w w' v v') (hg : g < w.heap.size) (hne : some g ≠ v.ownBlock) : w'.heap[g]? = w.heap[g]? := h.1.block g hg hne

theorem wpList_appendG {P : Program} {ops : Array Oper} {rest : List Oper} {o : Oper} {a : Act} {Q : Exit → Act → World → Prop} {w : World} (s x : Operand) (t : TypeId)
    (base : Nat) (e : TypeId) (z : Value) (size bytes : Nat) (v : Value) (n : Nat) (xs : List Value) (A : Option Addr) (m c B : Nat) (news : List Value) (hgd : o.guard = none)
    (ho : o.op = .call { callee := .builtin .append, args := #[s, x], argTypes := #[t, t] })
    (ht : P.underlying t = some (.slice e)) (hinfo : (P.info? e).map (fun i => (i.zero, i.size, i.bytes)) = some (some z, size, bytes)) (hzs : z.cells.size = size) (hsz : 0 < size)
    (hs : a.eval s = v) (hown : w.ownsRow base e size v n xs) (hx : a.eval x = .slice A m c) (hr : Rd w B size A m news) (hnil : A = none → m = 0 ∧ c = 0) (h1 : ∀ u ∈ news, u.oneCell' = true)
    (h63 : n + m ≤ maxLen) (hbytes : (n + m) * bytes ≤ 140737488355328) (hbase : base ≤ w.heap.size)
    (h : ∀ v' w', w'.ownsRow base e size v' (n + m) (xs ++ news) → Grew w w' v v' → wpList P ops Q rest (a.put o.dst v') w') :
    wpList P ops Q (o :: rest) a w := by
  obtain ⟨i0, hi, hz0, hz1, hz2⟩ := info_parts hinfo
  cases A with
  | none =>
    obtain ⟨rfl, rfl⟩ := hnil rfl
    have hn0 : news = [] := List.eq_nil_of_length_eq_zero (by rw [hr.1]; simp)
    subst hn0
    refine wpList_append_own_none hgd s x t ho base e i0 size ht hi v n xs hs hown hx ?_
    exact h v w (by simpa using hown) (Grew.refl _ _)
  | some ad =>
    refine wpList_append_own_at w hgd s x t ho base e i0 z size bytes ht hi hz0 hz1 hz2 hzs hsz v n xs hs hown ad m c news hx hr.1 ?_ h1 h63 hbytes hbase ?_
    · intro j u hj
      rcases Nat.eq_zero_or_pos m with h0 | h0
      · subst h0
        have hn0 : news = [] := List.eq_nil_of_length_eq_zero (by rw [hr.1]; simp)
        subst hn0
        simp at hj
      · obtain ⟨b, off, he, _, hc⟩ := hr.2 h0
        injection he with he
        subst he
        rw [addr_plus]
        exact hc j u hj
    · intro v' w' hown' hgrow _ hat
      refine h v' w' hown' ⟨hgrow, ?_⟩
      rcases hat with e | e
      · exact .inl e
      · exact .inr ⟨_, e, Nat.le_refl _⟩
/-- append of one element that has just been laid. -/
theorem wpList_append1G {P : Program} {ops : Array Oper} {rest : List Oper} {o : Oper} {a : Act} {Q : Exit → Act → World → Prop} (w0 : World) (news : List Value) (s x : Operand) (t : TypeId)
    (base : Nat) (e : TypeId) (z : Value) (size bytes : Nat) (v : Value) (n : Nat) (xs : List Value) (hgd : o.guard = none)
    (ho : o.op = .call { callee := .builtin .append, args := #[s, x], argTypes := #[t, t] })
    (ht : P.underlying t = some (.slice e)) (hinfo : (P.info? e).map (fun i => (i.zero, i.size, i.bytes)) = some (some z, size, bytes)) (hzs : z.cells.size = size) (hsz : 0 < size)
    (hs : a.eval s = v) (hown : w0.ownsRow base e size v n xs) (hx : a.eval x = .slice (some ⟨w0.heap.size, 0, none⟩) 1 1) (hl : news.length = size) (h1 : ∀ u ∈ news, u.oneCell' = true)
    (h63 : n + 1 ≤ maxLen) (hbytes : (n + 1) * bytes ≤ 140737488355328) (hbase : base ≤ w0.heap.size)
    (h : ∀ v' w', w'.ownsRow base e size v' (n + 1) (xs ++ news) → Grew w0 w' v v' → wpList P ops Q rest (a.put o.dst v') w') :
    wpList P ops Q (o :: rest) a (w0.alloc (.cells news.toArray e)) := by
  refine wpList_appendG s x t base e z size bytes v n xs (some ⟨w0.heap.size, 0, none⟩) 1 1 _ news hgd ho ht hinfo hzs hsz hs (hown.alloc _) hx
    (Rd.new w0 news e size 1 _ rfl (by rw [hl, Nat.one_mul])) (fun h => by cases h) h1 h63 hbytes (by simp; omega) fun v' w' hown' hg => ?_
  exact h v' w' hown' (hg.pre (bAl (bRefl _) _))

end Go.Proofs.YtoeobcmmafncmaaDoor
