/-
  equal: texts of numbers, challenges, walked.
-/
import Derived.Test.YtoeobcmmafncmaaDoorMak
import Derived.Test.YtoeobcmmafncmaaDoorMan
import Derived.RangeFuncBox
namespace Go.Proofs.YtoeobcmmafncmaaDoor
open Go.RowKit

theorem value_info : (Tryd.prog.info? 148).map (fun i => (i.zero, i.size, i.bytes)) = some (some (.agg #[.int .i64 0, .int .i64 0, .string ⟨#[]⟩, .slice none 0 0]), 4, 56) := by kernel_rfl
theorem it_one (x : It) : ∀ u ∈ x.cells, u.oneCell' = true := by
  cases x <;> (intro u hu; simp [It.cells] at hu; rcases hu with rfl | rfl | rfl | rfl <;> rfl)
def inI (n : Int) : Prop := -9223372036854775808 ≤ n ∧ n ≤ 9223372036854775807

theorem val_cell {w : World} {b : Nat} {t : TypeId} {x0 x1 x2 x3 : Value} (h : Blk w b t #[x0, x1, x2, x3]) : w.cell? ⟨b, 3, none⟩ = some x3 := h.cell 3
theorem ownsRow_set {w : World} {base : Nat} {e : TypeId} {size n : Nat} {v : Value} {xs : List Value} (h : w.ownsRow base e size v n xs) {p : Addr} (hp : p.block < base) (u : Value) : (w.setCell p u).ownsRow base e size v n xs := by
  refine h.kept (row := some p.block) ⟨rfl, rfl, rfl, by simp [World.setCell], fun k _ hk => Below.heap_setCell _ _ _ k (fun e => hk (by rw [e]))⟩ ?_
  cases hv : v.ownBlock with
  | none => exact .inl rfl
  | some k => exact .inr (by intro e; injection e with e; have := (h.lt k hv).1; omega)

set_option maxRecDepth 100000 in
set_option maxHeartbeats 2000000 in
theorem equal_text (A : Option Addr) (n c : Nat) (l : List Int) (W : World) (hA : Rd W W.heap.size 1 A n (ints l)) (hok : ∀ x ∈ l, inI x) (hn : n ≤ 100) :
    Calls Tryd.prog 59 #[.slice A n c] W (RetSl 1 (encN (l.map It.int)).length (byts (encN (l.map It.int))) W) := by
  obtain rfl : l.length = n := by have := hA.1; rw [ints_length, Nat.mul_one] at this; exact this
  go_enter Tryd.func59, Tryd.ntmps59
  go_wp2_with fail
  have BV := Blk.new W 148 #[.int .i64 3, .int .i64 0, .string ⟨#[]⟩, .slice none 0 0] _ rfl
  have hb := bAl (bRefl W) (.cells #[.int .i64 3, .int .i64 0, .string ⟨#[]⟩, .slice none 0 0] 148)
  generalize W.alloc (.cells #[.int .i64 3, .int .i64 0, .string ⟨#[]⟩, .slice none 0 0] 148) = w1 at *
  go_loopw [11] (fun i wr => ∃ (k : Nat) (v : Value), k ≤ l.length ∧ i = .int .i64 k ∧ Below W.heap.size W wr ∧ Blk wr W.heap.size 148 #[.int .i64 3, .int .i64 0, .string ⟨#[]⟩, v] ∧ wr.ownsRow (W.heap.size + 1) 148 4 v k (((l.take k).map It.int).flatMap It.cells)) (fun i _ => l.length - (intOf i).toNat)
  case atStart => exact ⟨0, _, Nat.zero_le _, rfl, hb, BV, World.ownsRow_nil _ _ _ _⟩
  case round =>
    clear hb BV
    obtain ⟨k, v, hk, rfl, hb, BV, hown⟩ := hrel
    have c3 : wr.cell? ⟨W.heap.size, 3, none⟩ = some v := BV.cell 3
    have z3 := BV.frozen 3
    by_cases hlt : k < l.length
    · obtain ⟨x, hx⟩ : ∃ x, Hid (l[k]? = some x) := ⟨_, Lib.hid (List.getElem?_eq_getElem hlt)⟩
      obtain ⟨b, off, rfl, hbb, d0⟩ := Int_at (hA.below hb) hlt hx.out
      have hsn : Hid (((l.take (k + 1)).map It.int).flatMap It.cells = ((l.take k).map It.int).flatMap It.cells ++ (It.int x).cells) := by
        obtain ⟨hk, rfl⟩ := List.getElem?_eq_some_iff.1 hx.out
        show _ = _
        rw [List.take_succ_eq_append_getElem hk, List.map_append, List.flatMap_append]; simp
      have hbs : W.heap.size + 1 ≤ wr.heap.size := BV.lt
      have hone := it_one (.int x)
      have h63 : k + 1 ≤ maxLen := by unfold maxLen; omega
      have hby : (k + 1) * 56 ≤ 140737488355328 := by omega
      go_wp2_with (at_builtin; refine wpList_append1G wr [.int .i64 1, .int .i64 x, .string ⟨#[]⟩, .slice none 0 0] (.tmp 16) (.tmp 19) 146 (W.heap.size + 1) 148 (.agg #[.int .i64 0, .int .i64 0, .string ⟨#[]⟩, .slice none 0 0]) 4 56 v k (((l.take k).map It.int).flatMap It.cells) rfl rfl Tryd.underlying146 value_info rfl (by omega) rfl hown rfl rfl hone h63 hby hbs ?_; intro v' w' hown4 hg4; obtain ⟨g', cap', rfl⟩ := ownsRow_succ hown4; have b4 := hg4.below hown hbs; have BV4 := BV.below b4 (by omega); have c4 := val_cell BV4; have z4 := BV4.frozen 3)
      go_roundw
      case rel =>
        exact ⟨k + 1, _, by omega, by go_num, bSet (hb.trans (b4.mono (by omega))) (Nat.le_refl _) _, BV4.set_ 3 _, by rw [hsn.out]; exact ownsRow_set hown4 (p := ⟨W.heap.size, 3, none⟩) (by show W.heap.size < W.heap.size + 1; omega) _⟩
      case measure => simp [intOf]; omega
    · have hkn : k = l.length := by omega
      rw [hkn, List.take_length] at hown
      clear hkn
      obtain ⟨A2, c2, hv, hR, _⟩ := Sl.of_own hown
      subst hv
      have e0 : wr.cell? ⟨W.heap.size, 0, none⟩ = some (.int .i64 3) := BV.cell 0
      have e1 : wr.cell? ⟨W.heap.size, 1, none⟩ = some (.int .i64 0) := BV.cell 1
      have e2 : wr.cell? ⟨W.heap.size, 2, none⟩ = some (.string ⟨#[]⟩) := BV.cell 2
      have q := encode_list A2 l.length c2 (l.map It.int) wr hR (by
        intro x hx
        obtain ⟨y, hy, rfl⟩ := List.mem_map.1 hx
        exact hok y hy) (by omega)
      unfold listV at q
      go_wp2_with fail
      with_reducible refine q.mono ?_
      rintro e w5 ⟨v, rfl, b5, hv⟩
      have hb5 := bCall hb b5
      go_wp2_with fail
      go_ret
      exact ⟨_, rfl, hb5, hv⟩

theorem encN_len {l : List It} (h : ∀ x ∈ l, x.ok) (hl : l.length ≤ 1000) : (encN l).length ≤ 1000012012 := by
  have h1 := encL_len h
  have h2 := (numF_len 10 l.length).2
  have h3 : l.length * 1000012 ≤ 1000 * 1000012 := Nat.mul_le_mul_right _ hl
  unfold encN
  rw [List.length_cons, List.length_append]
  unfold numN; omega
/-- The challenge of a proof. -/
def chalS : ByteArray := ⟨#[101, 113, 117, 97, 108]⟩
def chalV (key a d r s : Int) : Nat := hashV (sb chalS) (encN [.int key, .int a, .int d, .int r, .int s])

set_option maxRecDepth 100000 in
set_option maxHeartbeats 2000000 in
theorem challenge_any (key a d r s : Int) (W : World) (h1 : inI key) (h2 : inI a) (h3 : inI d) (h4 : inI r) (h5 : inI s) (hG : ShaG W) :
    Calls Tryd.prog 60 #[.int .i64 key, .int .i64 a, .int .i64 d, .int .i64 r, .int .i64 s] W (Ret (.int .i64 (chalV key a d r s : Nat)) W) := by
  go_enter Tryd.func60, Tryd.ntmps60
  go_wp2_with fail
  refine (equal_text _ 5 5 [key, a, d, r, s] _ (by exact Rd.new W (ints [key, a, d, r, s]) _ 1 5 _ rfl rfl) (by
    intro x hx
    simp only [List.mem_cons, List.not_mem_nil, or_false] at hx
    rcases hx with rfl | rfl | rfl | rfl | rfl <;> assumption) (by omega)).mono ?_
  rintro e w2 ⟨v, rfl, b2, A2, c2, rfl, hR, _, _, hnil⟩
  have hb2 := bCall (bAl (bRefl W) _) b2
  clear b2
  have hl := encN_len (l := [.int key, .int a, .int d, .int r, .int s]) (by
    intro x hx
    simp only [List.mem_cons, List.not_mem_nil, or_false] at hx
    rcases hx with rfl | rfl | rfl | rfl | rfl <;> assumption) (by simp)
  have q := hash_any chalS A2 _ c2 _ w2 hR hnil (okB_encN _) (by decide) (Nat.le_trans hl (by decide)) (hG.below hb2)
  clear hl hR hnil
  have q2 : Calls Tryd.prog 58 #[.string ⟨#[101, 113, 117, 97, 108]⟩, .slice A2 (encN [.int key, .int a, .int d, .int r, .int s]).length c2] w2 (Ret (.int .i64 (chalV key a d r s : Nat)) w2) := q
  go_wp2_with fail
  with_reducible refine q2.mono ?_
  rintro e w3 ⟨rfl, b3⟩
  have hb3 := bCall hb2 b3
  clear q q2
  go_wp2_with fail
  go_ret
  exact ⟨rfl, hb3⟩

end Go.Proofs.YtoeobcmmafncmaaDoor

/-
  equal: powers and products, walked.
-/
namespace Go.Proofs.YtoeobcmmafncmaaDoor
open Go.RowKit

def mulL (l : List Int) : Int := l.foldl mulV 1

def ordB (n : Int) : Bool := decide (0 ≤ n ∧ n < 1073741789)
theorem mulL_snoc (l : List Int) (x : Int) : mulL (l ++ [x]) = mulV (mulL l) x := by simp [mulL]
theorem equal_pow (a n : Int) (W : World) : Calls Tryd.prog 35 #[.int .i64 a, .int .i64 n] W (Ret (.int .i64 (powV a n)) W) := by
  have q := group_pow a n W
  go_enter Tryd.func35, Tryd.ntmps35
  go_wp2_with fail
  with_reducible refine q.mono ?_
  rintro e w1 ⟨rfl, b1⟩
  clear q
  go_wp2_with fail
  go_ret
  exact ⟨rfl, b1⟩

theorem equal_inOrder (n : Int) (W : World) : Calls Tryd.prog 63 #[.int .i64 n] W (Same (.bool (ordB n)) W) := by
  by_cases h : 0 ≤ n
  · by_cases h2 : n < 1073741789
    · have hd : Hid (ordB n = true) := decide_eq_true ⟨h, h2⟩
      go_enter Tryd.func63, Tryd.ntmps63
      go_wp2_with fail
      go_ret
      rw [hd.out]; exact ⟨rfl, rfl⟩
    · have hd : Hid (ordB n = false) := decide_eq_false (fun c => h2 c.2)
      go_enter Tryd.func63, Tryd.ntmps63
      go_wp2_with fail
      go_ret
      rw [hd.out]; exact ⟨rfl, rfl⟩
  · have hd : Hid (ordB n = false) := decide_eq_false (fun c => h c.1)
    go_enter Tryd.func63, Tryd.ntmps63
    go_wp2_with fail
    go_ret
    rw [hd.out]; exact ⟨rfl, rfl⟩

set_option maxHeartbeats 2000000 in
theorem equal_mul (A : Option Addr) (n c : Nat) (l : List Int) (W : World) (hA : Rd W W.heap.size 1 A n (ints l)) (hn : n ≤ 1000) :
    Calls Tryd.prog 34 #[.slice A n c] W (Same (.int .i64 (mulL l)) W) := by
  obtain rfl : l.length = n := by have := hA.1; rw [ints_length, Nat.mul_one] at this; exact this
  go_enter Tryd.func34, Tryd.ntmps34
  go_wp2_with fail
  go_loop [3, 8] (fun s i => ∃ k : Nat, k ≤ l.length ∧ i = .int .i64 k ∧ s = .int .i64 (mulL (l.take k))) (fun _ i => l.length - (intOf i).toNat)
  case atStart => exact ⟨0, Nat.zero_le _, rfl, rfl⟩
  case round =>
    obtain ⟨k, hkn, rfl, rfl⟩ := hrel
    by_cases hlt : k < l.length
    · obtain ⟨x, hx⟩ : ∃ x, Hid (l[k]? = some x) := ⟨_, Lib.hid (List.getElem?_eq_getElem hlt)⟩
      obtain ⟨b, off, rfl, hbb, c0⟩ := Int_at hA hlt hx.out
      have hs : Hid (mulL (l.take (k + 1)) = mulV (mulL (l.take k)) x) := by
        show _ = _
        obtain ⟨hk, rfl⟩ := List.getElem?_eq_some_iff.1 hx.out
        rw [List.take_succ_eq_append_getElem hk, mulL_snoc]
      have q := group_mul (mulL (l.take k)) x W
      go_wp2_with fail
      (with_reducible refine q.mono ?_)
      rintro e w1 ⟨rfl, rfl⟩
      clear q
      go_wp2_with fail
      exact ⟨⟨k + 1, by omega, by go_num, by rw [hs.out]⟩, by simp [intOf]; omega⟩
    · go_wp2_with fail
      go_ret
      exact ⟨ret_int (by rw [List.take_of_length_le (by omega)]), rfl⟩
theorem mulV_in (a b : Int) : 0 ≤ mulV a b ∧ mulV a b < 2147483579 := by
  unfold mulV
  split
  · split
    · exact ⟨Int.emod_nonneg _ (by omega), Int.emod_lt_of_pos _ (by omega)⟩
    · omega
  · omega
theorem mulL_in (l : List Int) : inI (mulL l) := by
  rcases List.eq_nil_or_concat l with rfl | ⟨l, x, rfl⟩
  · exact (⟨by omega, by omega⟩ : inI 1)
  · rw [List.concat_eq_append, mulL_snoc]
    have := mulV_in (mulL l) x
    unfold inI; omega
/-- Of two numbers, in a slice just made. -/
theorem equal_mul2 (a b : Int) (W : World) :
    Calls Tryd.prog 34 #[.slice (some ⟨W.heap.size, 0, none⟩) 2 2] (W.alloc (.cells #[.int .i64 a, .int .i64 b] 3)) (Same (.int .i64 (mulL [a, b])) (W.alloc (.cells #[.int .i64 a, .int .i64 b] 3))) :=
  equal_mul _ 2 2 [a, b] _ (Rd.new W (ints [a, b]) _ 1 2 _ rfl rfl) (by omega)
end Go.Proofs.YtoeobcmmafncmaaDoor
