/-
  merkle: text, node, leafHash; walked.
-/
import Derived.Test.YtoeobcmmafncmaaDoorMbd
import Derived.Test.YtoeobcmmafncmaaDoorMbp
import Derived.Test.YtoeobcmmafncmaaDoorMbr
import Derived.Test.YtoeobcmmafncmaaDoorMbm
import Derived.Test.YtoeobcmmafncmaaDoorMbc
import Derived.Deep.MidRow
namespace Go.Proofs.YtoeobcmmafncmaaDoor
open Go.RowKit

theorem Blk.dwM {w : World} {g : Nat} {t : TypeId} {cs : Array Value} (h : Blk w g t cs) : Blk w.drew g t cs := h
set_option maxRecDepth 100000 in
set_option maxHeartbeats 4000000 in
theorem mk_text (s : ByteArray) (A : Option Addr) (n c : Nat) (b : List Nat) (W : World) (hj : ∀ w', Below W.heap.size W w' → Calls Tryd.prog 100 #[.slice A n c, .slice none 0 0] w' (RetSl 1 b.length (byts b) w'))
    (hs : s.size ≤ 1000000) (h0 : 0 < b.length) (hb0 : b.length ≤ 100000000000) (hG : ShaG W) :
    Calls Tryd.prog 89 #[.string s, .slice A n c] W (RetSl 1 (shaN (sb s) ++ b).length (byts (shaN (sb s) ++ b)) W) := by
  replace hj := Lib.hid hj
  go_enter Tryd.func89, Tryd.ntmps89
  have hcv := fun (w : World) => Lib.run_convert_string_bytes (P := Tryd.prog) w 9 24 5 s Tryd.underlying9 Tryd.underlying24 Tryd.underlying5
  go_wp2_with fail
  refine (sum_any _ _ _ (sb s) _ (by exact rd_bytes W _ s _ rfl) (sb_ok s) (by exact grownCap_ge _ _ _ _) (by exact grownCap_le_maxLen _ _ _ _ (by unfold maxLen; omega)) (by exact hG.below (below_bytes _ _ _))).mono ?_
  rintro e w2 ⟨rfl, b2⟩
  have hb2 := bCall (below_bytes W 5 s) b2
  clear b2 hcv
  have st1 := store_dig (shaN (sb s)) (shaN_len _)
  have ln1 : (byts (shaN (sb s))).length = 32 := by rw [byts_length, shaN_len]
  go_upto_region 2 with fail
  have BT := Blk.new w2 30 (byts (shaN (sb s))).toArray _ rfl
  have hb3 := bAl hb2 (.cells (byts (shaN (sb s))).toArray 30)
  clear hb2 st1 ln1
  generalize w2.alloc (.cells (byts (shaN (sb s))).toArray 30) = w3 at *
  generalize w2.heap.size = bt at *
  have KS : Hid (∀ w' : World, Below w3.heap.size w3 w' → True) := Lib.hid (fun _ _ => trivial)
  refine wp_region_schB (f := 2) KS [(0, 1), (1, 1), (2, 3), (3, 3), (4, 3)] ?_
  simp only [pickS, List.getElem?_cons_zero, List.getElem?_cons_succ]
  refine wpSched_t ?_
  refine wpSched_t ?_
  refine wpSched_last ?_
  first | simp only [List.map_nil] | simp only [List.map_cons, List.map_nil]
  clear KS
  replace BT := Blk.dwM BT
  replace hb3 := bDr hb3
  generalize w3.drew = w4 at *
  go_wp2_with fail
  (with_reducible refine (hj.out _ hb3).mono ?_)
  rintro e w5 ⟨v5, rfl, b5, A5, c5, rfl, hR5, hc5, hc52, hn5⟩
  have hb5 := bCall hb3 b5
  have BT5 := BT.below b5 BT.lt
  obtain ⟨g5, off5, rfl, hg5, hcc⟩ := hR5.2 h0
  clear hb3 b5 BT hj
  obtain ⟨i0, hi, hz0, hz1, hz2⟩ := info_parts byte_info
  have hi' := Lib.hid hi
  have hz0' := Lib.hid hz0
  have hz1' := Lib.hid hz1
  have hz2' := Lib.hid hz2
  obtain ⟨X, hX⟩ : ∃ X, shaN (sb s) ++ b = X := ⟨_, rfl⟩
  have hXl : Hid (X.length = 32 + b.length) := by show _ = _; rw [← hX, List.length_append, shaN_len]
  have hXb : Hid (byts X = byts (shaN (sb s)) ++ byts b) := by show _ = _; rw [← hX]; simp [byts]
  have hold : ∀ a, some (⟨bt, 0, none⟩ : Addr) = some a → ∀ j u, (byts (shaN (sb s)))[j]? = some u → w5.cell? (a.add j) = some u := by
    intro a ha j u hu
    injection ha with ha; subst ha; rw [addr_plus, Nat.zero_add, BT5.cell]; simpa using hu
  have hnew : ∀ j u, (byts b)[j]? = some u → w5.cell? ((⟨g5, off5, none⟩ : Addr).add j) = some u := fun j u hu => by rw [addr_plus]; exact hcc j u hu
  replace hold := Lib.hid hold
  replace hnew := Lib.hid hnew
  replace hX := Lib.hid hX
  have hf : 32 < 32 + b.length := by omega
  clear hi hz0 hz1 hz2 hcc hR5 BT5
  go_wp2_with (at_builtin; refine wpList_append_grows w5 (by rfl) (.tmp 9) (.tmp 11) 24 (by rfl) 5 i0 (.int .u8 0) 1 1 Tryd.underlying24 hi'.out hz0'.out hz1'.out hz2'.out rfl (by omega) (some ⟨bt, 0, none⟩) 32 32 (byts (shaN (sb s))) (by rfl) (fun h => by cases h) (by rw [byts_length, shaN_len]) hold.out ⟨g5, off5, none⟩ b.length c5 (byts b) (by rfl) (by rw [byts_length, Nat.mul_one]) hnew.out byts_oneCell hf (by unfold maxLen; omega) (by omega) ?_; intro v' w' hown hgr)
  refine NoPanic.normal ?_
  go_wp2_with fail
  go_ret
  rw [← hXb.out, ← hXl.out] at hown
  have e := hX.out
  subst e
  exact ⟨_, rfl, hb5.trans (((Below.refl _ w5).grown hgr (Nat.le_refl _) (by intro k hk; cases hk)).mono hb5.size), Sl.of_own hown⟩

set_option maxRecDepth 100000 in
set_option maxHeartbeats 4000000 in
/-- The text of two digests. -/
theorem mk_node (x y : List Nat) (hx : dgOk x) (hy : dgOk y) (W : World) (hG : ShaG W) :
    Calls Tryd.prog 90 #[dig x, dig y] W (RetSl 1 (shaN nodS ++ (x ++ y)).length (byts (shaN nodS ++ (x ++ y))) W) := by
  unfold dig
  have l1 : (byts x).toArray.size = 32 := by rw [List.size_toArray, byts_length, hx.1]
  have l2 : (byts y).toArray.size = 32 := by rw [List.size_toArray, byts_length, hy.1]
  go_enter Tryd.func90, Tryd.ntmps90
  go_upto_region 1 with fail
  have B1 := (Blk.new W 30 (byts x).toArray _ rfl).alloc (.cells (byts y).toArray 30)
  have B2 := Blk.new (W.alloc (.cells (byts x).toArray 30)) 30 (byts y).toArray _ rfl
  have hb := bAl (bAl (bRefl W) (.cells (byts x).toArray 30)) (.cells (byts y).toArray 30)
  have hn1 : (W.alloc (.cells (byts x).toArray 30)).heap.size = W.heap.size + 1 := by simp
  rw [hn1] at B2
  clear hn1 l1 l2
  generalize (W.alloc (.cells (byts x).toArray 30)).alloc (.cells (byts y).toArray 30) = w2 at *
  have KS : Hid (∀ w' : World, Below w2.heap.size w2 w' → True) := Lib.hid (fun _ _ => trivial)
  refine wp_region_schB (f := 2) KS [(0, 1), (1, 1), (2, 3), (3, 3), (4, 3)] ?_
  simp only [pickS, List.getElem?_cons_zero, List.getElem?_cons_succ]
  refine wpSched_t ?_
  refine wpSched_t ?_
  refine wpSched_last ?_
  first | simp only [List.map_nil] | simp only [List.map_cons, List.map_nil]
  clear KS
  replace B1 := Blk.dwM B1
  replace B2 := Blk.dwM B2
  replace hb := bDr hb
  replace hG := hG.below hb
  generalize w2.drew = w3 at *
  have hbA := bAl hb (.cells #[.slice (some ⟨W.heap.size, 0, none⟩) 32 32, .slice (some ⟨W.heap.size + 1, 0, none⟩) 32 32] 24)
  have BS := Blk.new w3 24 #[.slice (some ⟨W.heap.size, 0, none⟩) 32 32, .slice (some ⟨W.heap.size + 1, 0, none⟩) 32 32] _ rfl
  replace B1 := B1.alloc (.cells #[.slice (some ⟨W.heap.size, 0, none⟩) 32 32, .slice (some ⟨W.heap.size + 1, 0, none⟩) 32 32] 24)
  replace B2 := B2.alloc (.cells #[.slice (some ⟨W.heap.size, 0, none⟩) 32 32, .slice (some ⟨W.heap.size + 1, 0, none⟩) 32 32] 24)
  have q := mk_text ⟨#[110, 111, 100, 101]⟩ (some ⟨w3.heap.size, 0, none⟩) 2 2 (x ++ y) (w3.alloc (.cells #[.slice (some ⟨W.heap.size, 0, none⟩) 32 32, .slice (some ⟨W.heap.size + 1, 0, none⟩) 32 32] 24))
    (fun w' h => join_two w3.heap.size 0 2 (some ⟨W.heap.size, 0, none⟩) (some ⟨W.heap.size + 1, 0, none⟩) 32 32 x y w' (by rw [hx.1]; exact (BS.below h BS.lt).cell 0) (by rw [hy.1]; exact (BS.below h BS.lt).cell 1)
      ⟨by rw [byts_length, Nat.mul_one], fun _ => ⟨_, 0, rfl, (B1.below h B1.lt).lt, fun j u hu => by rw [Nat.zero_add, (B1.below h B1.lt).cell]; simpa using hu⟩⟩
      ⟨by rw [byts_length, Nat.mul_one], fun _ => ⟨_, 0, rfl, (B2.below h B2.lt).lt, fun j u hu => by rw [Nat.zero_add, (B2.below h B2.lt).cell]; simpa using hu⟩⟩ hx.2 hy.2 (by rw [hx.1]; decide) (by rw [hy.1]; decide) (by rw [hx.1, hy.1]; decide) (by decide)) (by decide) (by rw [List.length_append, hx.1]; omega) (by rw [List.length_append, hx.1, hy.1]; decide) (hG.below (bAl (bRefl w3) _))
  have hnod : sb ⟨#[110, 111, 100, 101]⟩ = nodS := by decide
  rw [hnod] at q
  generalize shaN nodS ++ (x ++ y) = X at *
  clear BS B1 B2 hnod
  go_wp2_with fail
  (with_reducible refine q.mono ?_)
  rintro e w5 ⟨v5, rfl, b5, h5⟩
  have hb5 := bCall hbA b5
  clear q
  obtain ⟨A5, c5, rfl, hS5⟩ := h5
  go_wp2_with fail
  refine NoPanic.normal ?_
  go_wp2_with fail
  go_ret
  exact ⟨_, rfl, hb5, A5, c5, rfl, hS5⟩

set_option maxRecDepth 100000 in
set_option maxHeartbeats 4000000 in
theorem mk_leaf (A : Option Addr) (c : Nat) (b : List Nat) (W : World) (hA : Rd W W.heap.size 1 A b.length (byts b)) (ho : okB b) (h0 : 0 < b.length) (hl : b.length ≤ 100000000000) (hG : ShaG W) :
    Calls Tryd.prog 81 #[.slice A b.length c] W (Ret (dig (leafN b)) W) := by
  go_enter Tryd.func81, Tryd.ntmps81
  go_upto_region 1 with fail
  change Code.wp _ _ _ _ (W.alloc (.cells (byts (zerosN 32)).toArray 30))
  have BD := Blk.new W 30 (byts (zerosN 32)).toArray _ rfl
  have hb := bAl (bRefl W) (.cells (byts (zerosN 32)).toArray 30)
  generalize W.alloc (.cells (byts (zerosN 32)).toArray 30) = w1 at *
  have BS := Blk.new w1 24 #[.slice A b.length c] _ rfl
  have q := mk_text ⟨#[108, 101, 97, 102]⟩ (some ⟨w1.heap.size, 0, none⟩) 1 1 b (w1.alloc (.cells #[.slice A b.length c] 24))
    (fun w' h => join_one w1.heap.size 0 1 A c b w' ((BS.below h BS.lt).cell 0) (((hA.below hb).more hb.size).below ((bAl (bRefl w1) _).trans (h.mono (by simp))) |>.more (Nat.le_trans (by simp) h.size)) ho h0 (by omega)) (by decide) h0 hl (hG.below (bAl hb _))
  have hlea : sb ⟨#[108, 101, 97, 102]⟩ = leaS := by decide
  rw [hlea] at q
  have hbA := bAl hb (.cells #[.slice A b.length c] 24)
  replace BD := BD.alloc (.cells #[.slice A b.length c] 24)
  have hX : Hid (leafN b = shaN (shaN leaS ++ b)) := Lib.hid rfl
  have hXo : okB (shaN leaS ++ b) := okB_app (okB_sha _) ho
  generalize shaN leaS ++ b = X at *
  clear hlea BS hb
  go_wp2_with fail
  (with_reducible refine q.mono ?_)
  rintro e w5 ⟨v5, rfl, b5, A5, c5, rfl, hR5, hc5, hc52, _⟩
  have hb5 := bCall hbA b5
  have BD5 := BD.below b5 BD.lt
  clear q BD hbA b5
  go_wp2_with fail
  with_reducible refine (sum_any A5 _ c5 X w5 hR5 hXo hc5 hc52 (hG.below hb5)).mono ?_
  rintro e w6 ⟨rfl, b6⟩
  have hb6 := bCall hb5 b6
  have BD6 := BD5.below b6 BD5.lt
  clear hb5 b6 BD5 hR5
  dsimp only
  go_step
  refine wpList_store_row rfl 30 (.tmp 2) (.tmp 6) rfl W.heap.size (byts (shaN X)).toArray rfl rfl 30 _ BD6 (by rw [List.size_toArray, byts_length, shaN_len]; exact dig_info) (by rw [List.size_toArray, List.size_toArray, byts_length, byts_length, shaN_len]; rfl) (byts_one _) ?_
  have hb9 := below_setRow hb6 (Nat.le_refl _) (byts (shaN X)).toArray
  have BD9 : Blk (w6.setRow W.heap.size (byts (shaN X)).toArray) W.heap.size 30 (byts (shaN X)).toArray := setRow_heap w6 W.heap.size _ _ 30 _ BD6
  go_wp2_with fail
  exact bodyPost_ret (v := dig (shaN X)) (results_cell_row rfl _ _ W.heap.size 30 _ (0, 0) _ rfl BD9 dig_under rfl (by rw [List.size_toArray, byts_length, shaN_len]; exact dig_info)) rfl ⟨by rw [hX.out], hb9⟩
end Go.Proofs.YtoeobcmmafncmaaDoor

/-
  paths.commits, walked.
-/
namespace Go.Proofs.YtoeobcmmafncmaaDoor
open Go.RowKit

/-- An opening. -/
structure Opn where
  at_ : Int
  r0 : Int
  r1 : Int
  r2 : Int
  salt : List Nat
def Opn.cl (o : Opn) : List Value := [.int .i64 o.at_, .int .i64 o.r0, .int .i64 o.r1, .int .i64 o.r2] ++ byts o.salt
def Opn.its (o : Opn) : List Nd := [.int o.at_, .int o.r0, .int o.r1, .int o.r2, .dig o.salt]
def Opn.ok (o : Opn) : Prop := inI o.at_ ∧ inI o.r0 ∧ inI o.r1 ∧ inI o.r2 ∧ o.salt.length = 32 ∧ okB o.salt
theorem exec_load {P : Program} {o : Oper} {a : Act} {ty : TypeId} {x : Operand} {q v : Value} {w : World} (ho : o.op = .load ty x) (hx : a.eval x = q) (h : (Instr.loadAt ty q).run P w = .ok v w) : (execOp a.eval o).run P w = .ok (.value v) w := by
  unfold execOp
  rw [ho]
  simp only [Sem.run_bind, hx, h, Result.andThen_ok, Sem.run_pure]
theorem load_mid {w : World} {g o : Nat} {t : TypeId} {cs : Array Value} (h : Blk w g t cs) (d : List Nat) (hd : d.length = 32) (hc : ∀ j v, (byts d)[j]? = some v → cs[o + j]? = some v) :
    (Instr.loadAt 30 (.pointer (some ⟨g, o, none⟩))).run Tryd.prog w = .ok (.agg (byts d).toArray) w :=
  run_loadAt_mid w g o 30 (byts d) _ (fun j v hj => by
    have := hc j v hj
    rw [← h.cell] at this
    exact this) dig_under rfl (by rw [byts_length, hd]; exact dig_info)
theorem and6 {a b c d e f : Prop} (h1 : a) (h2 : b) (h3 : c) (h4 : d) (h5 : e) (h6 : f) : a ∧ b ∧ c ∧ d ∧ e ∧ f := ⟨h1, h2, h3, h4, h5, h6⟩
end Go.Proofs.YtoeobcmmafncmaaDoor
