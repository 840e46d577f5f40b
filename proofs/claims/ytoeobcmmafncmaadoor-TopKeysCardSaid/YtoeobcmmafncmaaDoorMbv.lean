/-
  handover: between, formed; walked.
-/
import Derived.Test.YtoeobcmmafncmaaDoorMbn
import Derived.Test.YtoeobcmmafncmaaDoorMbu
import Derived.Test.YtoeobcmmafncmaaDoorMbm
import Derived.Test.YtoeobcmmafncmaaDoorMbs
import Derived.Laws.CopyRow
import Derived.Test.YtoeobcmmafncmaaDoorMbf
import Derived.Test.YtoeobcmmafncmaaDoorMap
namespace Go.Proofs.YtoeobcmmafncmaaDoor
open Go.RowKit

theorem ho_between (x a b : Int) (W : World) : Calls Tryd.prog 40 #[.int .i64 x, .int .i64 a, .int .i64 b] W (Same (.bool (decide (a ≤ x ∧ x ≤ b))) W) := by
  by_cases h1 : a ≤ x
  · by_cases h2 : x ≤ b
    · have e : Hid (decide (a ≤ x ∧ x ≤ b) = true) := Lib.hid (decide_eq_true ⟨h1, h2⟩)
      go_enter Tryd.func40, Tryd.ntmps40
      go_wp2_with fail
      go_ret
      exact ⟨ret_bool (by rw [e.out]), rfl⟩
    · have e : Hid (decide (a ≤ x ∧ x ≤ b) = false) := Lib.hid (decide_eq_false (by omega))
      go_enter Tryd.func40, Tryd.ntmps40
      go_wp2_with fail
      go_ret
      exact ⟨ret_bool (by simp; try omega), rfl⟩
  · have e : Hid (decide (a ≤ x ∧ x ≤ b) = false) := Lib.hid (decide_eq_false (by omega))
    go_enter Tryd.func40, Tryd.ntmps40
    go_wp2_with fail
    go_ret
    exact ⟨ret_bool (by simp; try omega), rfl⟩

/-- What a block that holds a hand-over shows. -/
structure HdAt (w : World) (g : Nat) (h : Hd) : Prop where
  c0 : w.cell? ⟨g, 0, none⟩ = some (.int .i64 h.line)
  c1 : w.cell? ⟨g, 1, none⟩ = some (.int .i64 h.at_)
  c2 : w.cell? ⟨g, 2, none⟩ = some (.int .i64 h.arrive)
  c3 : w.cell? ⟨g, 3, none⟩ = some (.int .i64 h.leg)
  c4 : w.cell? ⟨g, 4, none⟩ = some (.int .i64 h.from_)
  c5 : w.cell? ⟨g, 5, none⟩ = some (.int .i64 h.to_)
  c6 : w.cell? ⟨g, 6, none⟩ = some (.int .i64 h.many)
  c39 : w.cell? ⟨g, 39, none⟩ = some (.int .i64 h.time)
  c40 : w.cell? ⟨g, 40, none⟩ = some (.int .i64 h.e)
  c41 : w.cell? ⟨g, 41, none⟩ = some (.int .i64 h.s)
theorem HdAt.of {w : World} {g : Nat} {t : TypeId} {h : Hd} {cs : Array Value} (B : Blk w g t cs) (e : cs = h.cl.toArray) (ho : h.ok) : HdAt w g h := by
  subst e
  obtain ⟨h0, h1, h2, h3, h4, h5, h6, _, h39, h40, h41⟩ := Hd.cells ho
  have k : ∀ i v, h.cl[i]? = some v → w.cell? ⟨g, i, none⟩ = some v := fun i v hv => by rw [B.cell i]; simpa using hv
  exact ⟨k _ _ h0, k _ _ h1, k _ _ h2, k _ _ h3, k _ _ h4, k _ _ h5, k _ _ h6, k _ _ h39, k _ _ h40, k _ _ h41⟩
theorem tmB_eq (n : Int) : decide (0 ≤ n ∧ n ≤ 2097151) = tmB n := by
  unfold tmB
  rw [← Bool.decide_and]
  apply decide_eq_decide.2
  omega
set_option maxRecDepth 100000 in
set_option maxHeartbeats 4000000 in
theorem ho_formed (h : Hd) (ho : h.ok) (W : World) : Calls Tryd.prog 41 #[.agg h.cl.toArray] W (Ret (.bool h.formed) W) := by
  obtain ⟨cs, hcs⟩ : ∃ cs, h.cl.toArray = cs := ⟨_, rfl⟩
  rw [hcs]
  have BH := Blk.new W 34 cs _ rfl
  have hb := bAl (bRefl W) (.cells cs 34)
  obtain ⟨c0, c1, c2, c3, c4, c5, c6, c39, c40, c41⟩ := HdAt.of BH hcs.symm ho
  have q1 := fun w => ho_between h.at_ 0 2097151 w
  have q2 := fun w => ho_between h.arrive 0 2097151 w
  have q3 := fun w => ho_between h.time 0 2097151 w
  have q4 := fun w => ho_between h.from_ 0 23 w
  have q5 := fun w => ho_between h.to_ (-1) 23 w
  have q7 := fun w => ho_between h.line 0 63 w
  have q8 := fun w => ho_between h.leg 0 8 w
  have q9 := fun w => ho_between h.many 0 64 w
  obtain ⟨v, hv⟩ : ∃ v, h.formed = v := ⟨_, rfl⟩
  rw [hv]
  have hv2 : ((decide (0 ≤ h.at_ ∧ h.at_ ≤ 2097151) && (decide (0 ≤ h.arrive ∧ h.arrive ≤ 2097151) && decide (0 ≤ h.time ∧ h.time ≤ 2097151))) && ((decide (0 ≤ h.from_ ∧ h.from_ ≤ 23) && (decide (-1 ≤ h.to_ ∧ h.to_ ≤ 23) && decide (h.from_ ≠ h.to_))) && (decide (0 ≤ h.line ∧ h.line ≤ 63) && (decide (0 ≤ h.leg ∧ h.leg ≤ 8) && decide (0 ≤ h.many ∧ h.many ≤ 64))))) = v := by
    rw [← hv, tmB_eq, tmB_eq, tmB_eq]
    unfold Hd.formed
    have e1 : decide (0 ≤ h.from_ ∧ h.from_ ≤ 23) = decide (0 ≤ h.from_ ∧ h.from_ < 24) := decide_eq_decide.2 (by omega)
    have e2 : decide (-1 ≤ h.to_ ∧ h.to_ ≤ 23) = decide (-1 ≤ h.to_ ∧ h.to_ < 24) := decide_eq_decide.2 (by omega)
    have e3 : decide (0 ≤ h.line ∧ h.line ≤ 63) = decide (0 ≤ h.line ∧ h.line < 64) := decide_eq_decide.2 (by omega)
    rw [e1, e2, e3]
  clear hv
  generalize decide (0 ≤ h.at_ ∧ h.at_ ≤ 2097151) = b1 at *
  generalize decide (0 ≤ h.arrive ∧ h.arrive ≤ 2097151) = b2 at *
  generalize decide (0 ≤ h.time ∧ h.time ≤ 2097151) = b3 at *
  generalize decide (0 ≤ h.from_ ∧ h.from_ ≤ 23) = b4 at *
  generalize decide (-1 ≤ h.to_ ∧ h.to_ ≤ 23) = b5 at *
  generalize decide (0 ≤ h.line ∧ h.line ≤ 63) = b7 at *
  generalize decide (0 ≤ h.leg ∧ h.leg ≤ 8) = b8 at *
  generalize decide (0 ≤ h.many ∧ h.many ≤ 64) = b9 at *
  replace q1 := Lib.hid q1
  replace q2 := Lib.hid q2
  replace q3 := Lib.hid q3
  replace q4 := Lib.hid q4
  replace q5 := Lib.hid q5
  replace q7 := Lib.hid q7
  replace q8 := Lib.hid q8
  replace q9 := Lib.hid q9
  replace hv2 := Lib.hid hv2
  go_enter Tryd.func41, Tryd.ntmps41
  go_upto_region 1 with fail
  generalize W.alloc (.cells cs 34) = w1 at *
  go_cut [3] (fun s3 wc => s3 = .bool (b1 && (b2 && b3)) ∧ wc = w1)
  case first =>
    clear hv2
    cases b1 <;> cases b2 <;> cases b3 <;>
    · go_wp2_with (first | (go_at_call 40; (first | (with_reducible refine (q1.out _).mono ?_) | (with_reducible refine (q2.out _).mono ?_) | (with_reducible refine (q3.out _).mono ?_)); rintro e w3 ⟨rfl, rfl⟩) | fail)
      go_meet
      exact ⟨rfl, rfl⟩
  case rest =>
    obtain ⟨rfl, rfl⟩ := hcut
    clear q1 q2 q3
    generalize (b1 && (b2 && b3)) = B1 at *
    go_upto_region 2 with fail
    go_cut [4] (fun s4 wd => s4 = .bool (b4 && (b5 && decide (h.from_ ≠ h.to_))) ∧ wd = wc)
    case first =>
      clear hv2
      generalize h.from_ = f4 at *
      generalize h.to_ = f5 at *
      by_cases hne : f4 = f5
      · subst hne
        cases b4 <;> cases b5 <;>
        · go_wp2_with (first | (go_at_call 40; (first | (with_reducible refine (q4.out _).mono ?_) | (with_reducible refine (q5.out _).mono ?_)); rintro e w3 ⟨rfl, rfl⟩) | fail)
          go_meet
          exact ⟨by simp, rfl⟩
      · cases b4 <;> cases b5 <;>
        · go_wp2_with (first | (go_at_call 40; (first | (with_reducible refine (q4.out _).mono ?_) | (with_reducible refine (q5.out _).mono ?_)); rintro e w3 ⟨rfl, rfl⟩) | fail)
          go_meet
          exact ⟨by simp [hne], rfl⟩
    case rest =>
      obtain ⟨rfl, rfl⟩ := hcut
      clear q4 q5
      generalize (b4 && (b5 && decide (h.from_ ≠ h.to_))) = B2 at *
      cases B1 <;> cases B2 <;> cases b7 <;> cases b8 <;> cases b9 <;>
      · go_wp2_with (first | (go_at_call 40; (first | (with_reducible refine (q7.out _).mono ?_) | (with_reducible refine (q8.out _).mono ?_) | (with_reducible refine (q9.out _).mono ?_)); rintro e w3 ⟨rfl, rfl⟩) | fail)
        go_ret
        exact ⟨ret_bool (by rw [← hv2.out]; rfl), hb⟩
end Go.Proofs.YtoeobcmmafncmaaDoor

/-
  handover: Root, handText, Check; walked.
-/
namespace Go.Proofs.YtoeobcmmafncmaaDoor
open Go.RowKit

theorem ints6_ok {x : Ltr} (h : x.ok) : ∀ y ∈ x.its, y.ok := by
  intro y hy
  obtain ⟨⟨h1, h2⟩, ⟨h3, h4⟩, h5, h6⟩ := h
  simp [Ltr.its] at hy
  rcases hy with rfl | rfl | rfl | rfl | rfl | rfl
  exact h1; exact h2; exact h3; exact h4; exact h5; exact h6
theorem txt_ok {l : List Ltr} (hok : ∀ x ∈ l, x.ok) : ∀ t ∈ l.map Ltr.txt, okB t ∧ 0 < t.length ∧ t.length ≤ 100000000000 := by
  intro t ht
  obtain ⟨x, hx, rfl⟩ := List.mem_map.1 ht
  exact ⟨okB_encN _, encN_pos _, Nat.le_trans (encN_len (ints6_ok (hok x hx)) (by simp [Ltr.its])) (by decide)⟩
set_option maxRecDepth 100000 in
set_option maxHeartbeats 4000000 in
theorem ho_root (A : Option Addr) (c : Nat) (l : List Ltr) (hok : ∀ x ∈ l, x.ok) (W : World) (hA : Rd W W.heap.size 6 A l.length (l.flatMap Ltr.cl)) (hn : l.length ≤ 1000) (hG : ShaG W) :
    Calls Tryd.prog 15 #[.slice A l.length c] W (Ret (dig (rootL l)) W) := by
  go_enter Tryd.func15, Tryd.ntmps15
  go_upto_region 1 with fail
  change Code.wp _ _ _ _ (W.alloc (.cells (byts (zerosN 32)).toArray 30))
  have BD := Blk.new W 30 (byts (zerosN 32)).toArray _ rfl
  have hb := bAl (bRefl W) (.cells (byts (zerosN 32)).toArray 30)
  generalize W.alloc (.cells (byts (zerosN 32)).toArray 30) = w1 at *
  have q := leaves_any A l.length c w1
  go_wp2_with fail
  (with_reducible refine q.mono ?_)
  rintro e w2 ⟨rfl, rfl⟩
  have BP := Blk.new w1 48 #[.slice A l.length c] _ rfl
  have hb2 := bAl hb (.cells #[.slice A l.length c] 48)
  have BD2 := BD.alloc (.cells #[.slice A l.length c] 48)
  clear q BD
  generalize w1.alloc (.cells #[.slice A l.length c] 48) = w2 at *
  have hml : (l.map Ltr.txt).length = l.length := by simp
  have q2 := col_collect 68 #[.pointer (some ⟨w1.heap.size, 0, none⟩)] (enters_of Tryd.func68 (by kernel_rfl) rfl) (l.map Ltr.txt) w2 (by rw [hml]; exact hn)
    (by rw [hml]; exact leaves_stops w1.heap.size W.heap.size (fun k => k < w2.heap.size) BP.lt A c l hok w2 (fun k hk => Nat.lt_of_lt_of_le hk hb2.size) BP (hA.below hb2) hb2.size hn)
  go_wp2_with fail
  (with_reducible refine q2.mono ?_)
  rintro e w3 ⟨v, vs, rfl, hvl, b3, hown, hT⟩
  have hb3 := bCall hb2 b3
  have BD3 := BD2.below b3 BD2.lt
  obtain ⟨A3, c3, rfl, hR3, _⟩ := Sl.of_own hown
  have hX : Hid (dig (rootL l) = .agg (byts (rootN (l.map Ltr.txt))).toArray) := Lib.hid rfl
  have hto := txt_ok hok
  clear q2 BD2 hown hA
  rw [hvl] at hR3
  have q3 := mk_root A3 c3 (l.map Ltr.txt) vs w3 hR3 (fun k u t hu ht => (hT k u t hu ht).sl) hto (by rw [hml]; exact hn) (hG.below hb3)
  have hln := (rootN_ok (l.map Ltr.txt)).1
  unfold dig at q3
  generalize rootN (l.map Ltr.txt) = X at *
  rw [hml] at q3
  clear hT hR3 hto
  go_wp2_with fail
  (with_reducible refine q3.mono ?_)
  rintro e w5 ⟨rfl, b5⟩
  have hb5 := bCall hb3 b5
  have BD5 := BD3.below b5 BD3.lt
  clear q3
  dsimp only
  go_step
  refine wpList_store_row rfl 30 (.tmp 2) (.tmp 6) rfl W.heap.size (byts X).toArray rfl rfl 30 _ BD5 (by rw [List.size_toArray, byts_length, hln]; exact dig_info) (by rw [List.size_toArray, List.size_toArray, byts_length, byts_length, hln]; rfl) (byts_one _) ?_
  have hb9 := below_setRow hb5 (Nat.le_refl _) (byts X).toArray
  have BD9 : Blk (w5.setRow W.heap.size (byts X).toArray) W.heap.size 30 (byts X).toArray := setRow_heap w5 W.heap.size _ _ 30 _ BD5
  go_wp2_with fail
  exact bodyPost_ret (v := dig X) (results_cell_row rfl _ _ W.heap.size 30 _ (0, 0) _ rfl BD9 dig_under rfl (by rw [List.size_toArray, byts_length, hln]; exact dig_info)) rfl ⟨by rw [hX.out]; rfl, hb9⟩

theorem int_len (n : Int) : (It.int n).enc.length ≤ 12 := by
  have := (numF_len 10 (unsN n)).2
  show (numN (unsN n)).length + 1 ≤ _
  unfold numN; omega
theorem text_len (s : ByteArray) : (It.text s).enc.length ≤ 12 + s.size := by
  have := (numF_len 10 s.size).2
  show (numN s.size ++ sb s).length + 1 ≤ _
  rw [List.length_append, sb_len]
  unfold numN; omega
theorem hd_len {h : Hd} (ho : h.ok) : h.text.length ≤ 1000000 := by
  have hr := ho.2.2.2.2.2.2.2.1.1
  have h0 := (numF_len 10 9).2
  have h1 := int_len h.line
  have h2 := int_len h.at_
  have h3 := int_len h.arrive
  have h4 := int_len h.leg
  have h5 := int_len h.from_
  have h6 := int_len h.to_
  have h7 := int_len h.many
  have h8 := int_len h.time
  have h9 := text_len (dgS h.root)
  rw [dgS_size, hr] at h9
  show (3 :: (numN 9 ++ encL h.its)).length ≤ _
  unfold numN
  simp only [List.length_cons, List.length_append, encL, Hd.its, List.flatMap_cons, List.flatMap_nil, List.length_nil]
  omega
theorem hand_info : (Tryd.prog.info? 34).map (·.size) = some 42 := by kernel_rfl
set_option maxRecDepth 100000 in
set_option maxHeartbeats 4000000 in
theorem ho_handText (h : Hd) (ho : h.ok) (W : World) : Calls Tryd.prog 43 #[.agg h.cl.toArray] W (RetSl 1 h.text.length (byts h.text) W) := by
  obtain ⟨cs, hcs⟩ : ∃ cs, h.cl.toArray = cs := ⟨_, rfl⟩
  have hroot := (Hd.cells ho).2.2.2.2.2.2.2.1
  obtain ⟨o1, o2, o3, o4, o5, o6, o7, ⟨hr1, hr2⟩, o9, _⟩ := id ho
  rw [hcs]
  have BH := Blk.new W 34 cs _ rfl
  have hb := bAl (bRefl W) (.cells cs 34)
  obtain ⟨c0, c1, c2, c3, c4, c5, c6, c39, c40, c41⟩ := HdAt.of BH hcs.symm ho
  have hrange : (W.alloc (.cells cs 34)).rangeAt W.heap.size 7 (byts h.root) := fun j v hj => by
    have hj' : j < 32 := by have := (List.getElem?_eq_some_iff.1 hj).1; rw [byts_length, hr1] at this; exact this
    rw [BH.cell, ← hcs, List.getElem?_toArray, hroot j hj']; exact hj
  have hT : Hid (h.text = encN ([Tx.run h.line h.at_ h.arrive, .int h.leg, .int h.from_, .int h.to_, .int h.many, .dig h.root, .int h.time].flatMap Tx.its)) := Lib.hid rfl
  generalize h.line = f1 at *
  generalize h.at_ = f2 at *
  generalize h.arrive = f3 at *
  generalize h.leg = f4 at *
  generalize h.from_ = f5 at *
  generalize h.to_ = f6 at *
  generalize h.many = f7 at *
  generalize h.time = f9 at *
  generalize h.root = d at *
  clear hroot hcs ho
  go_enter Tryd.func43, Tryd.ntmps43
  go_upto_region 1 with fail
  generalize W.alloc (.cells cs 34) = w1 at *
  have q := ho_text (some ⟨w1.heap.size, 0, none⟩) 7 7 [.run f1 f2 f3, .int f4, .int f5, .int f6, .int f7, .dig d, .int f9] (w1.alloc (.cells #[.iface 28 (.agg #[.int .i64 f1, .int .i64 f2, .int .i64 f3]), .iface 3 (.int .i64 f4), .iface 3 (.int .i64 f5), .iface 3 (.int .i64 f6), .iface 3 (.int .i64 f7), .iface 30 (.agg (byts d).toArray), .iface 3 (.int .i64 f9)] 20))
    (Rd.new w1 _ _ 1 7 _ rfl rfl) (by intro y hy; simp only [List.mem_cons, List.not_mem_nil, or_false] at hy; rcases hy with rfl | rfl | rfl | rfl | rfl | rfl | rfl; exact ⟨o1, o2, o3⟩; exact o4; exact o5; exact o6; exact o7; exact ⟨hr1, hr2⟩; exact o9) (by decide)
  generalize encN ([Tx.run f1 f2 f3, .int f4, .int f5, .int f6, .int f7, .dig d, .int f9].flatMap Tx.its) = T at *
  clear BH
  apply wp_region_lit
  iterate 48 go_step
  refine wpList_load_mid rfl 30 (.tmp 18) rfl W.heap.size 7 rfl (byts d) _ hrange dig_under rfl (by rw [byts_length, hr1]; exact dig_info) ?_
  go_wp2_with fail
  (with_reducible refine q.mono ?_)
  rintro e w5 ⟨v5, rfl, b5, hown⟩
  have hb5 := bCall (bAl hb _) b5
  clear q c0 c1 c2 c3 c4 c5 c6 c39 c40 c41 hrange
  go_wp2_with fail
  go_ret
  exact ⟨_, rfl, hb5, by rw [hT.out]; exact Sl.of_own hown⟩
end Go.Proofs.YtoeobcmmafncmaaDoor

/-
  handover.Check; walked.
-/
namespace Go.Proofs.YtoeobcmmafncmaaDoor
open Go.RowKit

set_option maxRecDepth 100000 in
set_option maxHeartbeats 4000000 in
theorem ho_check (key : Int) (h : Hd) (ho : h.ok) (ik : inI key) (W : World) (hG : ShaG W) : Calls Tryd.prog 17 #[.int .i64 key, .agg h.cl.toArray] W (Ret (.bool (h.signed key)) W) := by
  have q1 := fun w => ho_formed h ho w
  have q2 := fun w => ho_handText h ho w
  obtain ⟨cs, hcs⟩ : ∃ cs, h.cl.toArray = cs := ⟨_, rfl⟩
  rw [hcs] at q1 q2
  rw [hcs]
  have hcl : cs.size = 42 := by rw [← hcs]; simpa using Hd.cl_length ho
  have BH := Blk.new W 34 cs _ rfl
  have hb := bAl (bRefl W) (.cells cs 34)
  have hlen := hd_len ho
  have hT0 : 0 < h.text.length := encN_pos _
  have hTo : okB h.text := okB_encN _
  have hv : Hid (h.signed key = (h.formed && sgB key h.text h.e h.s)) := Lib.hid rfl
  have hgl : ∀ w', Below (W.alloc (.cells cs 34)).heap.size (W.alloc (.cells cs 34)) w' → (Instr.loadAt 34 (.pointer (some ⟨W.heap.size, 0, none⟩))).run Tryd.prog w' = .ok (.agg cs) w' ∧ w'.cell? ⟨W.heap.size, 40, none⟩ = some (.int .i64 h.e) ∧ w'.cell? ⟨W.heap.size, 41, none⟩ = some (.int .i64 h.s) := fun w' hw => by
    have B2 := BH.below hw BH.lt
    have hh := HdAt.of B2 hcs.symm ho
    exact ⟨load_blk B2 Tryd.underlying34 rfl (by rw [hcl]; exact hand_info), hh.c40, hh.c41⟩
  have KS := Lib.hid hgl
  generalize h.text = T at *
  generalize h.e = E at *
  generalize h.s = S at *
  clear hgl BH hcs hcl
  replace q1 := Lib.hid q1
  replace q2 := Lib.hid q2
  cases hf : h.formed with
  | false =>
    rw [hf] at q1 hv
    clear hf
    go_enter Tryd.func17, Tryd.ntmps17
    go_upto_region 1 with fail
    generalize W.alloc (.cells cs 34) = w1 at *
    refine wp_region_schB (f := 8) KS [(0, 2), (1, 0), (2, 1), (3, 1), (4, 1), (6, 1), (7, 1), (5, 0), (8, 3), (9, 3), (10, 3)] ?_
    simp only [pickS, List.getElem?_cons_zero, List.getElem?_cons_succ]
    refine wpSched_r (v := ?v1) (hv := ?h1) ?_; case h1 => (intro w hSw; (first | refine (exec_load rfl rfl hSw).trans ?_ | refine (exec_load rfl rfl hSw.1).trans ?_ | refine (exec_load rfl rfl hSw.2.1).trans ?_ | refine (exec_load rfl rfl hSw.2.2.1).trans ?_ | refine (exec_load rfl rfl hSw.2).trans ?_ | refine (exec_load rfl rfl hSw.2.2).trans ?_); with_reducible rfl)
    refine wpSched_force (fun K hK => ?_)
    go_simp; (first | (go_at_call 41; (with_reducible refine (q1.out _).mono ?_); rintro e w3 ⟨rfl, b3⟩; have B3 : Below w1.heap.size w1 w3 := bCall (bDr (bRefl w1)) b3) | skip)
    refine shut_go hK KS ?_
    clear hK K
    refine wpSched_t ?_
    refine wpSched_p ?_
    refine wpSched_p ?_
    refine wpSched_p ?_
    refine wpSched_p ?_
    refine wpSched_force (fun K hK => ?_)
    go_simp; (first | (go_at_call 41; (with_reducible refine (q1.out _).mono ?_); rintro e w3 ⟨rfl, b3⟩; have B3 : Below w1.heap.size w1 w3 := bCall (bDr (bRefl w1)) b3) | skip)
    refine shut_go hK KS ?_
    clear hK K
    refine wpSched_last ?_
    first | simp only [List.map_nil] | simp only [List.map_cons, List.map_nil]
    go_wp2_with fail
    refine NoPanic.normal ?_
    go_wp2_with fail
    go_ret
    exact ⟨ret_bool (by rw [hv.out]; rfl), bCall hb B3⟩
  | true =>
    rw [hf] at q1 hv
    clear hf
    go_enter Tryd.func17, Tryd.ntmps17
    go_upto_region 1 with fail
    generalize W.alloc (.cells cs 34) = w1 at *
    refine wp_region_schB (f := 8) KS [(0, 2), (1, 0), (2, 1), (3, 1), (4, 2), (6, 1), (7, 2), (5, 0), (8, 3), (9, 3), (10, 3)] ?_
    simp only [pickS, List.getElem?_cons_zero, List.getElem?_cons_succ]
    refine wpSched_r (v := ?v2) (hv := ?h2) ?_; case h2 => (intro w hSw; (first | refine (exec_load rfl rfl hSw).trans ?_ | refine (exec_load rfl rfl hSw.1).trans ?_ | refine (exec_load rfl rfl hSw.2.1).trans ?_ | refine (exec_load rfl rfl hSw.2.2.1).trans ?_ | refine (exec_load rfl rfl hSw.2).trans ?_ | refine (exec_load rfl rfl hSw.2.2).trans ?_); with_reducible rfl)
    refine wpSched_force (fun K hK => ?_)
    go_simp; (first | (go_at_call 41; (with_reducible refine (q1.out _).mono ?_); rintro e w3 ⟨rfl, b3⟩; have B3 : Below w1.heap.size w1 w3 := bCall (bDr (bRefl w1)) b3) | (go_at_call 43; (with_reducible refine (q2.out _).mono ?_); rintro e w5 ⟨v5, rfl, b5, A5, c5, rfl, hR5, hc5, hc52, hn5⟩; have B5 : Below w1.heap.size w1 w5 := bCall B3 b5) | skip)
    refine shut_go hK KS ?_
    clear hK K
    refine wpSched_t ?_
    refine wpSched_t ?_
    refine wpSched_r (v := ?v3) (hv := ?h3) ?_; case h3 => (intro w hSw; (first | refine (exec_load rfl rfl hSw).trans ?_ | refine (exec_load rfl rfl hSw.1).trans ?_ | refine (exec_load rfl rfl hSw.2.1).trans ?_ | refine (exec_load rfl rfl hSw.2.2.1).trans ?_ | refine (exec_load rfl rfl hSw.2).trans ?_ | refine (exec_load rfl rfl hSw.2.2).trans ?_); with_reducible rfl)
    refine wpSched_t ?_
    refine wpSched_r ?_
    refine wpSched_force (fun K hK => ?_)
    go_simp; (first | (go_at_call 41; (with_reducible refine (q1.out _).mono ?_); rintro e w3 ⟨rfl, b3⟩; have B3 : Below w1.heap.size w1 w3 := bCall (bDr (bRefl w1)) b3) | (go_at_call 43; (with_reducible refine (q2.out _).mono ?_); rintro e w5 ⟨v5, rfl, b5, A5, c5, rfl, hR5, hc5, hc52, hn5⟩; have B5 : Below w1.heap.size w1 w5 := bCall B3 b5) | skip)
    refine shut_go hK KS ?_
    clear hK K
    refine wpSched_last ?_
    first | simp only [List.map_nil] | simp only [List.map_cons, List.map_nil]
    have hb5 := bCall hb B5
    have q := sg_verify key A5 c5 T E S w5 ik hR5 hTo hT0 hlen (hG.below hb5)
    generalize sgB key T E S = r at *
    clear KS q1 q2 hR5
    go_wp2_with fail
    (with_reducible refine q.mono ?_)
    rintro e w6 ⟨rfl, b6⟩
    have hb6 := bCall hb5 b6
    clear q
    go_wp2_with fail
    refine NoPanic.normal ?_
    go_wp2_with fail
    go_ret
    exact ⟨ret_bool (by rw [hv.out]; rfl), hb6⟩
end Go.Proofs.YtoeobcmmafncmaaDoor

/-
  Loads and stores of long structs in a plain region, by a run equation that is at hand.
-/
namespace Go.Proofs.YtoeobcmmafncmaaDoor
open Go.RowKit

/-- A load whose run equation is at hand. -/
theorem wpList_loadG {P : Program} {ops : Array Oper} {rest : List Oper} {o : Oper} {a : Act} {w : World} {Q : Exit → Act → World → Prop} (hgd : Region.wanted o (yielded ops a.tmps) = true) {ty : TypeId} {x : Operand} (ho : o.op = .load ty x) {q v : Value} (hx : a.eval x = q)
    (hl : (Instr.loadAt ty q).run P w = .ok v w) (h : wpList P ops Q rest (a.put o.dst v) w) : wpList P ops Q (o :: rest) a w :=
  wpList_step fun K hK => by
    rw [if_pos hgd]
    unfold Oper.wp
    rw [exec_load ho hx hl]
    exact hK _ _ h
theorem wpList_storeG {P : Program} {ops : Array Oper} {rest : List Oper} {o : Oper} {a : Act} {w w' : World} {Q : Exit → Act → World → Prop} (hgd : Region.wanted o (yielded ops a.tmps) = true) {ty : TypeId} {x y : Operand} (ho : o.op = .store ty x y) {q v : Value} (hx : a.eval x = q) (hy : a.eval y = v)
    (hl : (Instr.storeAt ty q v).run P w = .ok () w') (h : wpList P ops Q rest (a.put o.dst undef) w') : wpList P ops Q (o :: rest) a w :=
  wpList_step fun K hK => by
    rw [if_pos hgd]
    have e : (execOp a.eval o).run P w = .ok .skip w' := by
      unfold execOp
      rw [ho]
      simp only [Sem.run_bind, hx, hy, hl, Result.andThen_ok, Sem.run_pure]
    unfold Oper.wp
    rw [e]
    exact hK _ _ h
/-- A part of a block, stored. -/
theorem store_at {P : Program} {w : World} {g o : Nat} {t ty : TypeId} {cur X : Array Value} (h : Blk w g t cur) (hi : (P.info? ty).map (·.size) = some X.size) (hl : o + X.size ≤ cur.size) (h1 : ∀ v ∈ X.toList, v.oneCell' = true) :
    (Instr.storeAt ty (.pointer (some ⟨g, o, none⟩)) (.agg X)).run P w = .ok () (w.setRow g (cur.toList.take o ++ X.toList ++ cur.toList.drop (o + X.size)).toArray) := by
  have := run_storeCells_at P g o t X.toList 0 cur w h (by simpa using hl) h1
  cases hq : P.info? ty with
  | none => simp [hq] at hi
  | some i =>
    have hs : X.size = i.size := by simp [hq] at hi; omega
    simp only [Nat.add_zero, Array.length_toList] at this
    simp [Instr.storeAt, Instr.sureAddr, Sem.run_bind, Sem.run_pure, Result.andThen_ok, storeVar, sizeOf, typeInfo, hq, Value.cells, hs, this]
section
variable {w : World} {g g' : Nat} {t t' : TypeId} {cs cs' X : Array Value}
theorem Blk.row (h : Blk w g t cs) (X : Array Value) : Blk (w.setRow g X) g t X := setRow_heap w g cs X t _ h
theorem Blk.farRow (h : Blk w g t cs) (hne : g ≠ g') (X : Array Value) : Blk (w.setRow g' X) g t cs := (setRow_other w g' g X hne).trans h
theorem Blk.farRowT (h : Blk w g t cs) (h2 : Blk w g' t' cs') (hne : t ≠ t') (X : Array Value) : Blk (w.setRow g' X) g t cs := h.farRow (by
  intro e
  subst e
  unfold Blk at h h2
  rw [h] at h2
  simp at h2
  exact hne h2.2) X
end
theorem flatA_set {sz : Nat} : ∀ (l : List (Array Value)) (k : Nat) (x : Array Value), (∀ y ∈ l, y.toList.length = sz) → k < l.length →
    (l.flatMap Array.toList).take (k * sz) ++ x.toList ++ (l.flatMap Array.toList).drop (k * sz + sz) = (l.set k x).flatMap Array.toList
  | [], k, _, _, h => by simp at h
  | y :: l, 0, x, hf, _ => by
    have hy := hf y (by simp)
    rw [Nat.zero_mul, List.take_zero, List.nil_append, List.flatMap_cons, Nat.zero_add, List.drop_append_of_le_length (by omega), List.drop_eq_nil_of_le (by omega)]
    rfl
  | y :: l, k + 1, x, hf, h => by
    have hy := hf y (by simp)
    have ih := flatA_set l k x (fun z hz => hf z (List.mem_cons_of_mem _ hz)) (by simpa using h)
    rw [List.flatMap_cons, List.set_cons_succ, List.flatMap_cons, ← ih]
    have e1 : (k + 1) * sz = y.toList.length + k * sz := by rw [hy, Nat.succ_mul]; omega
    rw [e1, List.take_length_add_append, Nat.add_assoc, List.drop_length_add_append]
    simp only [List.append_assoc]
theorem store_whole {P : Program} {w : World} {g : Nat} {t ty : TypeId} {old X : Array Value} (h : Blk w g t old) (hi : (P.info? ty).map (·.size) = some X.size) (ho : old.size = X.size) (h1 : ∀ v ∈ X.toList, v.oneCell' = true) :
    (Instr.storeAt ty (.pointer (some ⟨g, 0, none⟩)) (.agg X)).run P w = .ok () (w.setRow g X) := by
  simp only [Instr.storeAt, Instr.sureAddr, Sem.run_bind, Sem.run_pure, Result.andThen_ok, run_storeVar_row w g t ty old X h hi ho (by have := all_oneCell_toArray h1; simpa using this)]
theorem store_newW {P : Program} {w : World} {t ty : TypeId} {old X : Array Value} (hi : (P.info? ty).map (·.size) = some X.size) (ho : old.size = X.size) (h1 : ∀ v ∈ X.toList, v.oneCell' = true) :
    (Instr.storeAt ty (.pointer (some ⟨w.heap.size, 0, none⟩)) (.agg X)).run P (w.alloc (.cells old t)) = .ok () (w.alloc (.cells X t)) := by
  rw [store_whole (Blk.new w t old _ rfl) hi ho h1, setRow_alloc]
end Go.Proofs.YtoeobcmmafncmaaDoor

/-
  handover.Make, walked.
-/
namespace Go.Proofs.YtoeobcmmafncmaaDoor
open Go.RowKit

/-- What is made. -/
def signH (s : Int) (h : Hd) : Hd := { h with e := sigE s h.text, s := sigS s h.text }
def madeH (s : Int) (h : Hd) : Hd := if h.formed = true then signH s h else zeroH
def madeE (h : Hd) : Int := if h.formed = true then 0 else 480
theorem zeroH_ok : zeroH.ok := by
  have z : inI 0 := by unfold inI; omega
  exact ⟨z, z, z, z, z, z, z, ⟨by rfl, fun x hx => by obtain rfl := List.eq_of_mem_replicate hx; decide⟩, z, z, z⟩
theorem signH_ok {s : Int} {h : Hd} (ho : h.ok) : (signH s h).ok := by
  obtain ⟨h0, h1, h2, h3, h4, h5, h6, h7, h8, _, _⟩ := ho
  have := sigE_rng s h.text
  have := sigS_rng s h.text
  refine ⟨h0, h1, h2, h3, h4, h5, h6, h7, h8, ?_, ?_⟩
  · show inI (sigE s h.text); unfold inI; omega
  · show inI (sigS s h.text); unfold inI; omega
theorem signH_cl {s : Int} {h : Hd} (ho : h.ok) : (h.cl.toArray.setIfInBounds 40 (.int .i64 (sigE s h.text))).setIfInBounds 41 (.int .i64 (sigS s h.text)) = (signH s h).cl.toArray := by
  have hr : (byts h.root).length = 32 := by rw [byts_length, ho.2.2.2.2.2.2.2.1.1]
  rw [List.setIfInBounds_toArray, List.setIfInBounds_toArray]
  congr 1
  simp [Hd.cl, hr, signH]
/-- Results: a long struct in a cell, and a number. -/
theorem results_row2 {P : Program} {fn : Func} {p u : Tmp} {ty : TypeId} (h : fn.results = #[.cell p ty, .tmp u]) (tmps : Array Value) (w : World) (g : Nat) (t : TypeId) (cs : Array Value) (fr : Nat × Nat) (d : TypeDesc)
    (hp : tmps.getD p undef = .pointer (some ⟨g, 0, none⟩)) (hg : w.heap[g]? = some (.cells cs t fr))
    (hu : P.underlying ty = some d) (hd : (match d with | .struct _ | .array _ _ => true | _ => false) = true) (hi : (P.info? ty).map (·.size) = some cs.size) {v : Value} (hv : tmps.getD u undef = v) :
    (results fn tmps).run P w = .ok (.tuple #[.agg cs, v]) w := by
  subst hv
  have hp' : tmps[p]?.getD undef = .pointer (some ⟨g, 0, none⟩) := by simpa using hp
  simp [results, h, hp', asAddr, run_loadVar_row w g t ty cs fr d hg hu hd hi]
set_option maxRecDepth 100000 in
set_option maxHeartbeats 4000000 in
theorem ho_make (s : Int) (hs : secB s = true) (h : Hd) (ho : h.ok) (W : World) (hG : ShaG W) : Calls Tryd.prog 16 #[.int .i64 s, .agg h.cl.toArray] W (Ret (.tuple #[.agg (madeH s h).cl.toArray, .int .i64 (madeE h)]) W) := by
  have q1 := fun w => ho_formed h ho w
  have q2 := fun w => ho_handText h ho w
  have hz : Hid (zeroH.cl.toArray.size = 42) := Lib.hid (by simpa using Hd.cl_length zeroH_ok)
  have hzo : Hid (∀ v ∈ zeroH.cl.toArray.toList, v.oneCell' = true) := Lib.hid (by simpa using Hd.one zeroH)
  have hsl : Hid ((signH s h).cl.toArray.size = 42) := Lib.hid (by simpa using Hd.cl_length (signH_ok (s := s) ho))
  have hs1 : Hid (∀ v ∈ (signH s h).cl.toArray.toList, v.oneCell' = true) := Lib.hid (by simpa using Hd.one (signH s h))
  have hcl : Hid (h.cl.toArray.size = 42) := Lib.hid (by simpa using Hd.cl_length ho)
  have q0 := Lib.hid (ho_between s 1 1073741788)
  obtain ⟨s1, s2⟩ := secB_rng hs
  rw [decide_eq_true (show 1 ≤ s ∧ s ≤ 1073741788 by omega)] at q0
  have BH : Blk ((W.alloc (.cells h.cl.toArray 34)).alloc (.cells zeroH.cl.toArray 34)) W.heap.size 34 h.cl.toArray := (Blk.new W 34 h.cl.toArray _ rfl).alloc _
  have BZ := Blk.new (W.alloc (.cells h.cl.toArray 34)) 34 zeroH.cl.toArray (W.heap.size + 1) (by simp)
  have hb := bAl (bAl (bRefl W) (.cells h.cl.toArray 34)) (.cells zeroH.cl.toArray 34)
  have hT0 : 0 < h.text.length := encN_pos _
  have hTo : okB h.text := okB_encN _
  have hTl := hd_len ho
  have hsc := Lib.hid (signH_cl (s := s) ho)
  have hhd : Hid (∀ w, Blk w W.heap.size 34 h.cl.toArray → w.cell? ⟨W.heap.size, 40, none⟩ = some (.int .i64 h.e) ∧ w.cell? ⟨W.heap.size, 41, none⟩ = some (.int .i64 h.s)) := Lib.hid (fun w B => ⟨(HdAt.of B rfl ho).c40, (HdAt.of B rfl ho).c41⟩)
  have qs := fun A c w hA hw => sg_sign s hs A c h.text w hA hTo hT0 hTl (hG.below (w' := w) hw)
  have hv1 : Hid (h.formed = true → madeH s h = signH s h ∧ madeE h = 0) := Lib.hid (fun hf => ⟨if_pos hf, if_pos hf⟩)
  have hv2 : Hid (h.formed = false → madeH s h = zeroH ∧ madeE h = 480) := Lib.hid (fun hf => ⟨if_neg (by simp [hf]), if_neg (by simp [hf])⟩)
  replace q1 := Lib.hid q1
  replace q2 := Lib.hid q2
  replace qs := Lib.hid qs
  go_enter Tryd.func16, Tryd.ntmps16
  go_upto_region 1 with fail
  change Code.wp _ _ _ _ ((W.alloc (Obj.cells h.cl.toArray 34)).alloc (.cells zeroH.cl.toArray 34))
  generalize (W.alloc (Obj.cells h.cl.toArray 34)).alloc (.cells zeroH.cl.toArray 34) = w1 at *
  generalize h.text = T at *
  generalize h.e = e0 at *
  generalize h.s = e1 at *
  generalize sigE s T = E at *
  generalize sigS s T = S at *
  obtain ⟨cs, hcs⟩ : ∃ cs, h.cl.toArray = cs := ⟨_, rfl⟩
  obtain ⟨zs, hzs⟩ : ∃ cs, zeroH.cl.toArray = cs := ⟨_, rfl⟩
  obtain ⟨ns, hns⟩ : ∃ cs, (signH s h).cl.toArray = cs := ⟨_, rfl⟩
  rw [hcs] at BH q1 q2 hcl hsc hhd ⊢
  rw [hzs] at BZ hz hzo
  rw [hns] at hsl hs1 hsc
  replace hzs := Lib.hid hzs
  replace hns := Lib.hid hns
  clear hcs hTo hT0 hTl hs s1 s2
  go_wp2_with fail
  (with_reducible refine (q0.out _).mono ?_)
  rintro e w' ⟨rfl, rfl⟩
  clear q0
  go_upto_region 3 with fail
  apply wp_region_lit
  refine wpList_loadG (by rfl) (by rfl) (by rfl) (load_blk BH Tryd.underlying34 rfl (by rw [hcl.out]; exact hand_info)) ?_
  simp only [Act.put, List.setIfInBounds_toArray, List.set_cons_zero, List.set_cons_succ]
  go_wp2_with fail
  have q := q1.out w1
  clear q1
  cases hf : h.formed with
  | false =>
    obtain ⟨hm, he⟩ := hv2.out hf
    rw [hf] at q
    have hm := Lib.hid hm
    have he := Lib.hid he
    clear hf hv1 hv2 hns hsl hs1 hsc q2 qs hhd
    (with_reducible refine q.mono ?_)
    rintro e w2 ⟨rfl, b2⟩
    clear q
    replace BZ := BZ.below b2 BZ.lt
    replace hb := bCall hb b2
    go_upto_region 4 with fail
    apply wp_region_lit
    refine wpList_loadG (by rfl) (by rfl) (by rfl) (load_blk BZ Tryd.underlying34 rfl (by rw [hz.out]; exact hand_info)) ?_
    simp only [Act.put, List.setIfInBounds_toArray, List.set_cons_zero, List.set_cons_succ]
    refine wpList_storeG (by rfl) (by rfl) (by rfl) (by rfl) (store_whole BZ (by rw [hz.out]; exact hand_info) rfl hzo.out) ?_
    simp only [Act.put]
    have BZ2 := BZ.row zs
    have hb2 := below_setRow hb (show W.heap.size ≤ W.heap.size + 1 by omega) zs
    generalize w2.setRow (W.heap.size + 1) zs = w3 at *
    go_wp2_with fail
    exact bodyPost_ret (v := .tuple #[.agg zs, .int .i64 480]) (results_row2 rfl _ _ (W.heap.size + 1) 34 _ (0, 0) _ rfl BZ2 Tryd.underlying34 rfl (by rw [hz.out]; exact hand_info) rfl) rfl ⟨by rw [hm.out, he.out, hzs.out], hb2⟩
  | true =>
    obtain ⟨hm, he⟩ := hv1.out hf
    rw [hf] at q
    have hm := Lib.hid hm
    have he := Lib.hid he
    clear hf hv1 hv2
    (with_reducible refine q.mono ?_)
    rintro e w2 ⟨rfl, b2⟩
    clear q
    replace BZ := BZ.below b2 BZ.lt
    replace BH := BH.below b2 BH.lt
    replace hb := bCall hb b2
    go_upto_region 5 with fail
    apply wp_region_lit
    iterate 3 go_step
    refine wpList_loadG (by rfl) (by rfl) (by rfl) (load_blk BH Tryd.underlying34 rfl (by rw [hcl.out]; exact hand_info)) ?_
    simp only [Act.put, List.setIfInBounds_toArray, List.set_cons_zero, List.set_cons_succ]
    go_wp2_with fail
    (with_reducible refine (q2.out _).mono ?_)
    rintro e w3 ⟨v3, rfl, b3, A3, c3, rfl, hR3, _, _, _⟩
    replace BZ := BZ.below b3 BZ.lt
    replace BH := BH.below b3 BH.lt
    replace hb := bCall hb b3
    clear q2
    go_wp2_with fail
    (with_reducible refine (qs.out _ _ _ hR3 hb).mono ?_)
    rintro e w4 ⟨rfl, b4⟩
    replace BZ := BZ.below b4 BZ.lt
    replace BH := BH.below b4 BH.lt
    replace hb := bCall hb b4
    clear qs hR3 b2 b3 b4
    obtain ⟨c0, c1⟩ := hhd.out w4 BH
    have z0 := BH.frozen 40
    have z1 := BH.frozen 41
    have B2 := (BH.set_ 40 (.int .i64 E)).set_ 41 (.int .i64 S)
    rw [hsc.out] at B2
    replace BZ := (BZ.far (p := ⟨W.heap.size, 40, none⟩) (by show W.heap.size + 1 ≠ W.heap.size; omega) (.int .i64 E)).far (p := ⟨W.heap.size, 41, none⟩) (by show W.heap.size + 1 ≠ W.heap.size; omega) (.int .i64 S)
    have hb2 := bSet (bSet hb (p := ⟨W.heap.size, 40, none⟩) (Nat.le_refl _) (.int .i64 E)) (p := ⟨W.heap.size, 41, none⟩) (Nat.le_refl _) (.int .i64 S)
    go_upto_region 8 with fail
    clear c0 c1 z0 z1 BH hb
    generalize (w4.setCell ⟨W.heap.size, 40, none⟩ (.int .i64 E)).setCell ⟨W.heap.size, 41, none⟩ (.int .i64 S) = w5 at *
    apply wp_region_lit
    refine wpList_loadG (by rfl) (by rfl) (by rfl) (load_blk B2 Tryd.underlying34 rfl (by rw [hsl.out]; exact hand_info)) ?_
    simp only [Act.put, List.setIfInBounds_toArray, List.set_cons_zero, List.set_cons_succ]
    refine wpList_storeG (by rfl) (by rfl) (by rfl) (by rfl) (store_whole BZ (by rw [hsl.out]; exact hand_info) (by rw [hz.out, hsl.out]) hs1.out) ?_
    simp only [Act.put]
    have BZ2 := BZ.row ns
    have hb3 := below_setRow hb2 (show W.heap.size ≤ W.heap.size + 1 by omega) ns
    generalize w5.setRow (W.heap.size + 1) ns = w6 at *
    go_wp2_with fail
    exact bodyPost_ret (v := .tuple #[.agg ns, .int .i64 0]) (results_row2 rfl _ _ (W.heap.size + 1) 34 _ (0, 0) _ rfl BZ2 Tryd.underlying34 rfl (by rw [hsl.out]; exact hand_info) rfl) rfl ⟨by rw [hm.out, he.out, hns.out], hb3⟩
end Go.Proofs.YtoeobcmmafncmaaDoor

/-
  frankingtop.secrets48, walked.
-/
namespace Go.Proofs.YtoeobcmmafncmaaDoor
open Go.RowKit

theorem int_info : (Tryd.prog.info? 3).map (fun i => (i.zero, i.size, i.bytes)) = some (some (.int .i64 0), 1, 8) := by kernel_rfl
def secOf (n : Nat) : Int := 1 + (n : Int) % 1073741788
theorem secOf_ok (n : Nat) : secB (secOf n) = true := by
  have h : 1 ≤ secOf n ∧ secOf n < 1073741789 := by unfold secOf; omega
  exact decide_eq_true h
set_option maxHeartbeats 1000000 in
theorem tk_secrets (A : Option Addr) (c : Nat) (l : List Nat) (W : World) (hA : Rd W W.heap.size 1 A l.length (u32s l)) (hn : l.length ≤ 1000) (hl : ∀ x ∈ l, x < 4294967296) :
    Calls Tryd.prog 5 #[.slice A l.length c] W (RetSl 1 l.length (ints (l.map secOf)) W) := by
  go_enter Tryd.func5, Tryd.ntmps5
  go_wp2_with fail
  go_loopw [2, 7] (fun v i wr => ∃ k : Nat, k ≤ l.length ∧ i = .int .i64 k ∧ Below W.heap.size W wr ∧ wr.ownsRow W.heap.size 3 1 v k (ints ((l.take k).map secOf))) (fun _ i _ => l.length - (intOf i).toNat)
  case atStart => exact ⟨0, Nat.zero_le _, rfl, bRefl W, World.ownsRow_nil _ _ _ _⟩
  case round =>
    obtain ⟨k, hk, rfl, hb, hown⟩ := hrel
    by_cases hlt : k < l.length
    · obtain ⟨x, hx⟩ : ∃ x, Hid (l[k]? = some x) := ⟨_, Lib.hid (List.getElem?_eq_getElem hlt)⟩
      obtain ⟨b, off, rfl, hbb, hc⟩ := (hA.below hb).2 (by omega)
      have d0 : wr.cell? ⟨b, off + k, none⟩ = some (.int .u32 (x : Nat)) := hc k _ (by unfold u32s; rw [List.getElem?_map, hx.out]; rfl)
      have hxl := hl x (List.mem_of_getElem? hx.out)
      have hsn : Hid (ints ((l.take (k + 1)).map secOf) = ints ((l.take k).map secOf) ++ [.int .i64 (1 + (x : Int) % 1073741788)]) := Lib.hid (by
        obtain ⟨hk2, rfl⟩ := List.getElem?_eq_some_iff.1 hx.out
        rw [List.take_succ_eq_append_getElem hk2, List.map_append]
        unfold ints
        rw [List.map_append]; rfl)
      clear hc
      have hbs : W.heap.size ≤ wr.heap.size := hb.size
      have h63 : k + 1 ≤ maxLen := by unfold maxLen; omega
      have hby : (k + 1) * 8 ≤ 140737488355328 := by omega
      have hone : ∀ u ∈ [Value.int .i64 (1 + (x : Int) % 1073741788)], u.oneCell' = true := by intro u hu; simp at hu; rcases hu with rfl; rfl
      go_wp2_with (at_builtin; refine wpList_append1G wr [.int .i64 (1 + (x : Int) % 1073741788)] (.tmp 11) (.tmp 16) 38 W.heap.size 3 (.int .i64 0) 1 8 _ k (ints ((l.take k).map secOf)) rfl rfl Tryd.underlying38 int_info rfl (by omega) rfl hown rfl rfl hone h63 hby hbs ?_; intro v' w' hown4 hg4)
      have b4 := hg4.below hown hbs
      exact ⟨⟨k + 1, by omega, by go_num, hb.trans b4, by rw [hsn.out]; exact hown4⟩, by simp [intOf]; omega⟩
    · obtain rfl : k = l.length := by omega
      rw [List.take_length] at hown
      go_wp2_with fail
      go_ret
      exact ⟨_, rfl, hb, Sl.of_own hown⟩
end Go.Proofs.YtoeobcmmafncmaaDoor
