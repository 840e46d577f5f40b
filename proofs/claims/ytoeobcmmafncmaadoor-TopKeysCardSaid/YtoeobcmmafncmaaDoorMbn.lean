/-
  sign: list, power, Verify; walked.
-/
import Derived.Test.YtoeobcmmafncmaaDoorMbd
import Derived.Test.YtoeobcmmafncmaaDoorMbm
import Derived.Test.YtoeobcmmafncmaaDoorMao
import Derived.Test.YtoeobcmmafncmaaDoorMah
import Derived.Test.YtoeobcmmafncmaaDoorMbj
import Derived.Test.YtoeobcmmafncmaaDoorMbf
namespace Go.Proofs.YtoeobcmmafncmaaDoor
open Go.RowKit

/-- A number, or bytes that lie somewhere. -/
inductive Nb where
  | int (n : Int)
  | txt (A : Option Addr) (c : Nat) (d : List Nat)
def Nb.val : Nb → Value
  | .int n => .iface 3 (.int .i64 n)
  | .txt A c d => .iface 24 (.slice A d.length c)
def Nb.it : Nb → It
  | .int n => .int n
  | .txt _ _ d => .text (dgS d)
def Nb.ok (w : World) (B : Nat) : Nb → Prop
  | .int n => inI n
  | .txt A _ d => Rd w B 1 A d.length (byts d) ∧ okB d ∧ 0 < d.length ∧ d.length ≤ 1000000
theorem dgS_size (d : List Nat) : (dgS d).size = d.length := by simp [dgS, dgB, ByteArray.size]
theorem Nb.it_ok {w : World} {B : Nat} {x : Nb} (h : x.ok w B) : x.it.ok := by
  cases x with
  | int n => exact h
  | txt A c d => show (dgS d).size ≤ 1000000; rw [dgS_size]; exact h.2.2.2
theorem convert_rowN {w : World} {B c : Nat} {A : Option Addr} {d : List Nat} (h : Rd w B 1 A d.length (byts d)) (h0 : 0 < d.length) (ho : okB d) : (convert 24 9 (.slice A d.length c)).run Tryd.prog w = .ok (.string (dgS d)) w := by
  obtain ⟨b, off, rfl, _, hc⟩ := h.2 h0
  have := run_convert_bytes_back (P := Tryd.prog) w 24 9 5 ⟨b, off, none⟩ c (dgB d) Tryd.underlying24 Tryd.underlying5 Tryd.underlying9 (fun j hj => by
    have hj' : j < d.length := by simpa [dgB] using hj
    rw [addr_plus, dgB_at ho j hj]
    refine hc j _ ?_
    simp [byts, hj'])
  rw [show (dgB d).length = d.length by simp [dgB]] at this
  exact this
theorem assertB_no (A : Option Addr) (n c : Nat) (w : World) : (Instr.typeAssert (.iface 24 (.slice A n c)) 20 3 true).run Tryd.prog w = .ok (.tuple #[.int .i64 0, .bool false]) w := by kernel_rfl
theorem assertB_yes (A : Option Addr) (n c : Nat) (w : World) : (Instr.typeAssert (.iface 24 (.slice A n c)) 20 24 true).run Tryd.prog w = .ok (.tuple #[.slice A n c, .bool true]) w := by kernel_rfl
set_option maxRecDepth 100000 in
set_option maxHeartbeats 4000000 in
theorem sg_list (A : Option Addr) (n c : Nat) (l : List Nb) (W : World) (hA : Rd W W.heap.size 1 A n (l.map Nb.val)) (hok : ∀ x ∈ l, x.ok W W.heap.size) (hn : n ≤ 100) :
    Calls Tryd.prog 70 #[.slice A n c] W (RetSl 1 (encN (l.map Nb.it)).length (byts (encN (l.map Nb.it))) W) := by
  obtain rfl : l.length = n := by have := hA.1; rw [List.length_map, Nat.mul_one] at this; exact this
  go_enter Tryd.func70, Tryd.ntmps70
  go_wp2_with fail
  have BV := Blk.new W 148 #[.int .i64 3, .int .i64 0, .string ⟨#[]⟩, .slice none 0 0] _ rfl
  have hb := bAl (bRefl W) (.cells #[.int .i64 3, .int .i64 0, .string ⟨#[]⟩, .slice none 0 0] 148)
  generalize W.alloc (.cells #[.int .i64 3, .int .i64 0, .string ⟨#[]⟩, .slice none 0 0] 148) = w1 at *
  go_loopw [13] (fun i wr => ∃ (k : Nat) (v : Value), k ≤ l.length ∧ i = .int .i64 k ∧ Below W.heap.size W wr ∧ Blk wr W.heap.size 148 #[.int .i64 3, .int .i64 0, .string ⟨#[]⟩, v] ∧ wr.ownsRow (W.heap.size + 1) 148 4 v k (((l.take k).map Nb.it).flatMap It.cells)) (fun i _ => l.length - (intOf i).toNat)
  case atStart => exact ⟨0, _, Nat.zero_le _, rfl, hb, BV, World.ownsRow_nil _ _ _ _⟩
  case round =>
    clear hb BV
    obtain ⟨k, v, hk, rfl, hb, BV, hown⟩ := hrel
    have c3 : wr.cell? ⟨W.heap.size, 3, none⟩ = some v := BV.cell 3
    have z3 := BV.frozen 3
    by_cases hlt : k < l.length
    · obtain ⟨x, hx⟩ : ∃ x, Hid (l[k]? = some x) := ⟨_, Lib.hid (List.getElem?_eq_getElem hlt)⟩
      obtain ⟨b, off, rfl, hbb, hc⟩ := (hA.below hb).2 (by omega)
      have d0 : wr.cell? ⟨b, off + k, none⟩ = some x.val := hc k _ (by rw [List.getElem?_map, hx.out]; rfl)
      clear hc
      have hsn : Hid (((l.take (k + 1)).map Nb.it).flatMap It.cells = ((l.take k).map Nb.it).flatMap It.cells ++ x.it.cells) := by
        obtain ⟨hk, rfl⟩ := List.getElem?_eq_some_iff.1 hx.out
        show _ = _
        rw [List.take_succ_eq_append_getElem hk, List.map_append, List.flatMap_append]; simp
      have hbs : W.heap.size + 1 ≤ wr.heap.size := BV.lt
      have h63 : k + 1 ≤ maxLen := by unfold maxLen; omega
      have hby : (k + 1) * 56 ≤ 140737488355328 := by omega
      have hxok := hok x (List.mem_of_getElem? hx.out)
      have hone := it_one x.it
      cases x with
      | int m =>
        have ta := assert_int m
        change wr.cell? ⟨b, off + k, none⟩ = some (.iface 3 (.int .i64 m)) at d0
        go_wp2_with (at_builtin; refine wpList_append1G wr [.int .i64 1, .int .i64 m, .string ⟨#[]⟩, .slice none 0 0] (.tmp 22) (.tmp 25) 146 (W.heap.size + 1) 148 (.agg #[.int .i64 0, .int .i64 0, .string ⟨#[]⟩, .slice none 0 0]) 4 56 v k (((l.take k).map Nb.it).flatMap It.cells) rfl rfl Tryd.underlying146 value_info rfl (by omega) rfl hown rfl rfl hone h63 hby hbs ?_; intro v' w' hown4 hg4; obtain ⟨g', cap', rfl⟩ := ownsRow_succ hown4; have b4 := hg4.below hown hbs; have BV4 := BV.below b4 (by omega); have c4 := val_cell BV4; have z4 := BV4.frozen 3)
        exact ⟨⟨k + 1, _, by omega, by go_num, bSet (hb.trans (b4.mono (by omega))) (Nat.le_refl _) _, BV4.set_ 3 _, by rw [hsn.out]; exact ownsRow_set hown4 (p := ⟨W.heap.size, 3, none⟩) (by show W.heap.size < W.heap.size + 1; omega) _⟩, by simp [intOf]; omega⟩
      | txt Ad cd d =>
        have ta := assertB_no Ad d.length cd
        have tb := assertB_yes Ad d.length cd
        have cv := convert_rowN (c := cd) (hxok.1.below hb) hxok.2.2.1 hxok.2.1
        change wr.cell? ⟨b, off + k, none⟩ = some (.iface 24 (.slice Ad d.length cd)) at d0
        go_wp2_with (at_builtin; refine wpList_append1G wr [.int .i64 2, .int .i64 0, .string (dgS d), .slice none 0 0] (.tmp 32) (.tmp 36) 146 (W.heap.size + 1) 148 (.agg #[.int .i64 0, .int .i64 0, .string ⟨#[]⟩, .slice none 0 0]) 4 56 v k (((l.take k).map Nb.it).flatMap It.cells) rfl rfl Tryd.underlying146 value_info rfl (by omega) rfl hown rfl rfl hone h63 hby hbs ?_; intro v' w' hown4 hg4; obtain ⟨g', cap', rfl⟩ := ownsRow_succ hown4; have b4 := hg4.below hown hbs; have BV4 := BV.below b4 (by omega); have c4 := val_cell BV4; have z4 := BV4.frozen 3)
        exact ⟨⟨k + 1, _, by omega, by go_num, bSet (hb.trans (b4.mono (by omega))) (Nat.le_refl _) _, BV4.set_ 3 _, by rw [hsn.out]; exact ownsRow_set hown4 (p := ⟨W.heap.size, 3, none⟩) (by show W.heap.size < W.heap.size + 1; omega) _⟩, by simp [intOf]; omega⟩
    · have hkn : k = l.length := by omega
      rw [hkn, List.take_length] at hown
      clear hkn
      obtain ⟨A2, c2, hv, hR, _⟩ := Sl.of_own hown
      subst hv
      have e0 : wr.cell? ⟨W.heap.size, 0, none⟩ = some (.int .i64 3) := BV.cell 0
      have e1 : wr.cell? ⟨W.heap.size, 1, none⟩ = some (.int .i64 0) := BV.cell 1
      have e2 : wr.cell? ⟨W.heap.size, 2, none⟩ = some (.string ⟨#[]⟩) := BV.cell 2
      have q := encode_list A2 l.length c2 (l.map Nb.it) wr hR (by
        intro x hx
        obtain ⟨y, hy, rfl⟩ := List.mem_map.1 hx
        exact Nb.it_ok (hok y hy)) (by omega)
      unfold listV at q
      go_wp2_with fail
      with_reducible refine q.mono ?_
      rintro e w5 ⟨v, rfl, b5, hv⟩
      have hb5 := bCall hb b5
      go_wp2_with fail
      go_ret
      exact ⟨_, rfl, hb5, hv⟩
theorem sg_power (a n : Int) (W : World) : Calls Tryd.prog 71 #[.int .i64 a, .int .i64 n] W (Ret (.int .i64 (powV a n)) W) := by
  have q := group_pow a n W
  generalize powV a n = v at *
  generalize powE a = e at *
  go_enter Tryd.func71, Tryd.ntmps71
  go_wp2_with fail
  (with_reducible refine q.mono ?_)
  rintro r w' ⟨rfl, b'⟩
  go_wp2_with fail
  go_ret
  exact ⟨rfl, b'⟩

theorem ordB_no {E S : Int} (h : (ordB E && ordB S) = false) : (E < 0 ∨ S < 0) ∨ (1073741789 ≤ E ∨ 1073741789 ≤ S) := by
  unfold ordB at h
  rw [← Bool.decide_and, decide_eq_false_iff_not] at h
  omega
theorem ordB_yes {E S : Int} (h : (ordB E && ordB S) = true) : (0 ≤ E ∧ 0 ≤ S) ∧ (E < 1073741789 ∧ S < 1073741789) := by
  unfold ordB at h
  rw [← Bool.decide_and, decide_eq_true_iff] at h
  omega
theorem sgB_no {key : Int} {b : List Nat} {E S : Int} (h : (ordB E && ordB S) = false) : sgB key b E S = false := by
  unfold sgB; rw [h]; simp
theorem sgB_key {key : Int} {b : List Nat} {E S : Int} (h : validB key = false) : sgB key b E S = false := by
  unfold sgB; rw [h]; simp
theorem sgB_yes {key : Int} {b : List Nat} {E S : Int} (h : (ordB E && ordB S) = true) (hk : validB key = true) : sgB key b E S = decide (E = (sgV (ptV key E S) key b : Nat)) := by
  unfold sgB; rw [h, hk]; simp
theorem pair_cells {w : World} {g : Nat} {t : TypeId} {E S : Int} (h : Blk w g t #[.int .i64 E, .int .i64 S]) : w.cell? ⟨g, 0, none⟩ = some (.int .i64 E) ∧ w.cell? ⟨g, 1, none⟩ = some (.int .i64 S) := ⟨h.cell 0, h.cell 1⟩
set_option maxRecDepth 100000 in
set_option maxHeartbeats 4000000 in
theorem sg_verify (key : Int) (A : Option Addr) (c : Nat) (b : List Nat) (E S : Int) (W : World) (ik : inI key) (hA : Rd W W.heap.size 1 A b.length (byts b)) (hob : okB b) (h0 : 0 < b.length) (hlen : b.length ≤ 1000000) (hG : ShaG W) :
    Calls Tryd.prog 44 #[.int .i64 key, .slice A b.length c, .agg #[.int .i64 E, .int .i64 S]] W (Ret (.bool (sgB key b E S)) W) := by
  have BE := Blk.new W 32 #[.int .i64 E, .int .i64 S] _ rfl
  have hb := bAl (bRefl W) (.cells #[.int .i64 E, .int .i64 S] 32)
  obtain ⟨m, hm⟩ : ∃ m, (if S < E then S else E) = m := ⟨_, rfl⟩
  obtain ⟨M, hM⟩ : ∃ M, (if S > E then S else E) = M := ⟨_, rfl⟩
  have hM2 : (if E < S then S else E) = M := hM
  cases ho : ordB E && ordB S with
  | false =>
    rw [sgB_no ho]
    have h := ordB_no ho
    clear ho
    obtain ⟨c0, c1⟩ := pair_cells BE
    clear BE
    by_cases h1 : m < 0
    · clear h
      go_enter Tryd.func44, Tryd.ntmps44
      go_wp2_with fail
      go_ret
      exact ⟨rfl, hb⟩
    · have h2 : 1073741789 ≤ M := by
        rw [← hM2]; rw [← hm] at h1
        split at h1 <;> split <;> omega
      clear h
      go_enter Tryd.func44, Tryd.ntmps44
      go_wp2_with fail
      go_ret
      exact ⟨rfl, hb⟩
  | true =>
    obtain ⟨⟨e1, e2⟩, e3, e4⟩ := ordB_yes ho
    have h1 : ¬ m < 0 := by rw [← hm]; split <;> omega
    have h2 : ¬ 1073741789 ≤ M := by rw [← hM2]; split <;> omega
    have q1 := group_valid key (W.alloc (.cells #[.int .i64 E, .int .i64 S] 32))
    cases hk : validB key with
    | false =>
      rw [hk] at q1
      rw [sgB_key hk]
      clear ho hk
      obtain ⟨c0, c1⟩ := pair_cells BE
      clear BE
      go_enter Tryd.func44, Tryd.ntmps44
      go_wp2_with fail
      (with_reducible refine q1.mono ?_)
      rintro e w1 ⟨rfl, rfl⟩
      clear q1
      go_wp2_with fail
      go_ret
      exact ⟨rfl, hb⟩
    | true =>
      rw [hk] at q1
      rw [sgB_yes ho hk]
      clear ho hk
      obtain ⟨p1, hp1⟩ : ∃ p, powV 4 S = p := ⟨_, rfl⟩
      obtain ⟨p2, hp2⟩ : ∃ p, powV key (-E) = p := ⟨_, rfl⟩
      obtain ⟨P, hP⟩ : ∃ P, mulV p1 p2 = P := ⟨_, rfl⟩
      obtain ⟨Pe, hPe⟩ : ∃ P, mulE p1 p2 = P := ⟨_, rfl⟩
      obtain ⟨C, hC⟩ : ∃ C, sgV P key b = C := ⟨_, rfl⟩
      have hv : sgV (ptV key E S) key b = C := by unfold ptV; rw [hp1, hp2, hP, hC]
      rw [hv]
      have iP : inI P := by have := mulV_in p1 p2; rw [hP] at this; exact ⟨by omega, by omega⟩
      have qa : Hid (∀ w, Calls Tryd.prog 71 #[.int .i64 4, .int .i64 S] w (Ret (.int .i64 p1) w)) := Lib.hid (fun w => by rw [← hp1]; exact sg_power 4 S w)
      have qb : Hid (∀ w, Calls Tryd.prog 71 #[.int .i64 key, .int .i64 (-E)] w (Ret (.int .i64 p2) w)) := Lib.hid (fun w => by rw [← hp2]; exact sg_power key (-E) w)
      have qc : Hid (∀ w, Calls Tryd.prog 24 #[.int .i64 p1, .int .i64 p2] w (Same (.tuple #[.int .i64 P, .int .i64 Pe]) w)) := Lib.hid (fun w => by rw [← hP, ← hPe]; exact group_mul p1 p2 w)
      have hneg : Hid (IntKind.i64.wrap (-E) = -E) := by show _ = _; rw [IntKind.wrap_i64]; omega
      have hl : (encN [It.int P, .int key, .text (dgS b)]).length ≤ 1000012012 := encN_len (by
        intro x hx
        simp only [List.mem_cons, List.not_mem_nil, or_false] at hx
        rcases hx with rfl | rfl | rfl
        · exact iP
        · exact ik
        · show (dgS b).size ≤ 1000000; rw [dgS_size]; exact hlen) (by simp)
      have hoE := okB_encN [It.int P, .int key, .text (dgS b)]
      have qd : Hid (∀ w : World, Below W.heap.size W w → Calls Tryd.prog 70 #[.slice (some ⟨w.heap.size, 0, none⟩) 3 3] (w.alloc (.cells #[.iface 3 (.int .i64 P), .iface 3 (.int .i64 key), .iface 24 (.slice A b.length c)] 20)).drew (RetSl 1 (encN [It.int P, .int key, .text (dgS b)]).length (byts (encN [It.int P, .int key, .text (dgS b)])) (w.alloc (.cells #[.iface 3 (.int .i64 P), .iface 3 (.int .i64 key), .iface 24 (.slice A b.length c)] 20)).drew)) := Lib.hid (fun w hw => by
        refine sg_list (some ⟨w.heap.size, 0, none⟩) 3 3 [.int P, .int key, .txt A c b] (w.drew.alloc (.cells ([Nb.int P, .int key, .txt A c b].map Nb.val).toArray 20)) (Rd.new w.drew _ _ 1 3 _ rfl rfl) ?_ (by omega)
        intro x hx
        simp only [List.mem_cons, List.not_mem_nil, or_false] at hx
        rcases hx with rfl | rfl | rfl
        · exact iP
        · exact ik
        · refine ⟨((hA.below hw).more hw.size).below (bAl (bDr (bRefl _)) _) |>.more ?_, hob, h0, hlen⟩
          simp)
      have hC2 : hashV (sb sgS) (encN [It.int P, .int key, .text (dgS b)]) = C := hC
      clear hv hC hp1 hp2 hP hPe iP ik h0 hlen
      generalize encN [It.int P, .int key, .text (dgS b)] = En at *
      have qe : Hid (∀ (A : Option Addr) (c : Nat) (w : World), Rd w w.heap.size 1 A En.length (byts En) → (A = none → En.length = 0 ∧ c = 0) → ShaG w → Calls Tryd.prog 58 #[.string ⟨#[115, 105, 103, 110]⟩, .slice A En.length c] w (Ret (.int .i64 (C : Nat)) w)) := Lib.hid (fun A c w hR hn hGw => by
        rw [← hC2]
        exact hash_any sgS A En.length c En w hR hn hoE (by decide) (Nat.le_trans hl (by decide)) hGw)
      clear hl hoE hC2 hA hob
      obtain ⟨c0, c1⟩ := pair_cells BE
      go_enter Tryd.func44, Tryd.ntmps44
      go_wp2_with fail
      (with_reducible refine q1.mono ?_)
      rintro e w1 ⟨rfl, rfl⟩
      clear q1
      go_upto_region 3 with fail
      clear c0 c1
      generalize W.alloc (.cells #[.int .i64 E, .int .i64 S] 32) = w1 at *
      have KS : Hid (∀ w', Below w1.heap.size w1 w' → w'.cell? ⟨W.heap.size, 0, none⟩ = some (.int .i64 E) ∧ w'.cell? ⟨W.heap.size, 1, none⟩ = some (.int .i64 S)) := Lib.hid (fun w' h => pair_cells (BE.below h BE.lt))
      refine wp_region_schB (f := 12) KS [(0, 1), (1, 2), (3, 1), (4, 1), (5, 2), (6, 1), (2, 0), (7, 0), (8, 0), (9, 1), (10, 1), (11, 1), (12, 3), (13, 3)] ?_
      simp only [pickS, List.getElem?_cons_zero, List.getElem?_cons_succ]
      refine wpSched_t ?_
      refine wpSched_r ?_
      refine wpSched_t ?_
      refine wpSched_t ?_
      refine wpSched_r ?_
      refine wpSched_t ?_
      refine wpSched_force (fun K hK => ?_)
      go_simp; (first | (go_at_call 71; (with_reducible refine (qa.out _).mono ?_); rintro e w3 ⟨rfl, b3⟩; have B3 : Below w1.heap.size w1 w3 := bCall (by repeat (first | with_reducible exact bRefl _ | with_reducible refine bDr ?_ | with_reducible refine bAl ?_ _)) b3) | (go_at_call 71; (try rw [hneg.out]); (with_reducible refine (qb.out _).mono ?_); rintro e w4 ⟨rfl, b4⟩; have B4 : Below w1.heap.size w1 w4 := bCall (by repeat (first | with_reducible exact B3 | with_reducible refine bDr ?_ | with_reducible refine bAl ?_ _)) b4) | (go_at_call 24; (with_reducible refine (qc.out _).mono ?_); rintro e w5 ⟨rfl, rfl⟩) | skip)
      refine shut_go hK KS ?_
      clear hK K
      refine wpSched_force (fun K hK => ?_)
      go_simp; (first | (go_at_call 71; (with_reducible refine (qa.out _).mono ?_); rintro e w3 ⟨rfl, b3⟩; have B3 : Below w1.heap.size w1 w3 := bCall (by repeat (first | with_reducible exact bRefl _ | with_reducible refine bDr ?_ | with_reducible refine bAl ?_ _)) b3) | (go_at_call 71; (try rw [hneg.out]); (with_reducible refine (qb.out _).mono ?_); rintro e w4 ⟨rfl, b4⟩; have B4 : Below w1.heap.size w1 w4 := bCall (by repeat (first | with_reducible exact B3 | with_reducible refine bDr ?_ | with_reducible refine bAl ?_ _)) b4) | (go_at_call 24; (with_reducible refine (qc.out _).mono ?_); rintro e w5 ⟨rfl, rfl⟩) | skip)
      refine shut_go hK KS ?_
      clear hK K
      refine wpSched_force (fun K hK => ?_)
      go_simp; (first | (go_at_call 71; (with_reducible refine (qa.out _).mono ?_); rintro e w3 ⟨rfl, b3⟩; have B3 : Below w1.heap.size w1 w3 := bCall (by repeat (first | with_reducible exact bRefl _ | with_reducible refine bDr ?_ | with_reducible refine bAl ?_ _)) b3) | (go_at_call 71; (try rw [hneg.out]); (with_reducible refine (qb.out _).mono ?_); rintro e w4 ⟨rfl, b4⟩; have B4 : Below w1.heap.size w1 w4 := bCall (by repeat (first | with_reducible exact B3 | with_reducible refine bDr ?_ | with_reducible refine bAl ?_ _)) b4) | (go_at_call 24; (with_reducible refine (qc.out _).mono ?_); rintro e w5 ⟨rfl, rfl⟩) | skip)
      refine shut_go hK KS ?_
      clear hK K
      refine wpSched_t ?_
      refine wpSched_t ?_
      refine wpSched_t ?_
      refine wpSched_last ?_
      first | simp only [List.map_nil] | simp only [List.map_cons, List.map_nil]
      go_wp2_with fail
      refine NoPanic.normal ?_
      go_upto_region 4 with fail
      have BE4 := BE.below B4 BE.lt
      have hb4 := bCall hb B4
      have hG4 := hG.below hb4
      have hw4 : Below W.heap.size W w4 := hb4
      clear KS qa qb qc hneg b3 b4 B3 B4 hb BE hG
      have KT : Hid (∀ w', Below w4.heap.size w4 w' → w'.cell? ⟨W.heap.size, 0, none⟩ = some (.int .i64 E)) := Lib.hid (fun w' h => (BE4.below h BE4.lt).cell 0)
      refine wp_region_schB (f := 12) KT [(0, 1), (1, 2), (2, 1), (3, 1), (4, 1), (5, 1), (6, 1), (7, 1), (8, 0), (9, 0), (10, 0), (11, 1), (12, 3)] ?_
      simp only [pickS, List.getElem?_cons_zero, List.getElem?_cons_succ]
      refine wpSched_t ?_
      refine wpSched_r ?_
      refine wpSched_t ?_
      refine wpSched_t ?_
      refine wpSched_t ?_
      refine wpSched_t ?_
      refine wpSched_t ?_
      refine wpSched_t ?_
      refine wpSched_force (fun K hK => ?_)
      go_simp; (first | (go_at_call 70; (with_reducible refine (qd.out _ (by repeat (first | with_reducible exact hw4 | with_reducible refine bDr ?_ | with_reducible refine bAl ?_ _))).mono ?_); rintro e w5 ⟨v5, rfl, b5, A5, c5, rfl, hR5, _, _, hn5⟩; have B5 : Below w4.heap.size w4 w5 := bCall (by repeat (first | with_reducible exact bRefl _ | with_reducible refine bDr ?_ | with_reducible refine bAl ?_ _)) b5; have hG5 := hG4.below B5) | (go_at_call 58; (with_reducible refine (qe.out _ _ _ hR5 hn5 hG5).mono ?_); rintro e w6 ⟨rfl, b6⟩; have B6 : Below w4.heap.size w4 w6 := bCall B5 b6) | skip)
      refine shut_go hK KT ?_
      clear hK K
      refine wpSched_force (fun K hK => ?_)
      go_simp; (first | (go_at_call 70; (with_reducible refine (qd.out _ (by repeat (first | with_reducible exact hw4 | with_reducible refine bDr ?_ | with_reducible refine bAl ?_ _))).mono ?_); rintro e w5 ⟨v5, rfl, b5, A5, c5, rfl, hR5, _, _, hn5⟩; have B5 : Below w4.heap.size w4 w5 := bCall (by repeat (first | with_reducible exact bRefl _ | with_reducible refine bDr ?_ | with_reducible refine bAl ?_ _)) b5; have hG5 := hG4.below B5) | (go_at_call 58; (with_reducible refine (qe.out _ _ _ hR5 hn5 hG5).mono ?_); rintro e w6 ⟨rfl, b6⟩; have B6 : Below w4.heap.size w4 w6 := bCall B5 b6) | skip)
      refine shut_go hK KT ?_
      clear hK K
      refine wpSched_force (fun K hK => ?_)
      go_simp; (first | (go_at_call 70; (with_reducible refine (qd.out _ (by repeat (first | with_reducible exact hw4 | with_reducible refine bDr ?_ | with_reducible refine bAl ?_ _))).mono ?_); rintro e w5 ⟨v5, rfl, b5, A5, c5, rfl, hR5, _, _, hn5⟩; have B5 : Below w4.heap.size w4 w5 := bCall (by repeat (first | with_reducible exact bRefl _ | with_reducible refine bDr ?_ | with_reducible refine bAl ?_ _)) b5; have hG5 := hG4.below B5) | (go_at_call 58; (with_reducible refine (qe.out _ _ _ hR5 hn5 hG5).mono ?_); rintro e w6 ⟨rfl, b6⟩; have B6 : Below w4.heap.size w4 w6 := bCall B5 b6) | skip)
      refine shut_go hK KT ?_
      clear hK K
      refine wpSched_t ?_
      refine wpSched_last ?_
      first | simp only [List.map_nil] | simp only [List.map_cons, List.map_nil]
      go_wp2_with fail
      refine NoPanic.normal ?_
      go_wp2_with fail
      go_ret
      exact ⟨rfl, bCall hb4 B6⟩
end Go.Proofs.YtoeobcmmafncmaaDoor

/-
  sign.Sign, walked.
-/
namespace Go.Proofs.YtoeobcmmafncmaaDoor
open Go.RowKit

theorem sg_plus (a b : Nat) (ha : a < 1073741789) (hb : b < 1073741789) (W : World) : Calls Tryd.prog 72 #[.int .i64 a, .int .i64 b] W (Same (.int .i64 (((a : Int) + b) % 1073741789)) W) := by
  go_enter Tryd.func72, Tryd.ntmps72
  go_wp2
  go_ret
  exact ⟨rfl, rfl⟩
theorem sg_times (a b : Nat) (ha : a < 1073741789) (hb : b < 1073741789) (W : World) : Calls Tryd.prog 73 #[.int .i64 a, .int .i64 b] W (Same (.int .i64 (a * b % Qn : Nat)) W) := by
  have k := Lib.hid (cast_mulmod a b)
  have m := mul_q ha hb
  go_enter Tryd.func73, Tryd.ntmps73
  go_wp2
  go_ret
  exact ⟨ret_int (by rw [k.out]), rfl⟩
/-- A list that has just been built. -/
theorem sg_listN (l : List Nb) (w : World) (hok : ∀ x ∈ l, x.ok w w.heap.size) (hn : l.length ≤ 100) :
    Calls Tryd.prog 70 #[.slice (some ⟨w.heap.size, 0, none⟩) l.length l.length] (w.alloc (.cells (l.map Nb.val).toArray 20)) (RetSl 1 (encN (l.map Nb.it)).length (byts (encN (l.map Nb.it))) (w.alloc (.cells (l.map Nb.val).toArray 20))) := by
  refine sg_list _ l.length l.length l _ (Rd.new w _ _ 1 _ _ rfl (by simp)) (fun x hx => ?_) hn
  have h := hok x hx
  cases x with
  | int n => exact h
  | txt A c d => exact ⟨(h.1.below (bAl (bRefl _) _)).more (by simp), h.2⟩
theorem ret_sig {E S E' S' : Int} (h : E = E') (h' : S = S') : Ending.returned (.tuple #[.agg #[.int .i64 E, .int .i64 S], .int .i64 0]) = .returned (.tuple #[.agg #[.int .i64 E', .int .i64 S'], .int .i64 0]) := by rw [h, h']
set_option maxRecDepth 100000 in
set_option maxHeartbeats 4000000 in
theorem sg_sign (s : Int) (hs : secB s = true) (A : Option Addr) (c : Nat) (b : List Nat) (W : World) (hA : Rd W W.heap.size 1 A b.length (byts b)) (hob : okB b) (h0 : 0 < b.length) (hlen : b.length ≤ 1000000) (hG : ShaG W) :
    Calls Tryd.prog 42 #[.int .i64 s, .slice A b.length c] W (Ret (.tuple #[.agg #[.int .i64 (sigE s b), .int .i64 (sigS s b)], .int .i64 0]) W) := by
  obtain ⟨s1, s2⟩ := secB_rng hs
  have is : inI s := ⟨by omega, by omega⟩
  obtain ⟨s, rfl⟩ := Int.eq_ofNat_of_zero_le (show 0 ≤ s by omega)
  have hK := nonK_rng s b
  obtain ⟨K, hKe⟩ : ∃ K : Nat, nonK s b = K := ⟨(nonK s b).toNat, by omega⟩
  obtain ⟨P1, hP1⟩ : ∃ P, powV 4 K = P := ⟨_, rfl⟩
  obtain ⟨P2, hP2⟩ : ∃ P, powV 4 s = P := ⟨_, rfl⟩
  have hPi : ∀ n, inI (powV 4 n) := fun n => by have := validB_rng (valid_pow valid_four n); exact ⟨by omega, by omega⟩
  have i1 : inI P1 := hP1 ▸ hPi K
  have i2 : inI P2 := hP2 ▸ hPi s
  obtain ⟨En, hEn⟩ : ∃ En, encN [It.int s, .text (dgS b)] = En := ⟨_, rfl⟩
  obtain ⟨Em, hEm⟩ : ∃ En, encN [It.int P1, .int P2, .text (dgS b)] = En := ⟨_, rfl⟩
  obtain ⟨H0, hH0⟩ : ∃ H, hashV (sb nonT) En = H := ⟨_, rfl⟩
  obtain ⟨E, hE⟩ : ∃ H, hashV (sb sgS) Em = H := ⟨_, rfl⟩
  have hElt : E < 1073741789 := hE ▸ hashV_lt _ _
  have eK : Hid (max (H0 : Int) 1 = K) := Lib.hid (by rw [← hKe]; unfold nonK; rw [hEn, hH0])
  have eE : sigE s b = (E : Nat) := by unfold sigE sgV; rw [hKe, hP1, hP2, hEm, hE]
  have eS : Hid (sigS s b = (K + (E : Int) * s % 1073741789) % 1073741789) := Lib.hid (by unfold sigS; rw [hKe, eE])
  replace eE := Lib.hid eE
  rw [hKe] at hK
  have itok : (It.text (dgS b)).ok := by show (dgS b).size ≤ 1000000; rw [dgS_size]; exact hlen
  have ln : En.length ≤ 1000012012 := by
    rw [← hEn]
    exact encN_len (by
      intro x hx
      simp only [List.mem_cons, List.not_mem_nil, or_false] at hx
      rcases hx with rfl | rfl
      · exact is
      · exact itok) (by simp)
  have lm : Em.length ≤ 1000012012 := by
    rw [← hEm]
    exact encN_len (by
      intro x hx
      simp only [List.mem_cons, List.not_mem_nil, or_false] at hx
      rcases hx with rfl | rfl | rfl
      · exact i1
      · exact i2
      · exact itok) (by simp)
  have on : okB En := hEn ▸ okB_encN _
  have om : okB Em := hEm ▸ okB_encN _
  have q1 : Hid (∀ w, Below W.heap.size W w → Calls Tryd.prog 70 #[.slice (some ⟨w.heap.size, 0, none⟩) 2 2] (w.alloc (.cells #[.iface 3 (.int .i64 s), .iface 24 (.slice A b.length c)] 20)) (RetSl 1 En.length (byts En) (w.alloc (.cells #[.iface 3 (.int .i64 s), .iface 24 (.slice A b.length c)] 20)))) := Lib.hid (fun w hw => by
    have := sg_listN [.int s, .txt A c b] w (by
      intro x hx
      simp only [List.mem_cons, List.not_mem_nil, or_false] at hx
      rcases hx with rfl | rfl
      · exact is
      · exact ⟨(hA.below hw).more hw.size, hob, h0, hlen⟩) (by simp)
    rw [show ([Nb.int s, .txt A c b].map Nb.it) = [It.int s, .text (dgS b)] from rfl, hEn] at this
    exact this)
  have q2 : Hid (∀ (A : Option Addr) (c : Nat) (w : World), Rd w w.heap.size 1 A En.length (byts En) → (A = none → En.length = 0 ∧ c = 0) → ShaG w → Calls Tryd.prog 58 #[.string ⟨#[110, 111, 110, 99, 101]⟩, .slice A En.length c] w (Ret (.int .i64 (H0 : Nat)) w)) := Lib.hid (fun A c w hR hn hGw => by
    rw [← hH0]
    exact hash_any nonT A En.length c En w hR hn on (by decide) (Nat.le_trans ln (by decide)) hGw)
  have q3 : Hid (∀ w, Calls Tryd.prog 71 #[.int .i64 4, .int .i64 K] w (Ret (.int .i64 P1) w)) := Lib.hid (fun w => by rw [← hP1]; exact sg_power 4 K w)
  have q4 : Hid (∀ w, Calls Tryd.prog 71 #[.int .i64 4, .int .i64 s] w (Ret (.int .i64 P2) w)) := Lib.hid (fun w => by rw [← hP2]; exact sg_power 4 s w)
  have q5 : Hid (∀ w, Below W.heap.size W w → Calls Tryd.prog 70 #[.slice (some ⟨w.heap.size, 0, none⟩) 3 3] (w.alloc (.cells #[.iface 3 (.int .i64 P1), .iface 3 (.int .i64 P2), .iface 24 (.slice A b.length c)] 20)) (RetSl 1 Em.length (byts Em) (w.alloc (.cells #[.iface 3 (.int .i64 P1), .iface 3 (.int .i64 P2), .iface 24 (.slice A b.length c)] 20)))) := Lib.hid (fun w hw => by
    have := sg_listN [.int P1, .int P2, .txt A c b] w (by
      intro x hx
      simp only [List.mem_cons, List.not_mem_nil, or_false] at hx
      rcases hx with rfl | rfl | rfl
      · exact i1
      · exact i2
      · exact ⟨(hA.below hw).more hw.size, hob, h0, hlen⟩) (by simp)
    rw [show ([Nb.int P1, .int P2, .txt A c b].map Nb.it) = [It.int P1, .int P2, .text (dgS b)] from rfl, hEm] at this
    exact this)
  have q6 : Hid (∀ (A : Option Addr) (c : Nat) (w : World), Rd w w.heap.size 1 A Em.length (byts Em) → (A = none → Em.length = 0 ∧ c = 0) → ShaG w → Calls Tryd.prog 58 #[.string ⟨#[115, 105, 103, 110]⟩, .slice A Em.length c] w (Ret (.int .i64 (E : Nat)) w)) := Lib.hid (fun A c w hR hn hGw => by
    rw [← hE]
    exact hash_any sgS A Em.length c Em w hR hn om (by decide) (Nat.le_trans lm (by decide)) hGw)
  clear hEn hEm hH0 hE hP1 hP2 hPi ln lm on om hKe itok i1 i2 is hob h0 hlen
  have k1 : 1 ≤ K := by omega
  have k2 : K < 1073741789 := by omega
  have s3 : 0 < s := by omega
  have s4 : s < 1073741789 := by omega
  clear hK s1 s2 hs hA
  have hmf : ∀ (fn : Fn) (first cap : Array Value) (w : World), (Instr.makeFunc fn first cap).run Tryd.prog w = .ok (.func fn first cap) w := fun _ _ _ _ => rfl
  have BE := Blk.new W 32 #[.int .i64 0, .int .i64 0] _ rfl
  have hb := bAl (bRefl W) (.cells #[.int .i64 0, .int .i64 0] 32)
  go_enter Tryd.func42, Tryd.ntmps42
  go_upto_region 3 with fail
  generalize W.alloc (.cells #[.int .i64 0, .int .i64 0] 32) = w1 at *
  go_wp2_with fail
  (with_reducible refine (q1.out _ hb).mono ?_)
  rintro e w2 ⟨v2, rfl, b2, A2, c2, rfl, hR2, _, _, hn2⟩
  have hb2 := bCall (bAl hb _) b2
  replace BE := BE.below ((bAl (bRefl _) _).trans (b2.mono (by simp))) BE.lt
  clear q1 b2 hb
  go_wp2_with fail
  (with_reducible refine (q2.out _ _ _ hR2 hn2 (hG.below hb2)).mono ?_)
  rintro e w3 ⟨rfl, b3⟩
  replace hb := bCall hb2 b3
  replace BE := BE.below b3 BE.lt
  clear q2 b3 hR2 hn2 hb2
  go_wp2_with fail
  rw [eK.out]
  clear eK
  (with_reducible refine (q3.out _).mono ?_)
  rintro e w4 ⟨rfl, b4⟩
  replace hb := bCall hb b4
  replace BE := BE.below b4 BE.lt
  clear q3 b4
  go_wp2_with fail
  (with_reducible refine (q4.out _).mono ?_)
  rintro e w5 ⟨rfl, b5⟩
  replace hb := bCall hb b5
  replace BE := BE.below b5 BE.lt
  clear q4 b5
  go_wp2_with fail
  (with_reducible refine (q5.out _ hb).mono ?_)
  rintro e w6 ⟨v6, rfl, b6, A6, c6, rfl, hR6, _, _, hn6⟩
  replace BE := BE.below ((bAl (bRefl _) _).trans (b6.mono (by simp))) BE.lt
  replace hb := bCall (bAl hb _) b6
  clear q5 b6
  go_wp2_with fail
  (with_reducible refine (q6.out _ _ _ hR6 hn6 (hG.below hb)).mono ?_)
  rintro e w7 ⟨rfl, b7⟩
  replace hb := bCall hb b7
  replace BE := BE.below b7 BE.lt
  clear q6 b7 hR6 hn6
  obtain ⟨c0, c1⟩ := pair_cells BE
  have z0 := BE.frozen 0
  have C1 := BE.set_ 0 (.int .i64 (E : Nat))
  have h1 := bSet hb (p := ⟨W.heap.size, 0, none⟩) (Nat.le_refl _) (.int .i64 (E : Nat))
  go_upto_region 5 with fail
  clear c0 c1 z0 BE hb
  generalize w7.setCell ⟨W.heap.size, 0, none⟩ (.int .i64 (E : Nat)) = w8 at *
  replace C1 : Blk w8 W.heap.size 32 #[.int .i64 (E : Nat), .int .i64 0] := C1
  obtain ⟨c0, c1⟩ := pair_cells C1
  have z1 := C1.frozen 1
  have q8 := sg_times E s hElt (by omega) w8
  have q9 := sg_plus K (E * s % Qn) (by omega) (Nat.mod_lt _ (by decide)) w8
  have eS2 : Hid (((K : Int) + ((E * s % Qn : Nat) : Int)) % 1073741789 = sigS s b) := Lib.hid (by rw [eS.out, cast_mulmod])
  rw [eS2.out] at q9
  clear eS eS2
  generalize sigS (s : Int) b = S at *
  generalize E * s % Qn = T at *
  go_wp2_with fail
  (with_reducible refine q8.mono ?_)
  rintro e w9 ⟨rfl, rfl⟩
  clear q8
  go_wp2_with fail
  (with_reducible refine q9.mono ?_)
  rintro e w9 ⟨rfl, rfl⟩
  clear q9
  have C2 := C1.set_ 1 (.int .i64 S)
  have h2 := bSet h1 (p := ⟨W.heap.size, 1, none⟩) (Nat.le_refl _) (.int .i64 S)
  go_upto_region 7 with fail
  clear c0 c1 z1 C1 h1
  generalize w8.setCell ⟨W.heap.size, 1, none⟩ (.int .i64 S) = w9 at *
  replace C2 : Blk w9 W.heap.size 32 #[.int .i64 (E : Nat), .int .i64 S] := C2
  obtain ⟨c0, c1⟩ := pair_cells C2
  have z0 := C2.frozen 0
  have z1 := C2.frozen 1
  have C3 := (C2.set_ 0 (.int .i64 (E : Nat))).set_ 1 (.int .i64 S)
  have h3 := bSet (bSet h2 (p := ⟨W.heap.size, 0, none⟩) (Nat.le_refl _) (.int .i64 (E : Nat))) (p := ⟨W.heap.size, 1, none⟩) (Nat.le_refl _) (.int .i64 S)
  go_wp2_with fail
  obtain ⟨e0, e1⟩ := pair_cells (E := (E : Nat)) (S := S) C3
  exact bodyPost_ret (v := .tuple #[.agg #[.int .i64 (E : Nat), .int .i64 S], .int .i64 0]) (by simp [results, Tryd.results42, go_sem, e0, e1]) rfl ⟨ret_sig eE.out.symm rfl, h3⟩
end Go.Proofs.YtoeobcmmafncmaaDoor
