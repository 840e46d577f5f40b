/- the reader of orders; walked. -/
import Derived.Test.YtmbopkcmbiommaaGreatDoorRay
set_option maxRecDepth 1000000
set_option maxHeartbeats 16000000
namespace Go.Proofs.YtmbopkcmbiommaaGreatDoor
open Go Go.RowKit
theorem numsV_all (l : List By) : numsV l (-1) = numsO l := if_neg (by omega)
theorem cons_of {l : List Int} {n : Nat} (h : n + 1 ≤ l.length) : ∃ a r, l = a :: r ∧ n ≤ r.length := by
  cases l with
  | nil => simp at h
  | cons a r => exact ⟨a, r, rfl, by simpa using h⟩
theorem ord_cases (x : Wld) (l : List By) (ox : Option Wld) (hox : Hid (readR x 7 l = ox)) : (numsV l (-1) = none ∧ Hid (ox = none)) ∨ (∃ ns, numsV l (-1) = some ns ∧ ns.length < 10 ∧ Hid (ox = none)) ∨
    (∃ a0 a1 a2 a3 a4 a5 a6 a7 a8 a9 r ns, Hid (ns = a0 :: a1 :: a2 :: a3 :: a4 :: a5 :: a6 :: a7 :: a8 :: a9 :: r) ∧ numsV l (-1) = some ns ∧ (((a8 == 0) = false ∧ (a8 == 1) = false ∧ Hid (ox = none)) ∨ Hid ((a8 = 0 ∨ a8 = 1) ∧ ox = some (addR x (7, ns))))) := by
  rw [numsV_all]
  have hr : readR x 7 l = (match numsO l with | some l => if formR 7 l = true then some (addR x (7, l)) else none | none => none) := rfl
  have hr := hox.out.symm.trans hr
  clear hox
  cases hl : numsO l with
  | none => rw [hl] at hr; exact .inl ⟨rfl, Lib.hid hr⟩
  | some ns =>
    rw [hl] at hr
    have hf : formR 7 ns = decide (10 ≤ ns.length ∧ (nat_ ns 8 = 0 ∨ nat_ ns 8 = 1)) := rfl
    simp only [hf, decide_eq_true_eq] at hr
    by_cases h : ns.length < 10
    · exact .inr (.inl ⟨ns, rfl, h, Lib.hid (hr.trans (if_neg (fun h2 => by omega)))⟩)
    · obtain ⟨a0, r0, e0, l0⟩ := cons_of (n := 9) (by omega : 9 + 1 ≤ ns.length)
      obtain ⟨a1, r1, e1, l1⟩ := cons_of l0
      obtain ⟨a2, r2, e2, l2⟩ := cons_of l1
      obtain ⟨a3, r3, e3, l3⟩ := cons_of l2
      obtain ⟨a4, r4, e4, l4⟩ := cons_of l3
      obtain ⟨a5, r5, e5, l5⟩ := cons_of l4
      obtain ⟨a6, r6, e6, l6⟩ := cons_of l5
      obtain ⟨a7, r7, e7, l7⟩ := cons_of l6
      obtain ⟨a8, r8, e8, l8⟩ := cons_of l7
      obtain ⟨a9, r9, e9, -⟩ := cons_of l8
      subst e9; subst e8; subst e7; subst e6; subst e5; subst e4; subst e3; subst e2; subst e1
      refine .inr (.inr ⟨a0, a1, a2, a3, a4, a5, a6, a7, a8, a9, r9, ns, Lib.hid e0, rfl, ?_⟩)
      have hn : nat_ ns 8 = a8 := by rw [e0]; rfl
      rw [hn] at hr
      by_cases h8 : a8 = 0 ∨ a8 = 1
      · exact .inr (Lib.hid ⟨h8, hr.trans (if_pos ⟨by omega, h8⟩)⟩)
      · exact .inl ⟨by simpa using fun e => h8 (.inl e), by simpa using fun e => h8 (.inr e), Lib.hid (hr.trans (if_neg (fun h2 => h8 h2.2)))⟩
theorem odrs_snoc {l : List Odr} {vs : List Value} {y : Odr} {v : Value} (h : vs.length = l.length) : odrsCl (l ++ [y]) (vs ++ [v]) = odrsCl l vs ++ y.cl v := by
  unfold odrsCl
  rw [List.zip_append h.symm, List.flatMap_append]
  simp
theorem ord_tail {w : World} {B g cap N : Nat} {o : Nat → Nat} {a0 a1 a2 a3 a4 a5 a6 a7 a8 a9 : Int} {r ns : List Int} {A0 : Option Addr} (hv : w.ownsRow B 3 1 (.slice (some ⟨g, 0, none⟩) N cap) N (ints ns)) (hns : ns = a0 :: a1 :: a2 :: a3 :: a4 :: a5 :: a6 :: a7 :: a8 :: a9 :: r) (hN : N = r.length + 10) (hcap : N ≤ cap) (ho : o g = 0)
    (hA : (if cap = 10 then some (⟨g, 0, none⟩ : Addr) else some ⟨g, 10, none⟩) = A0) : RdO w o A0 r.length (ints r) := by
  have hlt := (hv.lt g rfl).2
  refine ⟨⟨by rw [ints_length, Nat.mul_one], fun h0 => ⟨g, 10, ?_, hlt, fun j u hu => ?_⟩⟩, fun p e h0 => ?_⟩
  · rw [← hA, if_neg (by omega)]
  · refine own_cell hv ?_
    rw [hns]
    unfold ints at hu ⊢
    rw [show 10 + j = j + 1 + 1 + 1 + 1 + 1 + 1 + 1 + 1 + 1 + 1 by omega]
    simpa using hu
  · rw [← hA, if_neg (by omega)] at e
    injection e with e
    subst e
    exact ho
theorem ord_info : (Tryz.prog.info? 65).map (fun i => (i.zero, i.size, i.bytes)) = some (some (.agg #[.int .i64 0, .int .i64 0, .int .i64 0, .int .i64 0, .int .i64 0, .int .i64 0, .int .i64 0, .int .i64 0, .slice none 0 0, .bool false, .int .i64 0]), 11, 104) := by kernel_rfl
theorem rd_order (R base m : Nat) (o : Nat → Nat) (q : RS) (x : Wld) (last : ByteArray) (A : Option Addr) (c : Nat) (l : List ByteArray) (W : World) (h : StAt W R base m o q x last) (hA : Rd W W.heap.size 1 A l.length (strs l)) (hl : ∀ s ∈ l, s.size ≤ 1000000) (hn : l.length ≤ 1000000) (hm : m ≤ 1000000) (hG : LibG base W) :
    Calls Tryz.prog 98 #[.pointer (some ⟨R, 0, none⟩), .slice A l.length c] W (RdPost (readR x 7 (bys l)) o R base m last W) := by
  have hbs : base ≤ W.heap.size := Nat.le_trans h.bR (Nat.le_of_lt h.blk.lt)
  have q1 := Lib.hid (rep_numbers base A c l (-1) W hA hl hn hG hbs)
  obtain ⟨ox, hox⟩ : ∃ ox, Hid (readR x 7 (bys l) = ox) := ⟨_, Lib.hid rfl⟩
  have h2 := ord_cases x (bys l) ox hox
  rw [hox.out]
  clear hox
  go_enter Tryz.func98, Tryz.ntmps98
  rcases h2 with ⟨e1, e2⟩ | ⟨ns, e1, hlt, e2⟩ | ⟨a0, a1, a2, a3, a4, a5, a6, a7, a8, a9, r, ns, hns, e1, e2⟩
  · rw [e1] at q1
    go_upto_region 1 with (go_at_call 91; (with_reducible refine q1.out.mono ?_); rintro e w2 ⟨h9, b2⟩; (simp only at h9; unfold PanW at h9; subst h9))
    exact ⟨rfl, RdPost.no e2.out b2 hbs⟩
  · rw [e1] at q1
    obtain ⟨N, hN⟩ : ∃ N, Hid (ns.length = N) := ⟨_, Lib.hid rfl⟩
    rw [hN.out] at hlt
    have i0 : (N : Int) < 10 := by omega
    go_upto_region 2 with (first | (go_at_call 91; (with_reducible refine q1.out.mono ?_); rintro e w1 ⟨⟨vn, h9, hv⟩, b1⟩; subst h9; rw [hN.out] at hv; obtain ⟨An, cn, rfl, -⟩ := Rd.of_own hv) | (go_at_call 55; (with_reducible refine (want_no _).mono ?_); rintro e w3 ⟨h9, rfl⟩; unfold PanW at h9; subst h9))
    exact ⟨rfl, RdPost.no e2.out b1 hbs⟩
  · rw [e1] at q1
    obtain ⟨N, hN⟩ : ∃ N, Hid (ns.length = N) := ⟨_, Lib.hid rfl⟩
    have hN2 : N = r.length + 10 := by rw [← hN.out, hns.out]; simp
    have i0 : (10 : Int) ≤ (N : Int) := by omega
    have i8 : (8 : Int) < (N : Int) := by omega
    have hN3 := Lib.hid hN2
    clear e1 hN2
    rcases e2 with ⟨k0, k1, e2⟩ | e2
    · go_upto_region 2 with (first | (go_at_call 91; (with_reducible refine q1.out.mono ?_); rintro e w1 ⟨⟨vn, h9, hv⟩, b1⟩; subst h9; rw [hN.out] at hv; obtain ⟨g, cap, rfl⟩ := own_two hv (by omega); have d8 : w1.cell? ⟨g, 8, none⟩ = some (.int .i64 a8) := own_cell hv (by rw [hns.out]; rfl)) | (go_at_call 55; (with_reducible refine (want_no _).mono ?_); rintro e w3 ⟨h9, rfl⟩; unfold PanW at h9; subst h9))
      exact ⟨rfl, RdPost.no e2.out b1 hbs⟩
    · go_upto_region 2 with (first | (go_at_call 91; (with_reducible refine q1.out.mono ?_); rintro e w1 ⟨⟨vn, h9, hv⟩, b1⟩; subst h9; rw [hN.out] at hv; obtain ⟨g, cap, rfl⟩ := own_two hv (by omega); have d8 : w1.cell? ⟨g, 8, none⟩ = some (.int .i64 a8) := own_cell hv (by rw [hns.out]; rfl)) | (go_at_call 55; (with_reducible refine (want_any _ _).mono ?_); rintro e w3 ⟨(⟨hq, rfl⟩ | ⟨hq, h9⟩), rfl⟩; rotate_left 1; (exact absurd hq (by rcases e2.out.1 with e8 | e8 <;> simp [e8])); rotate_left 1))
      all_goals (try (rename a8 = 0 => hz; clear hz))
      all_goals (try clear hq)
      all_goals
        obtain ⟨-, hg0, cur, hB, hcap, -, -, htk⟩ := OwnAt.parts hv
        have h1 := h.later b1 (upd_agree o W.heap.size 0) (Nat.le_refl m)
        have ogn : updT o W.heap.size 0 g = 0 := if_pos hg0
        have hd : ∀ (k : Nat) (u : Value), (ints ns)[k]? = some u → cur[k]? = some u := fun k u hu => by rw [← hB.cell]; exact own_cell hv hu
        rw [hns.out] at hd
        have BR := h1.blk
        have hrow : rowQ q x 5 = some ⟨65, 11, (.slice q.ws.ao x.orders.length q.ws.co), x.orders.length, odrsCl x.orders q.vs⟩ := rfl
        obtain ⟨hO, hOm⟩ := h1.ra.rows 5 _ hrow
        have cR : (q.ws.cl x ++ [Value.string last]).toArray[5]? = some (.slice q.ws.ao x.orders.length q.ws.co) := by rw [List.getElem?_toArray]; rfl
        have KS : Hid (∀ w', Blk w' R 87 (q.ws.cl x ++ [Value.string last]).toArray → Blk w' g 3 cur → w'.cell? ⟨R, 5, none⟩ = some (.slice q.ws.ao x.orders.length q.ws.co) ∧ w'.cell? ⟨g, 0, none⟩ = some (.int .i64 a0) ∧ w'.cell? ⟨g, 1, none⟩ = some (.int .i64 a1) ∧ w'.cell? ⟨g, 2, none⟩ = some (.int .i64 a2) ∧ w'.cell? ⟨g, 3, none⟩ = some (.int .i64 a3) ∧ w'.cell? ⟨g, 4, none⟩ = some (.int .i64 a4) ∧ w'.cell? ⟨g, 5, none⟩ = some (.int .i64 a5) ∧ w'.cell? ⟨g, 6, none⟩ = some (.int .i64 a6) ∧ w'.cell? ⟨g, 7, none⟩ = some (.int .i64 a7) ∧ w'.cell? ⟨g, 8, none⟩ = some (.int .i64 a8) ∧ w'.cell? ⟨g, 9, none⟩ = some (.int .i64 a9)) :=
          Lib.hid (fun w' u1 u2 => ⟨by rw [u1.cell]; exact cR, by rw [u2.cell]; exact hd 0 _ rfl, by rw [u2.cell]; exact hd 1 _ rfl, by rw [u2.cell]; exact hd 2 _ rfl, by rw [u2.cell]; exact hd 3 _ rfl, by rw [u2.cell]; exact hd 4 _ rfl, by rw [u2.cell]; exact hd 5 _ rfl, by rw [u2.cell]; exact hd 6 _ rfl, by rw [u2.cell]; exact hd 7 _ rfl, by rw [u2.cell]; exact hd 8 _ rfl, by rw [u2.cell]; exact hd 9 _ rfl⟩)
        have BR2 : Blk w1.drew R 87 (q.ws.cl x ++ [Value.string last]).toArray := BR
        have BG2 : Blk w1.drew g 3 cur := hB
        clear hd
        have hcap1 : 10 ≤ cap := by omega
        have hN10 : 10 ≤ N := by omega
        have j0 : 0 < N := by omega
        have j1 : (1 : Int) < (N : Int) := by omega
        have j2 : (2 : Int) < (N : Int) := by omega
        have j3 : (3 : Int) < (N : Int) := by omega
        have j4 : (4 : Int) < (N : Int) := by omega
        have j5 : (5 : Int) < (N : Int) := by omega
        have j6 : (6 : Int) < (N : Int) := by omega
        have j7 : (7 : Int) < (N : Int) := by omega
        have j8 : (8 : Int) < (N : Int) := by omega
        have j9 : (9 : Int) < (N : Int) := by omega
        clear d8
        obtain ⟨A0, hA0⟩ : ∃ A0, (if cap = 10 then some (⟨g, 0, none⟩ : Addr) else some ⟨g, 10, none⟩) = A0 := ⟨_, rfl⟩
        obtain ⟨c10, hc10⟩ : ∃ c10, cap - 10 = c10 := ⟨_, rfl⟩
        have hr10 : N - 10 = r.length := by rw [hN3.out]; omega
        have hRO : Hid (RdO w1 (updT o W.heap.size 0) A0 r.length (ints r)) := Lib.hid (ord_tail hv hns.out hN3.out hcap ogn hA0)
        have BR3 : Blk (w1.alloc (.cells #[.int .i64 a0, .int .i64 a1, .int .i64 a2, .int .i64 a3, .int .i64 a4, .int .i64 a5, .int .i64 a6, .int .i64 a7, .slice A0 r.length c10, .bool (a8 == 1), .int .i64 a9] 65)).drew R 87 (q.ws.cl x ++ [Value.string last]).toArray := BR.alloc _
        have BG3 : Blk (w1.alloc (.cells #[.int .i64 a0, .int .i64 a1, .int .i64 a2, .int .i64 a3, .int .i64 a4, .int .i64 a5, .int .i64 a6, .int .i64 a7, .slice A0 r.length c10, .bool (a8 == 1), .int .i64 a9] 65)).drew g 3 cur := hB.alloc _
        have hO3 : World.ownsRow (w1.alloc (.cells #[.int .i64 a0, .int .i64 a1, .int .i64 a2, .int .i64 a3, .int .i64 a4, .int .i64 a5, .int .i64 a6, .int .i64 a7, .slice A0 r.length c10, .bool (a8 == 1), .int .i64 a9] 65)).drew base 65 11 (.slice q.ws.ao x.orders.length q.ws.co) x.orders.length (odrsCl x.orders q.vs) := hO.own.alloc _
        have hRd : Rd (w1.alloc (.cells #[.int .i64 a0, .int .i64 a1, .int .i64 a2, .int .i64 a3, .int .i64 a4, .int .i64 a5, .int .i64 a6, .int .i64 a7, .slice A0 r.length c10, .bool (a8 == 1), .int .i64 a9] 65)).drew _ 11 (some ⟨w1.heap.size, 0, none⟩) 1 [.int .i64 a0, .int .i64 a1, .int .i64 a2, .int .i64 a3, .int .i64 a4, .int .i64 a5, .int .i64 a6, .int .i64 a7, .slice A0 r.length c10, .bool (a8 == 1), .int .i64 a9] := Rd.new w1 [.int .i64 a0, .int .i64 a1, .int .i64 a2, .int .i64 a3, .int .i64 a4, .int .i64 a5, .int .i64 a6, .int .i64 a7, .slice A0 r.length c10, .bool (a8 == 1), .int .i64 a9] 65 11 1 _ rfl rfl
        have hone : Hid (∀ u ∈ ([.int .i64 a0, .int .i64 a1, .int .i64 a2, .int .i64 a3, .int .i64 a4, .int .i64 a5, .int .i64 a6, .int .i64 a7, .slice A0 r.length c10, .bool (a8 == 1), .int .i64 a9] : List Value), u.oneCell' = true) := Lib.hid (by intro u hu; simp only [List.mem_cons, List.not_mem_nil, or_false] at hu; rcases hu with rfl | rfl | rfl | rfl | rfl | rfl | rfl | rfl | rfl | rfl | rfl <;> rfl)
        have h63 : x.orders.length + 1 ≤ maxLen := by simp only at hOm; unfold maxLen; omega
        have hby : (x.orders.length + 1) * 104 ≤ 140737488355328 := by simp only at hOm; omega
        have hbs3 : base ≤ (World.heap (w1.alloc (.cells #[.int .i64 a0, .int .i64 a1, .int .i64 a2, .int .i64 a3, .int .i64 a4, .int .i64 a5, .int .i64 a6, .int .i64 a7, .slice A0 r.length c10, .bool (a8 == 1), .int .i64 a9] 65)).drew).size := Nat.le_trans (Nat.le_trans hbs b1.size) (bDr (bAl (bRefl w1) _)).size
        clear hN hcap htk hg0
        refine wp_region_schK (f := 45) KS [(0, 1), (1, 1), (2, 1), (3, 1), (4, 1), (5, 2), (6, 1), (7, 1), (8, 2), (9, 1), (10, 1), (11, 2), (12, 1), (13, 1), (14, 2), (15, 1), (16, 1), (17, 2), (18, 1), (19, 1), (20, 2), (21, 1), (22, 1), (23, 2), (24, 1), (25, 1), (26, 2), (27, 1), (28, 1), (29, 2), (30, 1), (31, 1), (32, 2), (33, 1), (34, 1), (35, 1), (36, 2), (37, 1), (38, 1), (39, 1), (40, 0), (41, 0), (42, 1), (43, 1), (44, 1), (45, 3)] ?_
        simp only [pickS, List.getElem?_cons_zero, List.getElem?_cons_succ]
        refine wpSched_t ?_
        refine wpSched_t ?_
        refine wpSched_t ?_
        refine wpSched_t ?_
        refine wpSched_t ?_
        refine wpSched_r ?_
        refine wpSched_t ?_
        refine wpSched_t ?_
        refine wpSched_r ?_
        refine wpSched_t ?_
        refine wpSched_t ?_
        refine wpSched_r ?_
        refine wpSched_t ?_
        refine wpSched_t ?_
        refine wpSched_r ?_
        refine wpSched_t ?_
        refine wpSched_t ?_
        refine wpSched_r ?_
        refine wpSched_t ?_
        refine wpSched_t ?_
        refine wpSched_r ?_
        refine wpSched_t ?_
        refine wpSched_t ?_
        refine wpSched_r ?_
        refine wpSched_t ?_
        refine wpSched_t ?_
        refine wpSched_r ?_
        refine wpSched_t ?_
        refine wpSched_t ?_
        refine wpSched_r ?_
        refine wpSched_t ?_
        refine wpSched_t ?_
        refine wpSched_r ?_
        refine wpSched_t ?_
        refine wpSched_t ?_
        refine wpSched_t ?_
        refine wpSched_r ?_
        refine wpSched_t ?_
        refine wpSched_t ?_
        refine wpSched_t ?_
        refine wpSched_force (fun K hK => ?_)
        first | ((refine step_appendG (.tmp 28) (.tmp 63) 29 base 65 (.agg #[.int .i64 0, .int .i64 0, .int .i64 0, .int .i64 0, .int .i64 0, .int .i64 0, .int .i64 0, .int .i64 0, .slice none 0 0, .bool false, .int .i64 0]) 11 104 (.slice q.ws.ao x.orders.length q.ws.co) x.orders.length (odrsCl x.orders q.vs) (some ⟨w1.heap.size, 0, none⟩) 1 1 _ [.int .i64 a0, .int .i64 a1, .int .i64 a2, .int .i64 a3, .int .i64 a4, .int .i64 a5, .int .i64 a6, .int .i64 a7, .slice A0 r.length c10, .bool (a8 == 1), .int .i64 a9] rfl rfl Tryz.underlying29 ord_info rfl (by omega) rfl hO3 rfl hRd (by intro h; cases h) hone.out h63 hby hbs3 (fun v1 w2 hown2 hg2 => ?_); obtain ⟨g1, c1, rfl⟩ := ownsRow_succ hown2; have hgr := hg2.pre (bDr (bAl (bRefl w1) _)); have kk := KeepT.of_grew hO hgr; have BR4 := kk.blk BR (by rw [h1.oR]; decide); have BG4 := kk.blk hB (by rw [ogn]; decide))) | (go_simp)
        refine shut_goK hK KS ?_
        clear hK K
        refine wpSched_force (fun K hK => ?_)
        first | ((refine step_appendG (.tmp 28) (.tmp 63) 29 base 65 (.agg #[.int .i64 0, .int .i64 0, .int .i64 0, .int .i64 0, .int .i64 0, .int .i64 0, .int .i64 0, .int .i64 0, .slice none 0 0, .bool false, .int .i64 0]) 11 104 (.slice q.ws.ao x.orders.length q.ws.co) x.orders.length (odrsCl x.orders q.vs) (some ⟨w1.heap.size, 0, none⟩) 1 1 _ [.int .i64 a0, .int .i64 a1, .int .i64 a2, .int .i64 a3, .int .i64 a4, .int .i64 a5, .int .i64 a6, .int .i64 a7, .slice A0 r.length c10, .bool (a8 == 1), .int .i64 a9] rfl rfl Tryz.underlying29 ord_info rfl (by omega) rfl hO3 rfl hRd (by intro h; cases h) hone.out h63 hby hbs3 (fun v1 w2 hown2 hg2 => ?_); obtain ⟨g1, c1, rfl⟩ := ownsRow_succ hown2; have hgr := hg2.pre (bDr (bAl (bRefl w1) _)); have kk := KeepT.of_grew hO hgr; have BR4 := kk.blk BR (by rw [h1.oR]; decide); have BG4 := kk.blk hB (by rw [ogn]; decide))) | (go_simp)
        refine shut_goK hK KS ?_
        clear hK K
        refine wpSched_t ?_
        refine wpSched_t ?_
        refine wpSched_t ?_
        refine wpSched_last ?_
        first | simp only [List.map_nil] | simp only [List.map_cons, List.map_nil]
        have c4 : w2.cell? ⟨R, 5, none⟩ = some (.slice q.ws.ao x.orders.length q.ws.co) := by rw [BR4.cell]; exact cR
        have f4 := BR4.frozen 5
        have bw : Below base W (w2.setCell ⟨R, 5, none⟩ (.slice (some ⟨g1, 0, none⟩) (x.orders.length + 1) c1)) := ((b1.mono hbs).trans (hgr.below hO.own (Nat.le_trans hbs b1.size))).setCell (p := ⟨R, 5, none⟩) h.bR _
        have e3 : Hid (ox = some { x with orders := x.orders ++ [⟨a0, a1, a2, a3, a4, a5, a6, a7, r, decide (a8 = 1), a9⟩] }) := Lib.hid (e2.out.2.trans (by rw [hns.out]; rfl))
        have hfin : Hid (StAt (w2.setCell ⟨R, 5, none⟩ (.slice (some ⟨g1, 0, none⟩) (x.orders.length + 1) c1)) R base (m + 1) (updT (updT o W.heap.size 0) w1.heap.size 5) { q with ws := { q.ws with ao := some ⟨g1, 0, none⟩, co := c1 }, vs := q.vs ++ [.slice A0 r.length c10] } { x with orders := x.orders ++ [⟨a0, a1, a2, a3, a4, a5, a6, a7, r, decide (a8 = 1), a9⟩] } last) := Lib.hid (by
          refine h1.put (t := 5) hrow (by decide) (by decide) hgr hown2 h1.ra.lq (by simp [h1.ra.vq]) ?_ (Nat.succ_le_succ hOm) ?_ h1.ra.rl ?_ rfl ?_
          · show some _ = some _
            simp only [List.length_append, List.length_singleton, odrs_snoc h1.ra.vq]
            try rfl
          · intro t' r' ht hr'
            left
            rw [← hr']
            unfold rowQ
            simp only [ht, if_false]
            try rfl
          · intro k u y hu hy
            by_cases hk : k < x.orders.length
            · rw [List.getElem?_append_left (by rw [h1.ra.vq]; exact hk)] at hu
              rw [List.getElem?_append_left hk] at hy
              exact h1.ra.rv k u y hu hy
            · have hk2 : k = x.orders.length := by have := (List.getElem?_eq_some_iff.1 hy).1; simp at this; omega
              subst hk2
              rw [List.getElem?_append_right (by rw [h1.ra.vq]; exact Nat.le_refl _), h1.ra.vq, Nat.sub_self] at hu
              rw [List.getElem?_append_right (Nat.le_refl _), Nat.sub_self] at hy
              simp at hu hy
              subst hu; subst hy
              exact ⟨A0, c10, rfl, hRO.out⟩
          · rw [List.setIfInBounds_toArray]
            refine congrArg List.toArray ?_
            simp [WS.cl])
        clear KS
        go_wp2_with fail
        refine NoPanic.normal ?_
        go_end0
        exact RdPost.yes e3.out hfin.out bw (KeepZ.of b1 (upd_agree o W.heap.size 0) kk (by decide) (by decide) (fun _ h _ => h)) (agree2 b1.size)
theorem line_cases (x : Wld) (l : List By) (ox : Option Wld) (hox : Hid (readR x 4 l = ox)) : (numsV l (-1) = none ∧ Hid (ox = none)) ∨ (∃ ns, numsV l (-1) = some ns ∧ ns.length < 3 ∧ Hid (ox = none)) ∨
    (∃ a0 a1 a2 r ns, ∃ N : Nat, Hid (ns = a0 :: a1 :: a2 :: r) ∧ Hid (ns.length = N) ∧ 3 ≤ N ∧ numsV l (-1) = some ns ∧ (((a2 < 1 ∨ (N : Int) < a2 ∨ (1 ≤ a2 ∧ a2 ≤ (N : Int) ∧ ((N : Int) == 2 + 2 * a2) = false)) ∧ Hid (ox = none)) ∨ ∃ K : Nat, Hid (a2 = (K : Int) ∧ 1 ≤ K ∧ N = 2 + 2 * K ∧ ox = some (addR x (4, ns))))) := by
  rw [numsV_all]
  have hr : readR x 4 l = (match numsO l with | some l => if formR 4 l = true then some (addR x (4, l)) else none | none => none) := rfl
  have hr := hox.out.symm.trans hr
  clear hox
  cases hl : numsO l with
  | none => rw [hl] at hr; exact .inl ⟨rfl, Lib.hid hr⟩
  | some ns =>
    rw [hl] at hr
    have hf : formR 4 ns = decide (3 ≤ ns.length ∧ 1 ≤ nat_ ns 2 ∧ nat_ ns 2 ≤ (ns.length : Int) ∧ (ns.length : Int) = 2 + 2 * nat_ ns 2) := rfl
    simp only [hf, decide_eq_true_eq] at hr
    by_cases h : ns.length < 3
    · exact .inr (.inl ⟨ns, rfl, h, Lib.hid (hr.trans (if_neg (fun h2 => by omega)))⟩)
    · obtain ⟨a0, r0, e0, l0⟩ := cons_of (n := 2) (by omega : 2 + 1 ≤ ns.length)
      obtain ⟨a1, r1, e1, l1⟩ := cons_of l0
      obtain ⟨a2, r2, e2, l2⟩ := cons_of l1
      subst e2; subst e1
      refine .inr (.inr ⟨a0, a1, a2, r2, ns, ns.length, Lib.hid e0, Lib.hid rfl, by omega, rfl, ?_⟩)
      have hn : nat_ ns 2 = a2 := by rw [e0]; rfl
      rw [hn] at hr
      by_cases h1 : a2 < 1
      · exact .inl ⟨.inl h1, Lib.hid (hr.trans (if_neg (fun h2 => by omega)))⟩
      · by_cases h2 : (ns.length : Int) < a2
        · exact .inl ⟨.inr (.inl h2), Lib.hid (hr.trans (if_neg (fun h2 => by omega)))⟩
        · by_cases h3 : (ns.length : Int) = 2 + 2 * a2
          · exact .inr ⟨a2.toNat, Lib.hid ⟨by omega, by omega, by omega, hr.trans (if_pos ⟨by omega, by omega, by omega, h3⟩)⟩⟩
          · exact .inl ⟨.inr (.inr ⟨by omega, by omega, by simpa using h3⟩), Lib.hid (hr.trans (if_neg (fun h2 => h3 h2.2.2.2)))⟩
theorem line_info : (Tryz.prog.info? 56).map (fun i => (i.zero, i.size, i.bytes)) = some (some (.agg #[.slice none 0 0, .slice none 0 0, .int .i64 0, .int .i64 0, .slice none 0 0, .slice none 0 0]), 6, 112) := by kernel_rfl
theorem lins_snoc {l : List Lin} {ls : List LS} {y : Lin} {s : LS} (h : ls.length = l.length) : linsCl (ls ++ [s]) (l ++ [y]) = linsCl ls l ++ s.cl y := by
  unfold linsCl
  rw [List.zip_append h, List.flatMap_append]
  simp
theorem line_row {q : RS} {x : Wld} {a0 a1 : Int} {p0 p1 : List Int} {A0 A1 A2 : Option Addr} {c c0 c1 t : Nat} {r : Rwn} (hq : q.ls.length = x.lines.length) (ht : t ≠ 4)
    (h : rowQ { q with ws := { q.ws with al := A2, cl_ := c }, ls := q.ls ++ [⟨A0, A1, none, none, c0, c1, 0, 0⟩] } { x with lines := x.lines ++ [⟨p0, p1, a0, a1, [], []⟩] } t = some r) :
    rowQ q x t = some r ∨ (r.n = 0 ∧ r.v = .slice none 0 0 ∧ r.xs = []) := by
  by_cases h10 : t < 10
  · left
    rw [← h]
    unfold rowQ
    simp only [ht, h10, if_true, if_false]
  · unfold rowQ at h ⊢
    rw [if_neg (by omega), if_neg (by omega), if_neg (by omega), if_neg (by omega), if_neg (by omega), if_neg (by omega), if_neg (by omega), if_neg (by omega), if_neg h10] at h ⊢
    by_cases hk : (t - 10) / 2 < x.lines.length
    · left
      simp only [List.getElem?_append_left (show (t - 10) / 2 < q.ls.length by omega), List.getElem?_append_left hk] at h
      exact h
    · right
      simp only [List.getElem?_append_right (show q.ls.length ≤ (t - 10) / 2 by omega), List.getElem?_append_right (show x.lines.length ≤ (t - 10) / 2 by omega), hq] at h
      cases hj : (t - 10) / 2 - x.lines.length with
      | zero =>
        rw [hj] at h
        simp only [List.getElem?_cons_zero] at h
        split at h <;> (injection h with h; subst h; exact ⟨rfl, rfl, rfl⟩)
      | succ n =>
        rw [hj] at h
        simp at h
theorem ints_part {w : World} {B g cap N off n : Nat} {o : Nat → Nat} {ns p : List Int} {A0 : Option Addr} (hv : w.ownsRow B 3 1 (.slice (some ⟨g, 0, none⟩) N cap) N (ints ns)) (ho : o g = 0) (hA : 0 < n → A0 = some ⟨g, off, none⟩) (hn : p.length = n) (hp : ∀ j u, p[j]? = some u → ns[off + j]? = some u) : RdO w o A0 n (ints p) := by
  have hlt := (hv.lt g rfl).2
  refine ⟨⟨by rw [ints_length, hn, Nat.mul_one], fun h0 => ⟨g, off, hA h0, hlt, fun j u hu => ?_⟩⟩, fun q e h0 => ?_⟩
  · refine own_cell hv ?_
    unfold ints at hu ⊢
    rw [List.getElem?_map] at hu ⊢
    cases hj : p[j]? with
    | none => rw [hj] at hu; cases hu
    | some u' => rw [hj] at hu; rw [hp j u' hj]; exact hu
  · rw [hA h0] at e
    injection e with e
    subst e
    exact ho
theorem rd_line (R base m : Nat) (o : Nat → Nat) (q : RS) (x : Wld) (last : ByteArray) (A : Option Addr) (c : Nat) (l : List ByteArray) (W : World) (h : StAt W R base m o q x last) (hA : Rd W W.heap.size 1 A l.length (strs l)) (hl : ∀ s ∈ l, s.size ≤ 1000000) (hn : l.length ≤ 1000000) (hm : m ≤ 1000000) (hG : LibG base W) :
    Calls Tryz.prog 94 #[.pointer (some ⟨R, 0, none⟩), .slice A l.length c] W (RdPost (readR x 4 (bys l)) o R base m last W) := by
  have hbs : base ≤ W.heap.size := Nat.le_trans h.bR (Nat.le_of_lt h.blk.lt)
  have q1 := Lib.hid (rep_numbers base A c l (-1) W hA hl hn hG hbs)
  obtain ⟨ox, hox⟩ : ∃ ox, Hid (readR x 4 (bys l) = ox) := ⟨_, Lib.hid rfl⟩
  have h2 := line_cases x (bys l) ox hox
  have hlen : ∀ ns, numsV (bys l) (-1) = some ns → ns.length ≤ 1000000 := fun ns h => by
    rw [numsV_all] at h
    rw [numsO_len h]
    unfold bys
    rw [List.length_map]
    exact hn
  rw [hox.out]
  clear hox
  go_enter Tryz.func94, Tryz.ntmps94
  rcases h2 with ⟨e1, e2⟩ | ⟨ns, e1, hlt, e2⟩ | ⟨a0, a1, a2, r, ns, N, hns, hN, h3, e1, e2⟩
  · rw [e1] at q1
    clear hlen
    go_upto_region 1 with (go_at_call 91; (with_reducible refine q1.out.mono ?_); rintro e w2 ⟨h9, b2⟩; (simp only at h9; unfold PanW at h9; subst h9))
    exact ⟨rfl, RdPost.no e2.out b2 hbs⟩
  · rw [e1] at q1
    clear hlen
    obtain ⟨N, hN⟩ : ∃ N, Hid (ns.length = N) := ⟨_, Lib.hid rfl⟩
    rw [hN.out] at hlt
    have i0 : (N : Int) < 3 := by omega
    go_upto_region 2 with (first | (go_at_call 91; (with_reducible refine q1.out.mono ?_); rintro e w1 ⟨⟨vn, h9, hv⟩, b1⟩; subst h9; rw [hN.out] at hv; obtain ⟨An, cn, rfl, -⟩ := Rd.of_own hv) | (go_at_call 55; (with_reducible refine (want_no _).mono ?_); rintro e w3 ⟨h9, rfl⟩; unfold PanW at h9; subst h9))
    exact ⟨rfl, RdPost.no e2.out b1 hbs⟩
  · have hNb := hlen ns e1
    rw [hN.out] at hNb
    clear hlen
    rw [e1] at q1
    have i0 : (3 : Int) ≤ (N : Int) := by omega
    have i2 : (2 : Int) < (N : Int) := by omega
    clear e1
    rcases e2 with ⟨hbad, e2⟩ | ⟨Kq, e2⟩
    · rcases hbad with hbad | hbad | ⟨hb1, hb2, hb3⟩
      all_goals
        go_upto_region 2 with (first | (go_at_call 91; (with_reducible refine q1.out.mono ?_); rintro e w1 ⟨⟨vn, h9, hv⟩, b1⟩; subst h9; rw [hN.out] at hv; obtain ⟨g, cap, rfl⟩ := own_two hv (by omega); have d2 : w1.cell? ⟨g, 2, none⟩ = some (.int .i64 a2) := own_cell hv (by rw [hns.out]; rfl)) | (go_at_call 55; (with_reducible refine (want_no _).mono ?_); rintro e w3 ⟨h9, rfl⟩; unfold PanW at h9; subst h9))
      all_goals exact ⟨rfl, RdPost.no e2.out b1 hbs⟩
    · obtain ⟨ha2, hK, hNK, -⟩ := e2.out
      subst ha2
      have k1 : (1 : Int) ≤ (Kq : Int) := by omega
      have k2 : (Kq : Int) ≤ (N : Int) := by omega
      have k3 : ((N : Int) == 2 + 2 * (Kq : Int)) = true := by simp; omega
      have hNK2 := Lib.hid hNK
      clear hNK hK
      go_upto_region 3 with (first | (go_at_call 91; (with_reducible refine q1.out.mono ?_); rintro e w1 ⟨⟨vn, h9, hv⟩, b1⟩; subst h9; rw [hN.out] at hv; obtain ⟨g, cap, rfl⟩ := own_two hv (by omega); have d2 : w1.cell? ⟨g, 2, none⟩ = some (.int .i64 (Kq : Int)) := own_cell hv (by rw [hns.out]; rfl)) | (go_at_call 55; (with_reducible refine (want_yes _).mono ?_); rintro e w3 ⟨rfl, rfl⟩))
      obtain ⟨-, hg0, cur, hB, hcap, -, -, htk⟩ := OwnAt.parts hv
      have h1 := h.later b1 (upd_agree o W.heap.size 0) (Nat.le_refl m)
      have ogn : updT o W.heap.size 0 g = 0 := if_pos hg0
      have hd : ∀ (k : Nat) (u : Value), (ints ns)[k]? = some u → cur[k]? = some u := fun k u hu => by rw [← hB.cell]; exact own_cell hv hu
      rw [hns.out] at hd
      have BR := h1.blk
      have hrow : rowQ q x 4 = some ⟨56, 6, (.slice q.ws.al x.lines.length q.ws.cl_), x.lines.length, linsCl q.ls x.lines⟩ := rfl
      obtain ⟨hO, hOm⟩ := h1.ra.rows 4 _ hrow
      have cR : (q.ws.cl x ++ [Value.string last]).toArray[1]? = some (.slice q.ws.al x.lines.length q.ws.cl_) := by rw [List.getElem?_toArray]; rfl
      have KS : Hid (∀ w', Blk w' R 87 (q.ws.cl x ++ [Value.string last]).toArray → Blk w' g 3 cur → w'.cell? ⟨R, 1, none⟩ = some (.slice q.ws.al x.lines.length q.ws.cl_) ∧ w'.cell? ⟨g, 0, none⟩ = some (.int .i64 a0) ∧ w'.cell? ⟨g, 1, none⟩ = some (.int .i64 a1) ∧ w'.cell? ⟨g, 2, none⟩ = some (.int .i64 (Kq : Int))) :=
        Lib.hid (fun w' u1 u2 => ⟨by rw [u1.cell]; exact cR, by rw [u2.cell]; exact hd 0 _ rfl, by rw [u2.cell]; exact hd 1 _ rfl, by rw [u2.cell]; exact hd 2 _ rfl⟩)
      have BR2 : Blk w1.drew R 87 (q.ws.cl x ++ [Value.string last]).toArray := BR
      have BG2 : Blk w1.drew g 3 cur := hB
      clear hd
      have j0 : 0 < N := by omega
      have j1 : (1 : Int) < (N : Int) := by omega
      have s1 : 3 + Kq ≤ N := by rw [hNK2.out]; omega
      have s2 : 3 + Kq ≤ cap := by omega
      have s3 : (0 : Int) ≤ 3 + (Kq : Int) := by omega
      have s4 : (3 + (Kq : Int)).toNat = 3 + Kq := by omega
      have s5 : 3 ≤ 3 + Kq := by omega
      have s6 : (3 : Int) + (Kq : Int) ≤ (cap : Int) := by omega
      have s7 : (3 : Int) ≤ 3 + (Kq : Int) := by omega
      have s8 : (3 : Int) + (Kq : Int) ≤ (N : Int) := by omega
      have s9 : N ≤ cap := hcap
      have hK0 : ¬ Kq = 0 := by omega
      obtain ⟨A1, hA1⟩ : ∃ A1, (if cap = 3 + Kq then some (⟨g, 0, none⟩ : Addr) else some ⟨g, 3 + Kq, none⟩) = A1 := ⟨_, rfl⟩
      obtain ⟨c9, hc9⟩ : ∃ c9, cap - (3 + Kq) = c9 := ⟨_, rfl⟩
      obtain ⟨L, hL⟩ : ∃ L, N - (3 + Kq) = L := ⟨_, rfl⟩
      have hrl : Hid (r.length = Kq + L) := Lib.hid (by
        have h8 := hN.out
        rw [hns.out] at h8
        simp at h8
        have h9 := hNK2.out
        omega)
      have hR0 : Hid (RdO w1 (updT o W.heap.size 0) (some ⟨g, 3, none⟩) Kq (ints (r.take Kq))) := Lib.hid (ints_part hv ogn (fun _ => rfl) (by rw [List.length_take, hrl.out]; omega) (fun j u hu => by
        rw [hns.out, Nat.add_comm 3 j]
        rw [List.getElem?_take] at hu
        split at hu
        · simpa using hu
        · cases hu))
      have hR1 : Hid (RdO w1 (updT o W.heap.size 0) A1 L (ints (r.drop Kq))) := Lib.hid (ints_part hv ogn (off := 3 + Kq) (fun h0 => by rw [← hA1, if_neg (by omega)]) (by rw [List.length_drop, hrl.out]; omega) (fun j u hu => by
        rw [hns.out, show 3 + Kq + j = Kq + j + 1 + 1 + 1 by omega]
        rw [List.getElem?_drop] at hu
        simpa using hu))
      have BR3 : Blk (w1.alloc (.cells #[.slice (some ⟨g, 3, none⟩) Kq Kq, .slice A1 L c9, .int .i64 a0, .int .i64 a1, .slice none 0 0, .slice none 0 0] 56)).drew R 87 (q.ws.cl x ++ [Value.string last]).toArray := BR.alloc _
      have BG3 : Blk (w1.alloc (.cells #[.slice (some ⟨g, 3, none⟩) Kq Kq, .slice A1 L c9, .int .i64 a0, .int .i64 a1, .slice none 0 0, .slice none 0 0] 56)).drew g 3 cur := hB.alloc _
      have hO3 : World.ownsRow (w1.alloc (.cells #[.slice (some ⟨g, 3, none⟩) Kq Kq, .slice A1 L c9, .int .i64 a0, .int .i64 a1, .slice none 0 0, .slice none 0 0] 56)).drew base 56 6 (.slice q.ws.al x.lines.length q.ws.cl_) x.lines.length (linsCl q.ls x.lines) := hO.own.alloc _
      have hRd : Rd (w1.alloc (.cells #[.slice (some ⟨g, 3, none⟩) Kq Kq, .slice A1 L c9, .int .i64 a0, .int .i64 a1, .slice none 0 0, .slice none 0 0] 56)).drew _ 6 (some ⟨w1.heap.size, 0, none⟩) 1 [.slice (some ⟨g, 3, none⟩) Kq Kq, .slice A1 L c9, .int .i64 a0, .int .i64 a1, .slice none 0 0, .slice none 0 0] := Rd.new w1 [.slice (some ⟨g, 3, none⟩) Kq Kq, .slice A1 L c9, .int .i64 a0, .int .i64 a1, .slice none 0 0, .slice none 0 0] 56 6 1 _ rfl rfl
      have hone : Hid (∀ u ∈ ([.slice (some ⟨g, 3, none⟩) Kq Kq, .slice A1 L c9, .int .i64 a0, .int .i64 a1, .slice none 0 0, .slice none 0 0] : List Value), u.oneCell' = true) := Lib.hid (by intro u hu; simp only [List.mem_cons, List.not_mem_nil, or_false] at hu; rcases hu with rfl | rfl | rfl | rfl | rfl | rfl <;> rfl)
      have h63 : x.lines.length + 1 ≤ maxLen := by simp only at hOm; unfold maxLen; omega
      have hby : (x.lines.length + 1) * 112 ≤ 140737488355328 := by simp only at hOm; omega
      have hbs3 : base ≤ (World.heap (w1.alloc (.cells #[.slice (some ⟨g, 3, none⟩) Kq Kq, .slice A1 L c9, .int .i64 a0, .int .i64 a1, .slice none 0 0, .slice none 0 0] 56)).drew).size := Nat.le_trans (Nat.le_trans hbs b1.size) (bDr (bAl (bRefl w1) _)).size
      clear hN hcap htk hg0 d2
      refine wp_region_schK (f := 27) KS [(0, 1), (1, 1), (2, 1), (3, 1), (4, 1), (5, 1), (6, 2), (7, 1), (8, 1), (9, 2), (10, 1), (11, 1), (12, 2), (13, 1), (14, 1), (15, 1), (16, 1), (17, 1), (18, 1), (19, 1), (20, 1), (21, 0), (22, 0), (23, 1), (24, 1), (25, 1), (26, 1), (27, 3)] ?_
      simp only [pickS, List.getElem?_cons_zero, List.getElem?_cons_succ]
      refine wpSched_t ?_
      refine wpSched_t ?_
      refine wpSched_t ?_
      refine wpSched_t ?_
      refine wpSched_t ?_
      refine wpSched_t ?_
      refine wpSched_r ?_
      refine wpSched_t ?_
      refine wpSched_t ?_
      refine wpSched_r ?_
      refine wpSched_t ?_
      refine wpSched_t ?_
      refine wpSched_r ?_
      refine wpSched_t ?_
      refine wpSched_t ?_
      refine wpSched_t ?_
      refine wpSched_t ?_
      refine wpSched_t ?_
      refine wpSched_t ?_
      refine wpSched_t ?_
      refine wpSched_t ?_
      refine wpSched_force (fun K hK => ?_)
      first | ((refine step_appendG (.tmp 46) (.tmp 61) 22 base 56 (.agg #[.slice none 0 0, .slice none 0 0, .int .i64 0, .int .i64 0, .slice none 0 0, .slice none 0 0]) 6 112 (.slice q.ws.al x.lines.length q.ws.cl_) x.lines.length (linsCl q.ls x.lines) (some ⟨w1.heap.size, 0, none⟩) 1 1 _ [.slice (some ⟨g, 3, none⟩) Kq Kq, .slice A1 L c9, .int .i64 a0, .int .i64 a1, .slice none 0 0, .slice none 0 0] rfl rfl Tryz.underlying22 line_info rfl (by omega) rfl hO3 rfl hRd (by intro h; cases h) hone.out h63 hby hbs3 (fun v1 w2 hown2 hg2 => ?_); obtain ⟨g1, c1, rfl⟩ := ownsRow_succ hown2; have hgr := hg2.pre (bDr (bAl (bRefl w1) _)); have kk := KeepT.of_grew hO hgr; have BR4 := kk.blk BR (by rw [h1.oR]; decide); have BG4 := kk.blk hB (by rw [ogn]; decide))) | (go_simp)
      refine shut_goK hK KS ?_
      clear hK K
      refine wpSched_force (fun K hK => ?_)
      first | ((refine step_appendG (.tmp 46) (.tmp 61) 22 base 56 (.agg #[.slice none 0 0, .slice none 0 0, .int .i64 0, .int .i64 0, .slice none 0 0, .slice none 0 0]) 6 112 (.slice q.ws.al x.lines.length q.ws.cl_) x.lines.length (linsCl q.ls x.lines) (some ⟨w1.heap.size, 0, none⟩) 1 1 _ [.slice (some ⟨g, 3, none⟩) Kq Kq, .slice A1 L c9, .int .i64 a0, .int .i64 a1, .slice none 0 0, .slice none 0 0] rfl rfl Tryz.underlying22 line_info rfl (by omega) rfl hO3 rfl hRd (by intro h; cases h) hone.out h63 hby hbs3 (fun v1 w2 hown2 hg2 => ?_); obtain ⟨g1, c1, rfl⟩ := ownsRow_succ hown2; have hgr := hg2.pre (bDr (bAl (bRefl w1) _)); have kk := KeepT.of_grew hO hgr; have BR4 := kk.blk BR (by rw [h1.oR]; decide); have BG4 := kk.blk hB (by rw [ogn]; decide))) | (go_simp)
      refine shut_goK hK KS ?_
      clear hK K
      refine wpSched_t ?_
      refine wpSched_t ?_
      refine wpSched_t ?_
      refine wpSched_t ?_
      refine wpSched_last ?_
      first | simp only [List.map_nil] | simp only [List.map_cons, List.map_nil]
      have c4 : w2.cell? ⟨R, 1, none⟩ = some (.slice q.ws.al x.lines.length q.ws.cl_) := by rw [BR4.cell]; exact cR
      have f4 := BR4.frozen 1
      have bw : Below base W (w2.setCell ⟨R, 1, none⟩ (.slice (some ⟨g1, 0, none⟩) (x.lines.length + 1) c1)) := ((b1.mono hbs).trans (hgr.below hO.own (Nat.le_trans hbs b1.size))).setCell (p := ⟨R, 1, none⟩) h.bR _
      have e3 : Hid (ox = some { x with lines := x.lines ++ [⟨r.take Kq, r.drop Kq, a0, a1, [], []⟩] }) := Lib.hid (e2.out.2.2.2.trans (by rw [hns.out]; simp [addR, nat_]))
      have hfin : Hid (StAt (w2.setCell ⟨R, 1, none⟩ (.slice (some ⟨g1, 0, none⟩) (x.lines.length + 1) c1)) R base (m + 1) (updT (updT o W.heap.size 0) w1.heap.size 4) { q with ws := { q.ws with al := some ⟨g1, 0, none⟩, cl_ := c1 }, ls := q.ls ++ [⟨some ⟨g, 3, none⟩, A1, none, none, Kq, c9, 0, 0⟩] } { x with lines := x.lines ++ [⟨r.take Kq, r.drop Kq, a0, a1, [], []⟩] } last) := Lib.hid (by
        have hl1 : (r.take Kq).length = Kq := by rw [List.length_take, hrl.out]; omega
        have hl2 : (r.drop Kq).length = L := by rw [List.length_drop, hrl.out]; omega
        refine h1.put (t := 4) hrow (by decide) (by decide) hgr hown2 (by simp [h1.ra.lq]) h1.ra.vq ?_ (Nat.succ_le_succ hOm) ?_ ?_ h1.ra.rv rfl ?_
        · show some _ = some _
          simp only [List.length_append, List.length_singleton, lins_snoc h1.ra.lq]
          unfold LS.cl
          simp only [hl1, hl2]
          try rfl
        · intro t' r' ht hr'
          exact line_row h1.ra.lq ht hr'
        · intro k s y hs hy
          by_cases hk : k < x.lines.length
          · rw [List.getElem?_append_left (by rw [h1.ra.lq]; exact hk)] at hs
            rw [List.getElem?_append_left hk] at hy
            exact h1.ra.rl k s y hs hy
          · have hk2 : k = x.lines.length := by have := (List.getElem?_eq_some_iff.1 hy).1; simp at this; omega
            subst hk2
            rw [List.getElem?_append_right (by rw [h1.ra.lq]; exact Nat.le_refl _), h1.ra.lq, Nat.sub_self] at hs
            rw [List.getElem?_append_right (Nat.le_refl _), Nat.sub_self] at hy
            simp at hs hy
            subst hs; subst hy
            simp only [hl1, hl2]
            exact ⟨hR0.out, hR1.out⟩
        · rw [List.setIfInBounds_toArray]
          refine congrArg List.toArray ?_
          simp [WS.cl])
      clear KS
      go_wp2_with fail
      refine NoPanic.normal ?_
      go_end0
      exact RdPost.yes e3.out hfin.out bw (KeepZ.of b1 (upd_agree o W.heap.size 0) kk (by decide) (by decide) (fun _ h _ => h)) (agree2 b1.size)
end Go.Proofs.YtmbopkcmbiommaaGreatDoor
