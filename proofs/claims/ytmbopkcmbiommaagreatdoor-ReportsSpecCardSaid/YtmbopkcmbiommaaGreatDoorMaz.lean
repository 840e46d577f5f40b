/-
  the reader of lines; walked.
-/
import Derived.Test.YtmbopkcmbiommaaGreatDoorMay
namespace Go.Proofs.YtmbopkcmbiommaaGreatDoor
open Go Go.RowKit

theorem line_cases (x : Wld) (l : List By) (ox : Option Wld) (hox : Hid (readR x 4 l = ox)) : (numsV l (-1) = none ∧ Hid (ox = none)) ∨ (∃ ns, numsV l (-1) = some ns ∧ ns.length < 3 ∧ Hid (ox = none)) ∨
    (∃ a0 a1 a2 r ns, ∃ N : Nat, Hid (ns = a0 :: a1 :: a2 :: r) ∧ Hid (ns.length = N) ∧ 3 ≤ N ∧ numsV l (-1) = some ns ∧ (((a2 < 1 ∨ (N : Int) < a2 ∨ (1 ≤ a2 ∧ a2 ≤ (N : Int) ∧ ((N : Int) == 2 + 2 * a2) = false)) ∧ Hid (ox = none)) ∨ ∃ K : Nat, Hid (a2 = (K : Int) ∧ 1 ≤ K ∧ N = 2 + 2 * K ∧ ox = some (addR x (4, ns))))) := by
  rw [numsV_all]
  have hr : readR x 4 l = (match numsO l with | some l => if formR 4 l = true then some (addR x (4, l)) else none | none => none) := rfl
  have hr := hox.out.symm.trans hr
  clear hox
  cases hl : numsO l with
  | none => rw [hl] at hr; exact .inl ⟨rfl, Lib.hid hr⟩
  | some ns =>
    rw [hl] at hr
    have hf : formR 4 ns = decide (3 ≤ ns.length ∧ 1 ≤ nat_ ns 2 ∧ nat_ ns 2 ≤ (ns.length : Int) ∧ (ns.length : Int) = 2 + 2 * nat_ ns 2) := rfl
    simp only [hf, decide_eq_true_eq] at hr
    by_cases h : ns.length < 3
    · exact .inr (.inl ⟨ns, rfl, h, Lib.hid (hr.trans (if_neg (fun h2 => by omega)))⟩)
    · obtain ⟨a0, r0, e0, l0⟩ := cons_of (n := 2) (by omega : 2 + 1 ≤ ns.length)
      obtain ⟨a1, r1, e1, l1⟩ := cons_of l0
      obtain ⟨a2, r2, e2, l2⟩ := cons_of l1
      subst e2; subst e1
      refine .inr (.inr ⟨a0, a1, a2, r2, ns, ns.length, Lib.hid e0, Lib.hid rfl, by omega, rfl, ?_⟩)
      have hn : nat_ ns 2 = a2 := by rw [e0]; rfl
      rw [hn] at hr
      by_cases h1 : a2 < 1
      · exact .inl ⟨.inl h1, Lib.hid (hr.trans (if_neg (fun h2 => by omega)))⟩
      · by_cases h2 : (ns.length : Int) < a2
        · exact .inl ⟨.inr (.inl h2), Lib.hid (hr.trans (if_neg (fun h2 => by omega)))⟩
        · by_cases h3 : (ns.length : Int) = 2 + 2 * a2
          · exact .inr ⟨a2.toNat, Lib.hid ⟨by omega, by omega, by omega, hr.trans (if_pos ⟨by omega, by omega, by omega, h3⟩)⟩⟩
          · exact .inl ⟨.inr (.inr ⟨by omega, by omega, by simpa using h3⟩), Lib.hid (hr.trans (if_neg (fun h2 => h3 h2.2.2.2)))⟩
theorem line_info : (Tryz.prog.info? 56).map (fun i => (i.zero, i.size, i.bytes)) = some (some (.agg #[.slice none 0 0, .slice none 0 0, .int .i64 0, .int .i64 0, .slice none 0 0, .slice none 0 0]), 6, 112) := by kernel_rfl
theorem lins_snoc {l : List Lin} {ls : List LS} {y : Lin} {s : LS} (h : ls.length = l.length) : linsCl (ls ++ [s]) (l ++ [y]) = linsCl ls l ++ s.cl y := by
  unfold linsCl
  rw [List.zip_append h, List.flatMap_append]
  simp
/-- The rows of a world that has got a line. -/
theorem line_row {q : RS} {x : Wld} {a0 a1 : Int} {p0 p1 : List Int} {A0 A1 A2 : Option Addr} {c c0 c1 t : Nat} {r : Rwn} (hq : q.ls.length = x.lines.length) (ht : t ≠ 4)
    (h : rowQ { q with ws := { q.ws with al := A2, cl_ := c }, ls := q.ls ++ [⟨A0, A1, none, none, c0, c1, 0, 0⟩] } { x with lines := x.lines ++ [⟨p0, p1, a0, a1, [], []⟩] } t = some r) :
    rowQ q x t = some r ∨ (r.n = 0 ∧ r.v = .slice none 0 0 ∧ r.xs = []) := by
  by_cases h10 : t < 10
  · left
    rw [← h]
    unfold rowQ
    simp only [ht, h10, if_true, if_false]
  · unfold rowQ at h ⊢
    rw [if_neg (by omega), if_neg (by omega), if_neg (by omega), if_neg (by omega), if_neg (by omega), if_neg (by omega), if_neg (by omega), if_neg (by omega), if_neg h10] at h ⊢
    by_cases hk : (t - 10) / 2 < x.lines.length
    · left
      simp only [List.getElem?_append_left (show (t - 10) / 2 < q.ls.length by omega), List.getElem?_append_left hk] at h
      exact h
    · right
      simp only [List.getElem?_append_right (show q.ls.length ≤ (t - 10) / 2 by omega), List.getElem?_append_right (show x.lines.length ≤ (t - 10) / 2 by omega), hq] at h
      cases hj : (t - 10) / 2 - x.lines.length with
      | zero =>
        rw [hj] at h
        simp only [List.getElem?_cons_zero] at h
        split at h <;> (injection h with h; subst h; exact ⟨rfl, rfl, rfl⟩)
      | succ n =>
        rw [hj] at h
        simp at h
/-- A part of the numbers of a row. -/
theorem ints_part {w : World} {B g cap N off n : Nat} {o : Nat → Nat} {ns p : List Int} {A0 : Option Addr} (hv : w.ownsRow B 3 1 (.slice (some ⟨g, 0, none⟩) N cap) N (ints ns)) (ho : o g = 0) (hA : 0 < n → A0 = some ⟨g, off, none⟩) (hn : p.length = n) (hp : ∀ j u, p[j]? = some u → ns[off + j]? = some u) : RdO w o A0 n (ints p) := by
  have hlt := (hv.lt g rfl).2
  refine ⟨⟨by rw [ints_length, hn, Nat.mul_one], fun h0 => ⟨g, off, hA h0, hlt, fun j u hu => ?_⟩⟩, fun q e h0 => ?_⟩
  · refine own_cell hv ?_
    unfold ints at hu ⊢
    rw [List.getElem?_map] at hu ⊢
    cases hj : p[j]? with
    | none => rw [hj] at hu; cases hu
    | some u' => rw [hj] at hu; rw [hp j u' hj]; exact hu
  · rw [hA h0] at e
    injection e with e
    subst e
    exact ho
set_option maxRecDepth 100000 in
set_option maxHeartbeats 8000000 in
theorem rd_line (R base m : Nat) (o : Nat → Nat) (q : RS) (x : Wld) (last : ByteArray) (A : Option Addr) (c : Nat) (l : List ByteArray) (W : World) (h : StAt W R base m o q x last) (hA : Rd W W.heap.size 1 A l.length (strs l)) (hl : ∀ s ∈ l, s.size ≤ 1000000) (hn : l.length ≤ 1000000) (hm : m ≤ 1000000) (hG : LibG base W) :
    Calls Tryz.prog 94 #[.pointer (some ⟨R, 0, none⟩), .slice A l.length c] W (RdPost (readR x 4 (bys l)) o R base m last W) := by
  have hbs : base ≤ W.heap.size := Nat.le_trans h.bR (Nat.le_of_lt h.blk.lt)
  have q1 := Lib.hid (rep_numbers base A c l (-1) W hA hl hn hG hbs)
  obtain ⟨ox, hox⟩ : ∃ ox, Hid (readR x 4 (bys l) = ox) := ⟨_, Lib.hid rfl⟩
  have h2 := line_cases x (bys l) ox hox
  have hlen : ∀ ns, numsV (bys l) (-1) = some ns → ns.length ≤ 1000000 := fun ns h => by
    rw [numsV_all] at h
    rw [numsO_len h]
    unfold bys
    rw [List.length_map]
    exact hn
  rw [hox.out]
  clear hox
  go_enter Tryz.func94, Tryz.ntmps94
  rcases h2 with ⟨e1, e2⟩ | ⟨ns, e1, hlt, e2⟩ | ⟨a0, a1, a2, r, ns, N, hns, hN, h3, e1, e2⟩
  · rw [e1] at q1
    clear hlen
    go_upto_region 1 with (go_at_call 91; (with_reducible refine q1.out.mono ?_); rintro e w2 ⟨h9, b2⟩; (simp only at h9; unfold PanW at h9; subst h9))
    exact ⟨rfl, RdPost.no e2.out b2 hbs⟩
  · rw [e1] at q1
    clear hlen
    obtain ⟨N, hN⟩ : ∃ N, Hid (ns.length = N) := ⟨_, Lib.hid rfl⟩
    rw [hN.out] at hlt
    have i0 : (N : Int) < 3 := by omega
    go_upto_region 2 with (first | (go_at_call 91; (with_reducible refine q1.out.mono ?_); rintro e w1 ⟨⟨vn, h9, hv⟩, b1⟩; subst h9; rw [hN.out] at hv; obtain ⟨An, cn, rfl, -⟩ := Rd.of_own hv) | (go_at_call 55; (with_reducible refine (want_no _).mono ?_); rintro e w3 ⟨h9, rfl⟩; unfold PanW at h9; subst h9))
    exact ⟨rfl, RdPost.no e2.out b1 hbs⟩
  · have hNb := hlen ns e1
    rw [hN.out] at hNb
    clear hlen
    rw [e1] at q1
    have i0 : (3 : Int) ≤ (N : Int) := by omega
    have i2 : (2 : Int) < (N : Int) := by omega
    clear e1
    rcases e2 with ⟨hbad, e2⟩ | ⟨Kq, e2⟩
    · rcases hbad with hbad | hbad | ⟨hb1, hb2, hb3⟩
      all_goals
        go_upto_region 2 with (first | (go_at_call 91; (with_reducible refine q1.out.mono ?_); rintro e w1 ⟨⟨vn, h9, hv⟩, b1⟩; subst h9; rw [hN.out] at hv; obtain ⟨g, cap, rfl⟩ := own_two hv (by omega); have d2 : w1.cell? ⟨g, 2, none⟩ = some (.int .i64 a2) := own_cell hv (by rw [hns.out]; rfl)) | (go_at_call 55; (with_reducible refine (want_no _).mono ?_); rintro e w3 ⟨h9, rfl⟩; unfold PanW at h9; subst h9))
      all_goals exact ⟨rfl, RdPost.no e2.out b1 hbs⟩
    · obtain ⟨ha2, hK, hNK, -⟩ := e2.out
      subst ha2
      have k1 : (1 : Int) ≤ (Kq : Int) := by omega
      have k2 : (Kq : Int) ≤ (N : Int) := by omega
      have k3 : ((N : Int) == 2 + 2 * (Kq : Int)) = true := by simp; omega
      have hNK2 := Lib.hid hNK
      clear hNK hK
      go_upto_region 3 with (first | (go_at_call 91; (with_reducible refine q1.out.mono ?_); rintro e w1 ⟨⟨vn, h9, hv⟩, b1⟩; subst h9; rw [hN.out] at hv; obtain ⟨g, cap, rfl⟩ := own_two hv (by omega); have d2 : w1.cell? ⟨g, 2, none⟩ = some (.int .i64 (Kq : Int)) := own_cell hv (by rw [hns.out]; rfl)) | (go_at_call 55; (with_reducible refine (want_yes _).mono ?_); rintro e w3 ⟨rfl, rfl⟩))
      obtain ⟨-, hg0, cur, hB, hcap, -, -, htk⟩ := OwnAt.parts hv
      have h1 := h.later b1 (upd_agree o W.heap.size 0) (Nat.le_refl m)
      have ogn : updT o W.heap.size 0 g = 0 := if_pos hg0
      have hd : ∀ (k : Nat) (u : Value), (ints ns)[k]? = some u → cur[k]? = some u := fun k u hu => by rw [← hB.cell]; exact own_cell hv hu
      rw [hns.out] at hd
      have BR := h1.blk
      have hrow : rowQ q x 4 = some ⟨56, 6, (.slice q.ws.al x.lines.length q.ws.cl_), x.lines.length, linsCl q.ls x.lines⟩ := rfl
      obtain ⟨hO, hOm⟩ := h1.ra.rows 4 _ hrow
      have cR : (q.ws.cl x ++ [Value.string last]).toArray[1]? = some (.slice q.ws.al x.lines.length q.ws.cl_) := by rw [List.getElem?_toArray]; rfl
      have KS : Hid (∀ w', Blk w' R 87 (q.ws.cl x ++ [Value.string last]).toArray → Blk w' g 3 cur → w'.cell? ⟨R, 1, none⟩ = some (.slice q.ws.al x.lines.length q.ws.cl_) ∧ w'.cell? ⟨g, 0, none⟩ = some (.int .i64 a0) ∧ w'.cell? ⟨g, 1, none⟩ = some (.int .i64 a1) ∧ w'.cell? ⟨g, 2, none⟩ = some (.int .i64 (Kq : Int))) :=
        Lib.hid (fun w' u1 u2 => ⟨by rw [u1.cell]; exact cR, by rw [u2.cell]; exact hd 0 _ rfl, by rw [u2.cell]; exact hd 1 _ rfl, by rw [u2.cell]; exact hd 2 _ rfl⟩)
      have BR2 : Blk w1.drew R 87 (q.ws.cl x ++ [Value.string last]).toArray := BR
      have BG2 : Blk w1.drew g 3 cur := hB
      clear hd
      have j0 : 0 < N := by omega
      have j1 : (1 : Int) < (N : Int) := by omega
      have s1 : 3 + Kq ≤ N := by rw [hNK2.out]; omega
      have s2 : 3 + Kq ≤ cap := by omega
      have s3 : (0 : Int) ≤ 3 + (Kq : Int) := by omega
      have s4 : (3 + (Kq : Int)).toNat = 3 + Kq := by omega
      have s5 : 3 ≤ 3 + Kq := by omega
      have s6 : (3 : Int) + (Kq : Int) ≤ (cap : Int) := by omega
      have s7 : (3 : Int) ≤ 3 + (Kq : Int) := by omega
      have s8 : (3 : Int) + (Kq : Int) ≤ (N : Int) := by omega
      have s9 : N ≤ cap := hcap
      have hK0 : ¬ Kq = 0 := by omega
      obtain ⟨A1, hA1⟩ : ∃ A1, (if cap = 3 + Kq then some (⟨g, 0, none⟩ : Addr) else some ⟨g, 3 + Kq, none⟩) = A1 := ⟨_, rfl⟩
      obtain ⟨c9, hc9⟩ : ∃ c9, cap - (3 + Kq) = c9 := ⟨_, rfl⟩
      obtain ⟨L, hL⟩ : ∃ L, N - (3 + Kq) = L := ⟨_, rfl⟩
      have hrl : Hid (r.length = Kq + L) := Lib.hid (by
        have h8 := hN.out
        rw [hns.out] at h8
        simp at h8
        have h9 := hNK2.out
        omega)
      have hR0 : Hid (RdO w1 (updT o W.heap.size 0) (some ⟨g, 3, none⟩) Kq (ints (r.take Kq))) := Lib.hid (ints_part hv ogn (fun _ => rfl) (by rw [List.length_take, hrl.out]; omega) (fun j u hu => by
        rw [hns.out, Nat.add_comm 3 j]
        rw [List.getElem?_take] at hu
        split at hu
        · simpa using hu
        · cases hu))
      have hR1 : Hid (RdO w1 (updT o W.heap.size 0) A1 L (ints (r.drop Kq))) := Lib.hid (ints_part hv ogn (off := 3 + Kq) (fun h0 => by rw [← hA1, if_neg (by omega)]) (by rw [List.length_drop, hrl.out]; omega) (fun j u hu => by
        rw [hns.out, show 3 + Kq + j = Kq + j + 1 + 1 + 1 by omega]
        rw [List.getElem?_drop] at hu
        simpa using hu))
      have BR3 : Blk (w1.alloc (.cells #[.slice (some ⟨g, 3, none⟩) Kq Kq, .slice A1 L c9, .int .i64 a0, .int .i64 a1, .slice none 0 0, .slice none 0 0] 56)).drew R 87 (q.ws.cl x ++ [Value.string last]).toArray := BR.alloc _
      have BG3 : Blk (w1.alloc (.cells #[.slice (some ⟨g, 3, none⟩) Kq Kq, .slice A1 L c9, .int .i64 a0, .int .i64 a1, .slice none 0 0, .slice none 0 0] 56)).drew g 3 cur := hB.alloc _
      have hO3 : World.ownsRow (w1.alloc (.cells #[.slice (some ⟨g, 3, none⟩) Kq Kq, .slice A1 L c9, .int .i64 a0, .int .i64 a1, .slice none 0 0, .slice none 0 0] 56)).drew base 56 6 (.slice q.ws.al x.lines.length q.ws.cl_) x.lines.length (linsCl q.ls x.lines) := hO.own.alloc _
      have hRd : Rd (w1.alloc (.cells #[.slice (some ⟨g, 3, none⟩) Kq Kq, .slice A1 L c9, .int .i64 a0, .int .i64 a1, .slice none 0 0, .slice none 0 0] 56)).drew _ 6 (some ⟨w1.heap.size, 0, none⟩) 1 [.slice (some ⟨g, 3, none⟩) Kq Kq, .slice A1 L c9, .int .i64 a0, .int .i64 a1, .slice none 0 0, .slice none 0 0] := Rd.new w1 [.slice (some ⟨g, 3, none⟩) Kq Kq, .slice A1 L c9, .int .i64 a0, .int .i64 a1, .slice none 0 0, .slice none 0 0] 56 6 1 _ rfl rfl
      have hone : Hid (∀ u ∈ ([.slice (some ⟨g, 3, none⟩) Kq Kq, .slice A1 L c9, .int .i64 a0, .int .i64 a1, .slice none 0 0, .slice none 0 0] : List Value), u.oneCell' = true) := Lib.hid (by intro u hu; simp only [List.mem_cons, List.not_mem_nil, or_false] at hu; rcases hu with rfl | rfl | rfl | rfl | rfl | rfl <;> rfl)
      have h63 : x.lines.length + 1 ≤ maxLen := by simp only at hOm; unfold maxLen; omega
      have hby : (x.lines.length + 1) * 112 ≤ 140737488355328 := by simp only at hOm; omega
      have hbs3 : base ≤ (World.heap (w1.alloc (.cells #[.slice (some ⟨g, 3, none⟩) Kq Kq, .slice A1 L c9, .int .i64 a0, .int .i64 a1, .slice none 0 0, .slice none 0 0] 56)).drew).size := Nat.le_trans (Nat.le_trans hbs b1.size) (bDr (bAl (bRefl w1) _)).size
      clear hN hcap htk hg0 d2
      refine wp_region_schK (f := 27) KS [(0, 1), (1, 1), (2, 1), (3, 1), (4, 1), (5, 1), (6, 2), (7, 1), (8, 1), (9, 2), (10, 1), (11, 1), (12, 2), (13, 1), (14, 1), (15, 1), (16, 1), (17, 1), (18, 1), (19, 1), (20, 1), (21, 0), (22, 0), (23, 1), (24, 1), (25, 1), (26, 1), (27, 3)] ?_
      simp only [pickS, List.getElem?_cons_zero, List.getElem?_cons_succ]
      refine wpSched_t ?_
      refine wpSched_t ?_
      refine wpSched_t ?_
      refine wpSched_t ?_
      refine wpSched_t ?_
      refine wpSched_t ?_
      refine wpSched_r ?_
      refine wpSched_t ?_
      refine wpSched_t ?_
      refine wpSched_r ?_
      refine wpSched_t ?_
      refine wpSched_t ?_
      refine wpSched_r ?_
      refine wpSched_t ?_
      refine wpSched_t ?_
      refine wpSched_t ?_
      refine wpSched_t ?_
      refine wpSched_t ?_
      refine wpSched_t ?_
      refine wpSched_t ?_
      refine wpSched_t ?_
      refine wpSched_force (fun K hK => ?_)
      first | ((refine step_appendG (.tmp 46) (.tmp 61) 22 base 56 (.agg #[.slice none 0 0, .slice none 0 0, .int .i64 0, .int .i64 0, .slice none 0 0, .slice none 0 0]) 6 112 (.slice q.ws.al x.lines.length q.ws.cl_) x.lines.length (linsCl q.ls x.lines) (some ⟨w1.heap.size, 0, none⟩) 1 1 _ [.slice (some ⟨g, 3, none⟩) Kq Kq, .slice A1 L c9, .int .i64 a0, .int .i64 a1, .slice none 0 0, .slice none 0 0] rfl rfl Tryz.underlying22 line_info rfl (by omega) rfl hO3 rfl hRd (by intro h; cases h) hone.out h63 hby hbs3 (fun v1 w2 hown2 hg2 => ?_); obtain ⟨g1, c1, rfl⟩ := ownsRow_succ hown2; have hgr := hg2.pre (bDr (bAl (bRefl w1) _)); have kk := KeepT.of_grew hO hgr; have BR4 := kk.blk BR (by rw [h1.oR]; decide); have BG4 := kk.blk hB (by rw [ogn]; decide))) | (go_simp)
      refine shut_goK hK KS ?_
      clear hK K
      refine wpSched_force (fun K hK => ?_)
      first | ((refine step_appendG (.tmp 46) (.tmp 61) 22 base 56 (.agg #[.slice none 0 0, .slice none 0 0, .int .i64 0, .int .i64 0, .slice none 0 0, .slice none 0 0]) 6 112 (.slice q.ws.al x.lines.length q.ws.cl_) x.lines.length (linsCl q.ls x.lines) (some ⟨w1.heap.size, 0, none⟩) 1 1 _ [.slice (some ⟨g, 3, none⟩) Kq Kq, .slice A1 L c9, .int .i64 a0, .int .i64 a1, .slice none 0 0, .slice none 0 0] rfl rfl Tryz.underlying22 line_info rfl (by omega) rfl hO3 rfl hRd (by intro h; cases h) hone.out h63 hby hbs3 (fun v1 w2 hown2 hg2 => ?_); obtain ⟨g1, c1, rfl⟩ := ownsRow_succ hown2; have hgr := hg2.pre (bDr (bAl (bRefl w1) _)); have kk := KeepT.of_grew hO hgr; have BR4 := kk.blk BR (by rw [h1.oR]; decide); have BG4 := kk.blk hB (by rw [ogn]; decide))) | (go_simp)
      refine shut_goK hK KS ?_
      clear hK K
      refine wpSched_t ?_
      refine wpSched_t ?_
      refine wpSched_t ?_
      refine wpSched_t ?_
      refine wpSched_last ?_
      first | simp only [List.map_nil] | simp only [List.map_cons, List.map_nil]
      have c4 : w2.cell? ⟨R, 1, none⟩ = some (.slice q.ws.al x.lines.length q.ws.cl_) := by rw [BR4.cell]; exact cR
      have f4 := BR4.frozen 1
      have bw : Below base W (w2.setCell ⟨R, 1, none⟩ (.slice (some ⟨g1, 0, none⟩) (x.lines.length + 1) c1)) := ((b1.mono hbs).trans (hgr.below hO.own (Nat.le_trans hbs b1.size))).setCell (p := ⟨R, 1, none⟩) h.bR _
      have e3 : Hid (ox = some { x with lines := x.lines ++ [⟨r.take Kq, r.drop Kq, a0, a1, [], []⟩] }) := Lib.hid (e2.out.2.2.2.trans (by rw [hns.out]; simp [addR, nat_]))
      have hfin : Hid (StAt (w2.setCell ⟨R, 1, none⟩ (.slice (some ⟨g1, 0, none⟩) (x.lines.length + 1) c1)) R base (m + 1) (updT (updT o W.heap.size 0) w1.heap.size 4) { q with ws := { q.ws with al := some ⟨g1, 0, none⟩, cl_ := c1 }, ls := q.ls ++ [⟨some ⟨g, 3, none⟩, A1, none, none, Kq, c9, 0, 0⟩] } { x with lines := x.lines ++ [⟨r.take Kq, r.drop Kq, a0, a1, [], []⟩] } last) := Lib.hid (by
        have hl1 : (r.take Kq).length = Kq := by rw [List.length_take, hrl.out]; omega
        have hl2 : (r.drop Kq).length = L := by rw [List.length_drop, hrl.out]; omega
        refine h1.put (t := 4) hrow (by decide) (by decide) hgr hown2 (by simp [h1.ra.lq]) h1.ra.vq ?_ (Nat.succ_le_succ hOm) ?_ ?_ h1.ra.rv rfl ?_
        · show some _ = some _
          simp only [List.length_append, List.length_singleton, lins_snoc h1.ra.lq]
          unfold LS.cl
          simp only [hl1, hl2]
          try rfl
        · intro t' r' ht hr'
          exact line_row h1.ra.lq ht hr'
        · intro k s y hs hy
          by_cases hk : k < x.lines.length
          · rw [List.getElem?_append_left (by rw [h1.ra.lq]; exact hk)] at hs
            rw [List.getElem?_append_left hk] at hy
            exact h1.ra.rl k s y hs hy
          · have hk2 : k = x.lines.length := by have := (List.getElem?_eq_some_iff.1 hy).1; simp at this; omega
            subst hk2
            rw [List.getElem?_append_right (by rw [h1.ra.lq]; exact Nat.le_refl _), h1.ra.lq, Nat.sub_self] at hs
            rw [List.getElem?_append_right (Nat.le_refl _), Nat.sub_self] at hy
            simp at hs hy
            subst hs; subst hy
            simp only [hl1, hl2]
            exact ⟨hR0.out, hR1.out⟩
        · rw [List.setIfInBounds_toArray]
          refine congrArg List.toArray ?_
          simp [WS.cl])
      clear KS
      go_wp2_with fail
      refine NoPanic.normal ?_
      go_end0
      exact RdPost.yes e3.out hfin.out bw (KeepZ.of b1 (upd_agree o W.heap.size 0) kk (by decide) (by decide) (fun _ h _ => h)) (agree2 b1.size)
end Go.Proofs.YtmbopkcmbiommaaGreatDoor

/-
  reading.line, and rows that grow inside a line.
-/
namespace Go.Proofs.YtmbopkcmbiommaaGreatDoor
open Go Go.RowKit

set_option maxHeartbeats 1000000 in
theorem rep_line (R base m n gl c : Nat) (o : Nat → Nat) (q : RS) (x : Wld) (last : ByteArray) (W : World) (h : StAt W R base m o q x last) (hm : m ≤ 1000000) (hgl : q.ws.al = some ⟨gl, 0, none⟩) (hc : q.ws.cl_ = c) (hn : x.lines.length = n + 1) :
    Calls Tryz.prog 96 #[.pointer (some ⟨R, 0, none⟩)] W (fun r w' => r = .returned (.pointer (some ⟨gl, n * 6, none⟩)) ∧ Below W.heap.size W w') := by
  have cR : (q.ws.cl x ++ [Value.string last]).toArray[1]? = some (.slice (some ⟨gl, 0, none⟩) (n + 1) c) := by rw [List.getElem?_toArray, ← hgl, ← hn, ← hc]; rfl
  have hnm : n + 1 ≤ m := by rw [← hn]; exact (h.ra.rows 4 _ rfl).2
  have KS : Hid (∀ w', Below W.heap.size W w' → w'.cell? ⟨R, 1, none⟩ = some (.slice (some ⟨gl, 0, none⟩) (n + 1) c)) := Lib.hid (fun w' b => by rw [(h.blk.below b h.blk.lt).cell]; exact cR)
  have hB : Hid (Below W.heap.size W W.drew) := Lib.hid (bDr (bRefl W))
  have hw : IntKind.i64.wrap (n : Int) = (n : Int) := by rw [IntKind.wrap_i64]; omega
  have hlt : (n : Int) < (n : Int) + 1 := by omega
  clear h cR hgl hn hc
  go_enter Tryz.func96, Tryz.ntmps96
  go_upto_region 1 with fail
  refine wp_region_schB (f := 15) KS [(0, 1), (1, 1), (2, 1), (3, 1), (4, 1), (5, 2), (6, 1), (7, 1), (8, 1), (9, 1), (10, 1), (11, 2), (12, 1), (13, 1), (14, 1), (15, 3)] ?_
  simp only [pickS, List.getElem?_cons_zero, List.getElem?_cons_succ]
  refine wpSched_t ?_
  refine wpSched_t ?_
  refine wpSched_t ?_
  refine wpSched_t ?_
  refine wpSched_t ?_
  refine wpSched_r ?_
  refine wpSched_t ?_
  refine wpSched_t ?_
  refine wpSched_t ?_
  refine wpSched_t ?_
  refine wpSched_t ?_
  refine wpSched_r ?_
  refine wpSched_t ?_
  refine wpSched_t ?_
  refine wpSched_t ?_
  refine wpSched_last ?_
  first | simp only [List.map_nil] | simp only [List.map_cons, List.map_nil]
  go_wp2_with fail
  refine NoPanic.normal ?_
  go_wp2_with fail
  go_ret
  exact ⟨rfl, hB.out⟩
/-- The cells of one line are written anew. -/
theorem lins_at {s : LS} {y : Lin} {i : Nat} (hi : i < 6) : ∀ {ls : List LS} {l : List Lin} {k : Nat}, ls[k]? = some s → l[k]? = some y → (linsCl ls l)[k * 6 + i]? = (s.cl y)[i]?
  | [], _, _, h, _ => by simp at h
  | _ :: _, [], _, _, h => by simp at h
  | s1 :: ls, y1 :: l, 0, h, h' => by
    simp only [List.getElem?_cons_zero, Option.some.injEq] at h h'
    subst h; subst h'
    show (s1.cl y1 ++ linsCl ls l)[0 * 6 + i]? = _
    rw [Nat.zero_mul, Nat.zero_add, List.getElem?_append_left (by simpa [LS.cl] using hi)]
  | s1 :: ls, y1 :: l, k + 1, h, h' => by
    simp only [List.getElem?_cons_succ] at h h'
    show (s1.cl y1 ++ linsCl ls l)[(k + 1) * 6 + i]? = _
    have e : (s1.cl y1).length = 6 := rfl
    rw [List.getElem?_append_right (by omega), e, show (k + 1) * 6 + i - 6 = k * 6 + i by omega]
    exact lins_at hi h h'
theorem lins_set {s s' : LS} {y y' : Lin} {i : Nat} {v : Value} (hi : i < 6) (hv : s'.cl y' = (s.cl y).set i v) : ∀ {ls : List LS} {l : List Lin} {k : Nat}, ls[k]? = some s → l[k]? = some y → linsCl (ls.set k s') (l.set k y') = (linsCl ls l).set (k * 6 + i) v
  | [], _, _, h, _ => by simp at h
  | _ :: _, [], _, _, h => by simp at h
  | s1 :: ls, y1 :: l, 0, h, h' => by
    simp only [List.getElem?_cons_zero, Option.some.injEq] at h h'
    subst h; subst h'
    show s'.cl y' ++ linsCl ls l = (s1.cl y1 ++ linsCl ls l).set (0 * 6 + i) v
    rw [Nat.zero_mul, Nat.zero_add, hv, List.set_append_left _ _ (by simpa [LS.cl] using hi)]
  | s1 :: ls, y1 :: l, k + 1, h, h' => by
    simp only [List.getElem?_cons_succ] at h h'
    show s1.cl y1 ++ linsCl (ls.set k s') (l.set k y') = (s1.cl y1 ++ linsCl ls l).set ((k + 1) * 6 + i) v
    have e : (s1.cl y1).length = 6 := rfl
    rw [List.set_append_right _ _ (by omega), e, show (k + 1) * 6 + i - 6 = k * 6 + i by omega, lins_set hi hv h h']
theorem lastL_set {f : Lin → Lin} {l : List Lin} {n : Nat} {y : Lin} (hn : l.length = n + 1) (hy : l[n]? = some y) : lastL f l = l.set n (f y) := by
  obtain ⟨p, z, rfl⟩ : ∃ p z, l = p ++ [z] := ⟨l.dropLast, l.getLast (by intro e; rw [e] at hn; simp at hn), (List.dropLast_concat_getLast _).symm⟩
  have hp : p.length = n := by simpa using hn
  subst hp
  rw [List.getElem?_append_right (Nat.le_refl _), Nat.sub_self] at hy
  simp at hy
  subst hy
  unfold lastL
  rw [List.reverse_append]
  simp
/-- A row inside a line has grown, and its slice has been stored in the line. -/
theorem RowsAt.putIn {w w2 : World} {base m m' t gl i n' : Nat} {o : Nat → Nat} {q q' : RS} {x x' : Wld} {r r4 : Rwn} {v1 : Value} {xs1 : List Value} {cg : Nat} (h : RowsAt w base m o q x) (hr : rowQ q x t = some r) (ht : t ≠ 0) (ht4 : t ≠ 4) (hg : Grew w w2 r.v v1) (hown : w2.ownsRow base r.e r.sz v1 n' xs1)
    (hr4 : rowQ q x 4 = some r4) (hv4 : r4.v = .slice (some ⟨gl, 0, none⟩) r4.n cg) (lq : q'.ls.length = x'.lines.length) (vq : q'.vs.length = x'.orders.length) (hrt : rowQ q' x' t = some ⟨r.e, r.sz, v1, n', xs1⟩) (hn : n' ≤ m') (hm : m ≤ m')
    (hrt4 : rowQ q' x' 4 = some ⟨r4.e, r4.sz, r4.v, r4.n, r4.xs.set i v1⟩) (hrow : ∀ t' r', t' ≠ t → t' ≠ 4 → rowQ q' x' t' = some r' → rowQ q x t' = some r')
    (hrl : ∀ (k : Nat) (s : LS) (y : Lin), q'.ls[k]? = some s → x'.lines[k]? = some y → RdO w o s.a0 y.offs.length (ints y.offs) ∧ RdO w o s.a1 y.legs.length (ints y.legs))
    (hrv : ∀ (k : Nat) (u : Value) (y : Odr), q'.vs[k]? = some u → x'.orders[k]? = some y → ∃ A c, u = .slice A y.ag.length c ∧ RdO w o A y.ag.length (ints y.ag)) :
    RowsAt (w2.setCell ⟨gl, i, none⟩ v1) base m' (updT o w.heap.size t) q' x' := by
  have hO := (h.rows t r hr).1
  obtain ⟨h4, h4m⟩ := h.rows 4 r4 hr4
  have k := KeepT.of_grew hO hg
  have ha := upd_agree o w.heap.size t
  have h4o : r4.v.ownBlock = some gl := by rw [hv4]; rfl
  have ogl : o gl = 4 := h4.tag gl h4o
  have glt : gl < w.heap.size := (h4.own.lt gl h4o).2
  have ogl2 : updT o w.heap.size t gl = 4 := by rw [ha gl glt]; exact ogl
  have k2 := KeepT.of_set (w := w2) ogl2 i v1
  have kk : ∀ {t' : Nat} {r' : Rwn}, t' ≠ t → t' ≠ 4 → rowQ q x t' = some r' → Own (w2.setCell ⟨gl, i, none⟩ v1) base (updT o w.heap.size t) t' r' := fun e1 e2 e => ((h.rows _ _ e).1.keep k e1 ha).keep k2 e2 (fun _ _ => rfl)
  refine ⟨lq, vq, fun t' r' e => ?_, fun k' s y hs hy => ⟨((hrl k' s y hs hy).1.keep k ht ha).keep k2 (by decide) (fun _ _ => rfl), ((hrl k' s y hs hy).2.keep k ht ha).keep k2 (by decide) (fun _ _ => rfl)⟩, fun k' u y hu hy => ?_⟩
  · by_cases et : t' = t
    · subst et
      rw [hrt] at e
      injection e with e
      subst e
      exact ⟨(hO.grew hg hown).keep k2 ht4 (fun _ _ => rfl), hn⟩
    · by_cases e4 : t' = 4
      · subst e4
        rw [hrt4] at e
        injection e with e
        subst e
        have h5 := h4.keep k (fun e => ht4 e.symm) ha
        refine ⟨⟨?_, fun g eg => ?_⟩, Nat.le_trans h4m hm⟩
        · have h6 := h5.own
          rw [hv4] at h6 ⊢
          exact own_set h6 i v1
        · rw [h4o] at eg
          injection eg with eg
          subst eg
          exact ogl2
      · have e5 := hrow t' r' et e4 e
        exact ⟨kk et e4 e5, Nat.le_trans (h.rows _ _ e5).2 hm⟩
  · obtain ⟨A, c, e, hr⟩ := hrv k' u y hu hy
    exact ⟨A, c, e, (hr.keep k ht ha).keep k2 (by decide) (fun _ _ => rfl)⟩
end Go.Proofs.YtmbopkcmbiommaaGreatDoor
