/- post: an order is asked; slices.ContainsFunc over orders; walked. -/
import Derived.Test.YtmbopkcmbiommaaGreatDoorRan
set_option maxRecDepth 1000000
set_option maxHeartbeats 16000000
namespace Go.Proofs.YtmbopkcmbiommaaGreatDoor
open Go Go.RowKit
theorem order_info : (Tryz.prog.info? 65).map (·.size) = some 11 := by kernel_rfl
theorem ask_order (p PB : Nat) (s : WS) (x : Wld) (o : Odr) (A : Option Addr) (c : Nat) (W : World) (hp : Blk W p 102 #[.pointer (some ⟨PB, 0, none⟩)]) {pl : List Value} (hP : Blk W PB 107 (s.cl x ++ pl).toArray)
    (hA : Rd W W.heap.size 1 A o.ag.length (ints o.ag)) (hn : o.ag.length ≤ 1000000) (h1 : -9223372036854775808 ≤ o.crowd) (h2 : o.crowd < 9223372036854775808) :
    Calls Tryz.prog 66 #[.agg (o.cl (.slice A o.ag.length c)).toArray, .pointer (some ⟨p, 0, none⟩)] W (Ret (.bool (!(o.right x.offs x.people (x.base.length : Int)))) W) := by
  have BX := Blk.new W 65 (o.cl (.slice A o.ag.length c)).toArray _ rfl
  have hb := bAl (bRefl W) (.cells (o.cl (.slice A o.ag.length c)).toArray 65)
  have hp1 := hp.alloc (.cells (o.cl (.slice A o.ag.length c)).toArray 65)
  have hP1 := hP.alloc (.cells (o.cl (.slice A o.ag.length c)).toArray 65)
  have hA1 := (hA.below hb).more hb.size
  generalize hY : (o.cl (.slice A o.ag.length c)).toArray = Y at *
  have hYs : Y.size = 11 := by rw [← hY]; rfl
  go_enter Tryz.func66, Tryz.ntmps66
  go_upto_region 1 with fail
  have hbx := Lib.hid (fun w' (b : Below (W.alloc (.cells Y 65)).heap.size (W.alloc (.cells Y 65)) w') => bCall hb b)
  have KS : Hid (∀ w', Below (W.alloc (.cells Y 65)).heap.size (W.alloc (.cells Y 65)) w' → ((Instr.loadAt 65 (.pointer (some ⟨W.heap.size, 0, none⟩))).run Tryz.prog w' = .ok (.agg Y) w' ∧ w'.cell? ⟨p, 0, none⟩ = some (.pointer (some ⟨PB, 0, none⟩)) ∧ w'.cell? ⟨PB, 0, none⟩ = some (.int .i64 x.offs) ∧ w'.cell? ⟨PB, 6, none⟩ = some (.int .i64 x.people) ∧ w'.cell? ⟨PB, 2, none⟩ = some (.slice s.ab x.base.length s.cb))) := Lib.hid (fun w' b =>
    ⟨load_blk (BX.below b BX.lt) Tryz.underlying65 rfl (by rw [hYs]; exact order_info), (hp1.below b hp1.lt).cell 0, (hP1.below b hP1.lt).cell 0, (hP1.below b hP1.lt).cell 6, (hP1.below b hP1.lt).cell 2⟩)
  have q : Hid (∀ w', Below (W.alloc (.cells Y 65)).heap.size (W.alloc (.cells Y 65)) w' → Calls Tryz.prog 67 #[.agg Y, .int .i64 x.offs, .int .i64 x.people, .int .i64 (x.base.length : Nat)] w' (Ret (.bool (o.right x.offs x.people (x.base.length : Int))) w')) := Lib.hid (fun w' b => by
    rw [← hY]
    exact orders_right o A c x.offs x.people (x.base.length : Int) w' ((hA1.below b).more b.size) hn h1 h2)
  generalize o.right x.offs x.people (x.base.length : Int) = ok at *
  clear hb BX hp1 hP1 hA1 hY hYs hA hp hP h1 h2 hn
  generalize W.alloc (.cells Y 65) = w1 at *
  refine wp_region_schN (g := 0) KS [(0, 2), (1, 2), (2, 1), (3, 1), (4, 1), (5, 1), (6, 2), (7, 2), (8, 1), (9, 1), (10, 1), (11, 2), (12, 2), (13, 1), (14, 1), (15, 1), (16, 1), (17, 2), (18, 1), (19, 0), (20, 1), (21, 0)] ?_
  simp only [pickS, List.getElem?_cons_zero, List.getElem?_cons_succ]
  refine wpSchedN_r (v := ?vq1) (hv := ?hq1) ?_; case hq1 => (intro w hSw; (first | refine (exec_load rfl rfl hSw).trans ?_ | refine (exec_load rfl rfl hSw.1).trans ?_ | refine (exec_load rfl rfl hSw.2.1).trans ?_ | refine (exec_load rfl rfl hSw.2.2.1).trans ?_ | refine (exec_load rfl rfl hSw.2).trans ?_ | refine (exec_load rfl rfl hSw.2.2).trans ?_); with_reducible rfl)
  refine wpSchedN_r ?_
  refine wpSchedN_t ?_
  refine wpSchedN_t ?_
  refine wpSchedN_t ?_
  refine wpSchedN_t ?_
  refine wpSchedN_r ?_
  refine wpSchedN_r ?_
  refine wpSchedN_t ?_
  refine wpSchedN_t ?_
  refine wpSchedN_t ?_
  refine wpSchedN_r ?_
  refine wpSchedN_r ?_
  refine wpSchedN_t ?_
  refine wpSchedN_t ?_
  refine wpSchedN_t ?_
  refine wpSchedN_t ?_
  refine wpSchedN_r ?_
  refine wpSchedN_t ?_
  refine wpSchedN_force (fun K hK => ?_)
  go_simp; (first | (go_at_call 67; (with_reducible refine (q.out _ (bDr (bRefl _))).mono ?_); rintro e w6 ⟨rfl, b6⟩; have B6 : Below w1.heap.size w1 w6 := bCall (bDr (bRefl _)) b6) | skip)
  refine shut_go hK KS ?_
  clear hK K
  refine wpSchedN_t ?_
  refine wpSchedN_force (fun K hK => ?_)
  go_simp; (first | (go_at_call 67; (with_reducible refine (q.out _ (bDr (bRefl _))).mono ?_); rintro e w6 ⟨rfl, b6⟩; have B6 : Below w1.heap.size w1 w6 := bCall (bDr (bRefl _)) b6) | skip)
  refine shut_go hK KS ?_
  clear hK K
  refine anyN_end ?_
  refine NoPanic.normal ?_
  have hb := hbx.out _ B6
  clear KS hbx q b6 B6
  go_wp2_with fail
  go_ret
  exact ⟨rfl, hb⟩
def OdrsAt (w : World) (B : Nat) (A : Option Addr) (l : List Odr) : Prop :=
  ∃ vs : List Value, vs.length = l.length ∧ Rd w B 11 A l.length (odrsCl l vs) ∧ ∀ (k : Nat) (y : Odr), l[k]? = some y → ∃ A c, vs[k]? = some (Value.slice A y.ag.length c) ∧ Rd w B 1 A y.ag.length (ints y.ag)
theorem OdrsAt.below {w w' : World} {B : Nat} {A : Option Addr} {l : List Odr} (h : OdrsAt w B A l) (b : Below B w w') : OdrsAt w' B A l := by
  obtain ⟨vs, l1, l2, l3⟩ := h
  exact ⟨vs, l1, l2.below b, fun k y hy => by obtain ⟨q, c, e, r⟩ := l3 k y hy; exact ⟨q, c, e, r.below b⟩⟩
theorem OdrsAt.more {w : World} {B B' : Nat} {A : Option Addr} {l : List Odr} (h : OdrsAt w B A l) (b : B ≤ B') : OdrsAt w B' A l := by
  obtain ⟨vs, l1, l2, l3⟩ := h
  exact ⟨vs, l1, l2.more b, fun k y hy => by obtain ⟨q, c, e, r⟩ := l3 k y hy; exact ⟨q, c, e, r.more b⟩⟩
theorem OdrsAt.at_ {w : World} {B k : Nat} {A : Option Addr} {l : List Odr} {y : Odr} (h : OdrsAt w B A l) (hy : l[k]? = some y) : ∃ b off A' c, A = some ⟨b, off, none⟩ ∧ b < B ∧ Rd w B 1 A' y.ag.length (ints y.ag) ∧ ∀ j, j < 11 → w.cell? ⟨b, off + k * 11 + j, none⟩ = (y.cl (.slice A' y.ag.length c))[j]? := by
  obtain ⟨vs, l1, l2, l3⟩ := h
  obtain ⟨A', c, hq, hr⟩ := l3 k y hy
  have hz : (l.zip vs)[k]? = some (y, .slice A' y.ag.length c) := by rw [List.getElem?_zip_eq_some]; exact ⟨hy, hq⟩
  obtain ⟨b, off, e, hb, hc⟩ := Cl_at (f := fun p : Odr × Value => p.1.cl p.2) (l := l.zip vs) (fun _ _ => rfl) l2 (List.getElem?_eq_some_iff.1 hy).1 hz
  exact ⟨b, off, A', c, e, hb, hr, hc⟩
def Odr.fine (o : Odr) : Prop := o.ag.length ≤ 1000000 ∧ -9223372036854775808 ≤ o.crowd ∧ o.crowd < 9223372036854775808
theorem index_odr (p PB : Nat) (s : WS) (x : Wld) (A : Option Addr) (c : Nat) (l : List Odr) (W : World) (hp : Blk W p 102 #[.pointer (some ⟨PB, 0, none⟩)]) {pl : List Value} (hP : Blk W PB 107 (s.cl x ++ pl).toArray)
    (hA : OdrsAt W W.heap.size A l) (hn : l.length ≤ 1000000) (hf : ∀ o ∈ l, o.fine) :
    Calls Tryz.prog 116 #[.slice A l.length c, .func (.func 66) #[] #[.pointer (some ⟨p, 0, none⟩)]] W (Ret (.int .i64 (firstI (fun o => !(o.right x.offs x.people (x.base.length : Int))) l)) W) := by
  have hen := Lib.hid (enters_of Tryz.func66 (by kernel_rfl) rfl)
  obtain ⟨pr, hpr⟩ : ∃ pr : Odr → Bool, (fun o : Odr => !(o.right x.offs x.people (x.base.length : Int))) = pr := ⟨_, rfl⟩
  have hq : Hid (∀ o ∈ l, ∀ A' c' w', Below W.heap.size W w' → Rd w' w'.heap.size 1 A' o.ag.length (ints o.ag) → Calls Tryz.prog 66 #[.agg (o.cl (.slice A' o.ag.length c')).toArray, .pointer (some ⟨p, 0, none⟩)] w' (Ret (.bool (pr o)) w')) := Lib.hid (fun o ho A' c' w' b r => by
    rw [← hpr]
    exact ask_order p PB s x o A' c' w' (hp.below b hp.lt) (hP.below b hP.lt) r (hf o ho).1 (hf o ho).2.1 (hf o ho).2.2)
  rw [hpr]
  clear hpr hp hP hf
  obtain ⟨v, hv⟩ : ∃ v, Hid (firstI pr l = v) := ⟨_, Lib.hid rfl⟩
  rw [hv.out]
  go_enter Tryz.func116, Tryz.ntmps116
  go_wp2_with fail
  go_loopw [8] (fun i wr => ∃ k : Nat, k ≤ l.length ∧ i = .int .i64 k ∧ Below W.heap.size W wr ∧ Hid (∀ y ∈ l.take k, pr y = false)) (fun i _ => l.length - (intOf i).toNat)
  case atStart => exact ⟨0, Nat.zero_le _, rfl, bRefl W, Lib.hid (by simp)⟩
  case round =>
    obtain ⟨k, hkn, rfl, hb, hp⟩ := hrel
    by_cases hlt : k < l.length
    · obtain ⟨o, ho⟩ : ∃ o, Hid (l[k]? = some o) := ⟨_, Lib.hid (List.getElem?_eq_getElem hlt)⟩
      obtain ⟨b, off, A', c', rfl, hbb, hr, hc⟩ := (hA.below hb).at_ ho.out
      have q := hq.out o (List.mem_of_getElem? ho.out) A' c' wr hb (hr.more hb.size)
      have he := hen.out
      have i0 : (0 : Int) ≤ (k : Int) := by omega
      have i1 : (k : Int) < (l.length : Int) := by omega
      have c0 := hc 0 (by omega)
      have c1 := hc 1 (by omega)
      have c2 := hc 2 (by omega)
      have c3 := hc 3 (by omega)
      have c4 := hc 4 (by omega)
      have c5 := hc 5 (by omega)
      have c6 := hc 6 (by omega)
      have c7 := hc 7 (by omega)
      have c8 := hc 8 (by omega)
      have c9 := hc 9 (by omega)
      have c10 := hc 10 (by omega)
      unfold Odr.cl at q c0 c1 c2 c3 c4 c5 c6 c7 c8 c9 c10
      simp only [List.getElem?_cons_zero, List.getElem?_cons_succ, Nat.add_zero] at c0 c1 c2 c3 c4 c5 c6 c7 c8 c9 c10
      clear hc hr
      cases hg : pr o
      · have hp' := Lib.hid (take_on hp.out ho.out hg)
        rw [hg] at q
        clear hg
        go_wp2_with fail
        (with_reducible refine q.mono ?_)
        rintro e w3 ⟨rfl, b3⟩
        replace hb := bCall hb b3
        clear q he c0 c1 c2 c3 c4 c5 c6 c7 c8 c9 c10
        go_wp2_with fail
        exact ⟨⟨k + 1, by omega, by go_num, hb, hp'⟩, by simp [intOf]; omega⟩
      · have hres := Lib.hid (hv.out.symm.trans (firstI_at hp.out ho.out hg))
        rw [hg] at q
        clear hg
        go_wp2_with fail
        (with_reducible refine q.mono ?_)
        rintro e w3 ⟨rfl, b3⟩
        replace hb := bCall hb b3
        clear q he c0 c1 c2 c3 c4 c5 c6 c7 c8 c9 c10
        go_wp2_with fail
        go_ret
        exact ⟨ret_int hres.out.symm, hb⟩
    · have hres : Hid (v = -1) := Lib.hid (hv.out.symm.trans (firstI_none (by have := hp.out; rwa [List.take_of_length_le (by omega)] at this)))
      clear hp
      go_wp2_with fail
      go_ret
      exact ⟨ret_int hres.out.symm, hb⟩
theorem contains_odr (p PB : Nat) (s : WS) (x : Wld) (A : Option Addr) (c : Nat) (l : List Odr) (W : World) (hp : Blk W p 102 #[.pointer (some ⟨PB, 0, none⟩)]) {pl : List Value} (hP : Blk W PB 107 (s.cl x ++ pl).toArray)
    (hA : OdrsAt W W.heap.size A l) (hn : l.length ≤ 1000000) (hf : ∀ o ∈ l, o.fine) :
    Calls Tryz.prog 68 #[.slice A l.length c, .func (.func 66) #[] #[.pointer (some ⟨p, 0, none⟩)]] W (Ret (.bool (l.any (fun o => !(o.right x.offs x.people (x.base.length : Int))))) W) := by
  have q := index_odr p PB s x A c l W hp hP hA hn hf
  have hg := firstI_any (p := fun o : Odr => !(o.right x.offs x.people (x.base.length : Int))) (l := l)
  generalize firstI (fun o : Odr => !(o.right x.offs x.people (x.base.length : Int))) l = i at *
  cases hall : (l.any (fun o : Odr => !(o.right x.offs x.people (x.base.length : Int))))
  all_goals
    rw [hall] at hg
    have hg' := Lib.hid hg
    have h1 := hg
    simp at h1
    clear hg hall
    go_enter Tryz.func68, Tryz.ntmps68
    go_wp2_with fail
    (with_reducible refine q.mono ?_)
    rintro e w1 ⟨rfl, b1⟩
    clear q
    go_wp2_with fail
    go_ret
    exact ⟨by first | rfl | exact ret_bool hg'.out, b1⟩
theorem wpSchedN_p {P : Program} {md : Region.Mode} {ops : Array Oper} {Q : Exit → Act → World → Prop} {S : World → Prop} {g : Nat} {listed : Array Bool} {o : Oper} {l : List (Nat × Oper)} {a a' : Act} {w : World} (h : wpSchedN P md ops Q S g listed l a' w) (hw : Region.wanted o (yielded ops a.tmps) = false := by rfl)
    (ht : a.put o.dst undef = a' := by (try simp only [Act.put, List.setIfInBounds_toArray, List.set_cons_zero, List.set_cons_succ]) <;> with_reducible rfl) : wpSchedN P md ops Q S g listed ((1, o) :: l) a w := by
  subst ht
  exact ⟨undef, .inr ⟨hw, rfl⟩, h⟩
theorem wp_region_schNP {P : Program} {Q : Exit → Act → World → Prop} {S : World → Prop} {w0 : World} {id g : Nat} {l : List Oper} {a : Act} {w : World} (KS : Hid (∀ w', Below w0.heap.size w0 w' → S w')) (s : List (Nat × Nat)) (h : wpSchedN P .any l.toArray Q S g (listedBy s (Array.replicate l.toArray.size false)) (pickS s l) a w.drew)
    (hQ : ∀ d v c a w, Q (.panic c) (Act.put a d v) w → Q (.panic c) a w := by intro d v c a w h; cases d <;> exact h)
    (hm : P.follows .mixedOrders = true := by kernel_rfl) (hB : (Region.noSelect l.toArray && (decide (s.length + g = l.toArray.size) && schedOkN .any l.toArray s (Array.replicate l.toArray.size false))) = true := by kernel_rfl)
    (hb : Below w0.heap.size w0 w.drew := by (repeat (first | with_reducible assumption | with_reducible exact bRefl _ | with_reducible refine bDr ?_ | with_reducible refine bAl ?_ _))) : (Code.region id l.toArray true).wp P Q a w := by
  simp only [Bool.and_eq_true, decide_eq_true_eq] at hB
  obtain ⟨h1, h2, h3⟩ := hB
  refine wp_region_any hm ?_
  have := wpAny_of_N _ _ _ _ (schedN_any (md := .any) (Q := Q) (ops := l.toArray) h1 hQ g s _ a w.drew h3 (KS.out _ hb) (by simpa using h))
  rw [h2] at this
  exact this
structure Wld.small (x : Wld) : Prop where
  lines : x.lines.length ≤ 1000000
  line : ∀ y ∈ x.lines, y.short
  base : x.base.length ≤ 1000000
  leg : x.leg.length ≤ 1000000
  tiers : x.tiers.length ≤ 1000000
  orders : x.orders.length ≤ 1000000
  order : ∀ o ∈ x.orders, o.fine
  ents : x.ents.length ≤ 1000000
  ent : ∀ e ∈ x.ents, (Lit.int .i64 e.kind).wf = true
  secs : x.secs.length ≤ 1000000
  seed : x.seed.length = 32
  faults : x.faults.length ≤ 1000000
theorem wsCl_length {s : WS} {x : Wld} (h : x.seed.length = 32) : (s.cl x).length = 43 := by
  have e : (byts x.seed).length = 32 := by rw [byts_length, h]
  unfold WS.cl
  simp [e]
theorem wsCl_42 {s : WS} {x : Wld} {pl : List Value} (h : x.seed.length = 32) : (s.cl x ++ pl).toArray[42]? = some (.slice s.af x.faults.length s.cf) := by
  have e : (byts x.seed).length = 32 := by rw [byts_length, h]
  rw [List.getElem?_toArray, List.getElem?_append_left (by rw [wsCl_length h]; omega)]
  unfold WS.cl
  rw [List.getElem?_append_right (by simp), List.getElem?_append_right (by simp [e])]
  simp [e]
def prevS (l : List Slp) : Nat → Option Slp
  | 0 => none
  | k + 1 => l[k]?
theorem slps_step {l : List Slp} {k : Nat} {x : Slp} (hx : l[k]? = some x) : slpsB (prevS l k) (l.drop k) = ((match prevS l k with | none => slpB x | some y => (slpB x && decide (y.run < x.run ∨ y.run = x.run ∧ y.leg < x.leg))) && slpsB (prevS l (k + 1)) (l.drop (k + 1))) := by
  obtain ⟨e1, e2⟩ := List.getElem?_eq_some_iff.1 hx
  rw [List.drop_eq_getElem_cons e1, e2, show prevS l (k + 1) = some x from hx]
  cases prevS l k <;> rfl
theorem cmp_two (a b c d : Int) : (if cmpV a b = 0 then cmpV c d else cmpV a b) < 0 ↔ (a < b ∨ a = b ∧ c < d) := by
  unfold cmpV
  repeat' split
  all_goals omega
def EndE (e : Int) (w : World) (r : Ending) (w' : World) : Prop :=
  Below w.heap.size w w' ∧ ((e = 0 ∧ r = .returned (.tuple #[])) ∨ (e ≠ 0 ∧ r = .panicked [{ v := .iface 38 (.int .i64 e), recovered := false }]))
theorem must_yes (w : World) : Calls Tryz.prog 62 #[.int .i64 0] w (Same (.tuple #[]) w) := by
  refine (must_any 0 w).mono ?_
  rintro e w3 ⟨rfl, ⟨h, rfl⟩ | ⟨h, rfl⟩⟩
  · exact ⟨rfl, rfl⟩
  · exact absurd rfl h
theorem must_no {e : Int} (he : e ≠ 0) (w : World) : Calls Tryz.prog 62 #[.int .i64 e] w (fun r w' => r = .panicked [{ v := .iface 38 (.int .i64 e), recovered := false }] ∧ w = w') := by
  refine (must_any e w).mono ?_
  rintro r w3 ⟨rfl, ⟨h, rfl⟩ | ⟨h, rfl⟩⟩
  · exact absurd h he
  · exact ⟨rfl, rfl⟩
theorem need_yes (e : Int) (he : e ≠ 0) (w : World) : Calls Tryz.prog 65 #[.bool true, .int .i64 e] w (Same (.tuple #[]) w) := by
  refine (need_any true e he w).mono ?_
  rintro r w3 ⟨rfl, ⟨h, rfl⟩ | ⟨h, rfl⟩⟩
  · exact ⟨rfl, rfl⟩
  · exact absurd rfl h
theorem need_no (e : Int) (he : e ≠ 0) (w : World) : Calls Tryz.prog 65 #[.bool false, .int .i64 e] w (fun r w' => r = .panicked [{ v := .iface 38 (.int .i64 e), recovered := false }] ∧ w = w') := by
  refine (need_any false e he w).mono ?_
  rintro r w3 ⟨rfl, ⟨h, rfl⟩ | ⟨h, rfl⟩⟩
  · exact absurd h he
  · exact ⟨rfl, rfl⟩
theorem per_check (PB : Nat) (s : WS) (x : Wld) (W : World) {pl : List Value} (hP : Blk W PB 107 (s.cl x ++ pl).toArray) (hx : WldAt W W.heap.size s x) (hs : x.small) :
    Calls Tryz.prog 38 #[.pointer (some ⟨PB, 0, none⟩)] W (EndE (postE x) W) := by
  have hmf : ∀ (fn : Fn) (first cap : Array Value) (w : World), (Instr.makeFunc fn first cap).run Tryz.prog w = .ok (.func fn first cap) w := fun _ _ _ _ => rfl
  obtain ⟨v, hv⟩ : ∃ v, Hid (postE x = v) := ⟨_, Lib.hid rfl⟩
  rw [hv.out]
  have BX := Blk.new W 102 #[.pointer (some ⟨PB, 0, none⟩)] _ rfl
  have hb := bAl (bRefl W) (.cells #[.pointer (some ⟨PB, 0, none⟩)] 102)
  have hP1 := hP.alloc (.cells #[.pointer (some ⟨PB, 0, none⟩)] 102)
  have hx1 := (hx.below hb).more hb.size
  go_enter Tryz.func38, Tryz.ntmps38
  go_upto_region 1 with fail
  have hbx := Lib.hid (fun w' (b : Below (W.alloc (.cells #[.pointer (some ⟨PB, 0, none⟩)] 102)).heap.size (W.alloc (.cells #[.pointer (some ⟨PB, 0, none⟩)] 102)) w') => bCall hb b)
  generalize W.alloc (.cells #[.pointer (some ⟨PB, 0, none⟩)] 102) = w1 at *
  have KC : Hid (∀ w', Below w1.heap.size w1 w' → (w'.cell? ⟨W.heap.size, 0, none⟩ = some (.pointer (some ⟨PB, 0, none⟩)) ∧ w'.cell? ⟨PB, 0, none⟩ = some (.int .i64 x.offs) ∧ w'.cell? ⟨PB, 1, none⟩ = some (.slice s.al x.lines.length s.cl_) ∧ w'.cell? ⟨PB, 2, none⟩ = some (.slice s.ab x.base.length s.cb) ∧ w'.cell? ⟨PB, 3, none⟩ = some (.slice s.ag x.leg.length s.cg) ∧ w'.cell? ⟨PB, 4, none⟩ = some (.slice s.at_ x.tiers.length s.ct) ∧ w'.cell? ⟨PB, 5, none⟩ = some (.slice s.ao x.orders.length s.co) ∧ w'.cell? ⟨PB, 6, none⟩ = some (.int .i64 x.people) ∧ w'.cell? ⟨PB, 7, none⟩ = some (.slice s.ae x.ents.length s.ce) ∧ w'.cell? ⟨PB, 9, none⟩ = some (.slice s.as_ x.secs.length s.cs) ∧ w'.cell? ⟨PB, 42, none⟩ = some (.slice s.af x.faults.length s.cf))) := Lib.hid (fun w' b =>
    ⟨(BX.below b BX.lt).cell 0, (hP1.below b hP1.lt).cell 0, (hP1.below b hP1.lt).cell 1, (hP1.below b hP1.lt).cell 2, (hP1.below b hP1.lt).cell 3, (hP1.below b hP1.lt).cell 4, (hP1.below b hP1.lt).cell 5, (hP1.below b hP1.lt).cell 6, (hP1.below b hP1.lt).cell 7, (hP1.below b hP1.lt).cell 9, by rw [(hP1.below b hP1.lt).cell 42, wsCl_42 hs.seed]⟩)
  have KX := Lib.hid (And.intro BX (And.intro hP1 hx1))
  have q1 := Lib.hid (tt_check x.offs s.al s.cl_ x.lines w1 hx1.rl hs.lines hs.line)
  have q2 : Hid (∀ w', Below w1.heap.size w1 w' → Calls Tryz.prog 64 #[.agg #[.slice s.ab x.base.length s.cb, .slice s.ag x.leg.length s.cg, .slice s.at_ x.tiers.length s.ct]] w' (Ret (.int .i64 (tariffE x.base x.leg x.tiers)) w')) := Lib.hid (fun w' b =>
    tariff_check s.ab s.ag s.at_ s.cb s.cg s.ct x.base x.leg x.tiers w' ((hx1.rb.below b).more b.size) ((hx1.rg.below b).more b.size) ((hx1.rt.below b).more b.size) hs.base hs.leg hs.tiers)
  have q3 : Hid (∀ w', Below w1.heap.size w1 w' → Calls Tryz.prog 68 #[.slice s.ao x.orders.length s.co, .func (.func 66) #[] #[.pointer (some ⟨W.heap.size, 0, none⟩)]] w' (Ret (.bool (x.orders.any (fun o => !(o.right x.offs x.people (x.base.length : Int))))) w')) := Lib.hid (fun w' b =>
    contains_odr W.heap.size PB s x s.ao s.co x.orders w' (BX.below b BX.lt) (hP1.below b hP1.lt) (OdrsAt.more (OdrsAt.below hx1.ro b) b.size) hs.orders hs.order)
  have q4 : Hid (∀ w', Below w1.heap.size w1 w' → Calls Tryz.prog 69 #[.slice s.ae x.ents.length s.ce] w' (Ret (.int .i64 (entsE x.ents)) w')) := Lib.hid (fun w' b =>
    registry_check s.ae s.ce x.ents w' ((hx1.re.below b).more b.size) hs.ents hs.ent)
  have q5 : Hid (∀ w', Below w1.heap.size w1 w' → Calls Tryz.prog 71 #[.slice s.as_ x.secs.length s.cs, .func (.func 70) #[] #[]] w' (Same (.bool (x.secs.any (fun n => !secretB n))) w')) := Lib.hid (fun w' b =>
    contains_int s.as_ s.cs x.secs 70 (fun n => !secretB n) w' ((hx1.rs.below b).more b.size) hs.secs (fun n w => secret_not n w) (enters_of Tryz.func70 (by kernel_rfl) rfl))
  have hF := Lib.hid hx1.rf
  have hfn : x.faults.length ≤ 1000000 := hs.faults
  clear BX hb hP1 hx1 hP hx
  have hn : x.orders.length ≤ 1000000 := hs.orders
  have hsn : x.secs.length ≤ 1000000 := hs.secs
  have hpe : Hid (postE x = if tableE x.offs x.lines = 0 then (if tariffE x.base x.leg x.tiers = 0 then (if btw x.people 0 1024 = true then (if x.orders.length ≤ 64 ∧ x.orders.any (fun o => !(o.right x.offs x.people (x.base.length : Int))) = false then (if entsE x.ents = 0 then (if (x.secs.length : Int) = x.offs ∧ x.secs.any (fun n => !secretB n) = false then (if slpsB none x.faults = true then 0 else 530) else 530) else entsE x.ents) else 220) else 530) else tariffE x.base x.leg x.tiers) else tableE x.offs x.lines) := Lib.hid (by
    have e1 : (x.orders.all (fun o => o.right x.offs x.people (x.base.length : Int)) = true) = (x.orders.any (fun o => !(o.right x.offs x.people (x.base.length : Int))) = false) := by
      rw [List.all_eq_not_any_not]; simp
    have e2 : (x.secs.all secretB = true) = (x.secs.any (fun n => !secretB n) = false) := by
      rw [List.all_eq_not_any_not]; simp
    unfold postE
    simp only [e1, e2])
  generalize tableE x.offs x.lines = E1 at *
  generalize tariffE x.base x.leg x.tiers = E2 at *
  generalize x.orders.any (fun o => !(o.right x.offs x.people (x.base.length : Int))) = b3 at *
  generalize entsE x.ents = E4 at *
  generalize x.secs.any (fun n => !secretB n) = b5 at *
  have hv2 := Lib.hid (hpe.out.symm.trans hv.out)
  clear hpe hv
  obtain ⟨p0, d0, d1, d2, d3, d4, d5, d6, d7, d9, d42⟩ := KC.out _ (bRefl w1)
  go_wp2_with fail
  (with_reducible refine q1.out.mono ?_)
  rintro e w2 ⟨rfl, b2⟩
  have B2 := bCall (bRefl w1) b2
  clear b2
  clear p0 d0 d1 d2 d3 d4 d5 d6 d7 d9 d42
  go_wp2_with fail
  by_cases h1 : E1 = 0
  case neg =>
    have hr : Hid (v = E1) := Lib.hid (by rw [← hv2.out, if_neg h1])
    clear hv2
    (with_reducible refine (must_no h1 _).mono ?_)
    rintro e w9 ⟨rfl, rfl⟩
    go_wp2_with fail
    exact ⟨rfl, hbx.out _ B2, .inr ⟨by rw [hr.out]; exact h1, by rw [hr.out]⟩⟩
  subst h1
  rw [if_pos rfl] at hv2
  (with_reducible refine (must_yes _).mono ?_)
  rintro e w9 ⟨rfl, rfl⟩
  obtain ⟨p0, d0, d1, d2, d3, d4, d5, d6, d7, d9, d42⟩ := KC.out _ B2
  go_wp2_with fail
  (with_reducible refine (q2.out _ B2).mono ?_)
  rintro e w3 ⟨rfl, b3⟩
  have B3 := bCall B2 b3
  clear b3
  clear p0 d0 d1 d2 d3 d4 d5 d6 d7 d9 d42
  go_wp2_with fail
  by_cases h2 : E2 = 0
  case neg =>
    have hr : Hid (v = E2) := Lib.hid (by rw [← hv2.out, if_neg h2])
    clear hv2
    (with_reducible refine (must_no h2 _).mono ?_)
    rintro e w9 ⟨rfl, rfl⟩
    go_wp2_with fail
    exact ⟨rfl, hbx.out _ B3, .inr ⟨by rw [hr.out]; exact h2, by rw [hr.out]⟩⟩
  subst h2
  rw [if_pos rfl] at hv2
  (with_reducible refine (must_yes _).mono ?_)
  rintro e w9 ⟨rfl, rfl⟩
  obtain ⟨p0, d0, d1, d2, d3, d4, d5, d6, d7, d9, d42⟩ := KC.out _ B3
  by_cases a1 : 0 ≤ x.people
  case neg =>
    have hr : Hid (v = 530) := Lib.hid (by rw [← hv2.out, if_neg (by unfold btw; simp; omega)])
    clear hv2
    go_wp2_with fail
    (with_reducible refine (need_no 530 (by decide) _).mono ?_)
    rintro e w9 ⟨rfl, rfl⟩
    go_wp2_with fail
    exact ⟨rfl, hbx.out _ B3, .inr ⟨by rw [hr.out]; decide, by rw [hr.out]⟩⟩
  by_cases a2 : x.people ≤ 1024
  case neg =>
    have hr : Hid (v = 530) := Lib.hid (by rw [← hv2.out, if_neg (by unfold btw; simp; omega)])
    clear hv2
    go_wp2_with fail
    rw [decide_eq_false (by omega : ¬ x.people ≤ 1024)]
    (with_reducible refine (need_no 530 (by decide) _).mono ?_)
    rintro e w9 ⟨rfl, rfl⟩
    go_wp2_with fail
    exact ⟨rfl, hbx.out _ B3, .inr ⟨by rw [hr.out]; decide, by rw [hr.out]⟩⟩
  rw [if_pos (by unfold btw; simp; omega)] at hv2
  go_wp2_with fail
  (with_reducible refine (need_yes 530 (by decide) _).mono ?_)
  rintro e w9 ⟨rfl, rfl⟩
  clear a1 a2
  by_cases a3 : 64 < x.orders.length
  case pos =>
    have hr : Hid (v = 220) := Lib.hid (by rw [← hv2.out, if_neg (by omega)])
    have a4 : ¬ (x.orders.length : Int) ≤ 64 := by omega
    clear hv2 a3
    go_wp2_with fail
    (with_reducible refine (need_no 220 (by decide) _).mono ?_)
    rintro e w9 ⟨rfl, rfl⟩
    go_wp2_with fail
    exact ⟨rfl, hbx.out _ B3, .inr ⟨by rw [hr.out]; decide, by rw [hr.out]⟩⟩
  have a4 : (x.orders.length : Int) ≤ 64 := by omega
  have a5 : x.orders.length ≤ 64 := by omega
  clear a3
  go_wp2_with fail
  (with_reducible refine (q3.out _ B3).mono ?_)
  rintro e w4 ⟨rfl, b4⟩
  have B4 := bCall B3 b4
  clear b4
  cases b3
  case true =>
    have hr : Hid (v = 220) := Lib.hid (by rw [← hv2.out, if_neg (by simp)])
    clear hv2
    go_wp2_with fail
    (with_reducible refine (need_no 220 (by decide) _).mono ?_)
    rintro e w9 ⟨rfl, rfl⟩
    go_wp2_with fail
    exact ⟨rfl, hbx.out _ B4, .inr ⟨by rw [hr.out]; decide, by rw [hr.out]⟩⟩
  rw [if_pos ⟨a5, rfl⟩] at hv2
  go_wp2_with fail
  (with_reducible refine (need_yes 220 (by decide) _).mono ?_)
  rintro e w9 ⟨rfl, rfl⟩
  clear p0 d0 d1 d2 d3 d4 d5 d6 d7 d9 d42 a4 a5 q3
  obtain ⟨p0, d0, d1, d2, d3, d4, d5, d6, d7, d9, d42⟩ := KC.out _ B4
  go_wp2_with fail
  (with_reducible refine (q4.out _ B4).mono ?_)
  rintro e w5 ⟨rfl, b5⟩
  have B5 := bCall B4 b5
  clear b5
  clear p0 d0 d1 d2 d3 d4 d5 d6 d7 d9 d42 q4
  go_wp2_with fail
  by_cases h4 : E4 = 0
  case neg =>
    have hr : Hid (v = E4) := Lib.hid (by rw [← hv2.out, if_neg h4])
    clear hv2
    (with_reducible refine (must_no h4 _).mono ?_)
    rintro e w9 ⟨rfl, rfl⟩
    go_wp2_with fail
    exact ⟨rfl, hbx.out _ B5, .inr ⟨by rw [hr.out]; exact h4, by rw [hr.out]⟩⟩
  subst h4
  rw [if_pos rfl] at hv2
  (with_reducible refine (must_yes _).mono ?_)
  rintro e w9 ⟨rfl, rfl⟩
  go_upto_region 8 with fail
  have KS : Hid (∀ w', Below w5.heap.size w5 w' → (w'.cell? ⟨W.heap.size, 0, none⟩ = some (.pointer (some ⟨PB, 0, none⟩)) ∧ w'.cell? ⟨PB, 0, none⟩ = some (.int .i64 x.offs) ∧ w'.cell? ⟨PB, 9, none⟩ = some (.slice s.as_ x.secs.length s.cs))) := Lib.hid (fun w' b => ⟨(KC.out _ (bCall B5 b)).1, (KC.out _ (bCall B5 b)).2.1, (KC.out _ (bCall B5 b)).2.2.2.2.2.2.2.2.2.1⟩)
  generalize ho : x.offs = so at KS hv2
  generalize hl : x.secs.length = sl at KS hv2 q5
  by_cases h5 : (sl : Int) = so
  case neg =>
    have hr : Hid (v = 530) := Lib.hid (by rw [← hv2.out, if_neg (fun h => h5 h.1)])
    clear hv2
    refine wp_region_schNP (g := 0) KS [(0, 2), (1, 1), (2, 1), (3, 1), (4, 2), (5, 1), (6, 2), (7, 1), (8, 1), (9, 1), (10, 1), (11, 2), (12, 1), (13, 1), (14, 1), (15, 1), (16, 1), (17, 1), (18, 1), (19, 1), (20, 1), (21, 1), (22, 1), (23, 0)] ?_
    simp only [pickS, List.getElem?_cons_zero, List.getElem?_cons_succ]
    refine wpSchedN_r ?_
    refine wpSchedN_t ?_
    refine wpSchedN_t ?_
    refine wpSchedN_t ?_
    refine wpSchedN_r ?_
    refine wpSchedN_t ?_
    refine wpSchedN_r ?_
    refine wpSchedN_t ?_
    refine wpSchedN_t ?_
    refine wpSchedN_t ?_
    refine wpSchedN_t ?_
    refine wpSchedN_r ?_
    refine wpSchedN_t (v := .bool false) ?_ (hv := by intro w; go_simp; try simp [h5])
    refine wpSchedN_t ?_
    refine wpSchedN_p ?_
    refine wpSchedN_p ?_
    refine wpSchedN_p ?_
    refine wpSchedN_p ?_
    refine wpSchedN_p ?_
    refine wpSchedN_p ?_
    refine wpSchedN_p ?_
    refine wpSchedN_p ?_
    refine wpSchedN_t ?_
    refine wpSchedN_force (fun K hK => ?_)
    go_simp; (first | (go_at_call 65; (with_reducible refine (need_no 530 (by decide) _).mono ?_); rintro e w9 ⟨rfl, rfl⟩; exact ⟨rfl, hbx.out _ (bCall B5 (bDr (bRefl _))), .inr ⟨by rw [hr.out]; decide, by rw [hr.out]⟩⟩))
  subst h5
  cases b5
  case true =>
    have hr : Hid (v = 530) := Lib.hid (by rw [← hv2.out, if_neg (by simp)])
    clear hv2
    refine wp_region_schNP (g := 0) KS [(0, 2), (1, 1), (2, 1), (3, 1), (4, 2), (5, 1), (6, 2), (7, 1), (8, 1), (9, 1), (10, 1), (11, 2), (12, 1), (13, 1), (14, 2), (15, 1), (16, 1), (17, 1), (18, 2), (19, 1), (20, 0), (21, 1), (22, 1), (23, 0)] ?_
    simp only [pickS, List.getElem?_cons_zero, List.getElem?_cons_succ]
    refine wpSchedN_r ?_
    refine wpSchedN_t ?_
    refine wpSchedN_t ?_
    refine wpSchedN_t ?_
    refine wpSchedN_r ?_
    refine wpSchedN_t ?_
    refine wpSchedN_r ?_
    refine wpSchedN_t ?_
    refine wpSchedN_t ?_
    refine wpSchedN_t ?_
    refine wpSchedN_t ?_
    refine wpSchedN_r ?_
    refine wpSchedN_t ?_
    refine wpSchedN_t ?_
    refine wpSchedN_r ?_
    refine wpSchedN_t ?_
    refine wpSchedN_t ?_
    refine wpSchedN_t ?_
    refine wpSchedN_r ?_
    refine wpSchedN_t ?_
    refine wpSchedN_force (fun K hK => ?_)
    go_simp; (first | (go_at_call 71; (with_reducible refine (q5.out _ (bCall B5 (bDr (bRefl _)))).mono ?_); rintro e w9 ⟨rfl, rfl⟩) | skip)
    refine shut_go hK KS ?_
    clear hK K
    refine wpSchedN_t ?_
    refine wpSchedN_t ?_
    refine wpSchedN_force (fun K hK => ?_)
    go_simp; (first | (go_at_call 65; (with_reducible refine (need_no 530 (by decide) _).mono ?_); rintro e w9 ⟨rfl, rfl⟩; exact ⟨rfl, hbx.out _ (bCall B5 (bDr (bRefl _))), .inr ⟨by rw [hr.out]; decide, by rw [hr.out]⟩⟩))
  refine wp_region_schNP (g := 0) KS [(0, 2), (1, 1), (2, 1), (3, 1), (4, 2), (5, 1), (6, 2), (7, 1), (8, 1), (9, 1), (10, 1), (11, 2), (12, 1), (13, 1), (14, 2), (15, 1), (16, 1), (17, 1), (18, 2), (19, 1), (20, 0), (21, 1), (22, 1), (23, 0)] ?_
  simp only [pickS, List.getElem?_cons_zero, List.getElem?_cons_succ]
  refine wpSchedN_r ?_
  refine wpSchedN_t ?_
  refine wpSchedN_t ?_
  refine wpSchedN_t ?_
  refine wpSchedN_r ?_
  refine wpSchedN_t ?_
  refine wpSchedN_r ?_
  refine wpSchedN_t ?_
  refine wpSchedN_t ?_
  refine wpSchedN_t ?_
  refine wpSchedN_t ?_
  refine wpSchedN_r ?_
  refine wpSchedN_t ?_
  refine wpSchedN_t ?_
  refine wpSchedN_r ?_
  refine wpSchedN_t ?_
  refine wpSchedN_t ?_
  refine wpSchedN_t ?_
  refine wpSchedN_r ?_
  refine wpSchedN_t ?_
  refine wpSchedN_force (fun K hK => ?_)
  go_simp; (first | (go_at_call 71; (with_reducible refine (q5.out _ (bCall B5 (bDr (bRefl _)))).mono ?_); rintro e w9 ⟨rfl, rfl⟩) | (go_at_call 65; (with_reducible refine (need_yes 530 (by decide) _).mono ?_); rintro e w9 ⟨rfl, rfl⟩) | skip)
  refine shut_go hK KS ?_
  clear hK K
  refine wpSchedN_t ?_
  refine wpSchedN_t ?_
  refine wpSchedN_force (fun K hK => ?_)
  go_simp; (first | (go_at_call 71; (with_reducible refine (q5.out _ (bCall B5 (bDr (bRefl _)))).mono ?_); rintro e w9 ⟨rfl, rfl⟩) | (go_at_call 65; (with_reducible refine (need_yes 530 (by decide) _).mono ?_); rintro e w9 ⟨rfl, rfl⟩) | skip)
  refine shut_go hK KS ?_
  clear hK K
  refine anyN_end ?_
  have BD := bCall B5 (bDr (bRefl w5))
  rw [if_pos ⟨by omega, rfl⟩] at hv2
  clear KS q5 hsn hn hs hl ho B5 B4 B3 B2
  generalize w5.drew = w6 at *
  obtain ⟨p0, d0, d1, d2, d3, d4, d5, d6, d7, d9, d42⟩ := KC.out _ BD
  clear d0 d1 d2 d3 d4 d5 d6 d7 d9
  generalize x.faults = l at *
  go_wp2_with fail
  clear p0 d42
  go_loopw [92] (fun i wr => ∃ k : Nat, k ≤ l.length ∧ i = .int .i64 k ∧ Below w1.heap.size w1 wr ∧ Hid (slpsB none l = slpsB (prevS l k) (l.drop k))) (fun i _ => l.length - (intOf i).toNat)
  case atStart => exact ⟨0, Nat.zero_le _, rfl, BD, Lib.hid rfl⟩
  case round =>
    clear BD
    obtain ⟨k, hkn, rfl, hb, hp⟩ := hrel
    by_cases hlt : k < l.length
    · obtain ⟨y, hy⟩ : ∃ y, Hid (l[k]? = some y) := ⟨_, Lib.hid (List.getElem?_eq_getElem hlt)⟩
      obtain ⟨b, off, hAf, hbb, hc⟩ := Cl_at (f := Slp.cl) (fun _ _ => rfl) ((hF.out).below hb) hlt hy.out
      have hst := Lib.hid (hp.out.trans (slps_step hy.out))
      have c0 := hc 0 (by omega)
      have c1 := hc 1 (by omega)
      have c2 := hc 2 (by omega)
      have c3 := hc 3 (by omega)
      simp only [Slp.cl, List.getElem?_cons_zero, List.getElem?_cons_succ, Nat.add_zero] at c0 c1 c2 c3
      have i0 : (0 : Int) ≤ (k : Int) := by omega
      have i1 : (k : Int) < (l.length : Int) := by omega
      rw [hAf]
      have BY := Blk.new wr 71 y.cl.toArray _ rfl
      have hb2 := bAl hb (.cells y.cl.toArray 71)
      have d0 := BY.cell 0
      have d1 := BY.cell 1
      unfold Slp.cl at BY hb2 d0 d1
      simp only [List.getElem?_toArray, List.getElem?_cons_zero, List.getElem?_cons_succ] at d0 d1
      clear hc hp
      by_cases a1 : 0 ≤ y.run
      case neg =>
        have hr : Hid (v = 530) := Lib.hid (by
          have e : slpB y = false := by unfold slpB; simp; omega
          rw [← hv2.out, hst.out, e]
          cases prevS l k <;> simp)
        clear hv2 hst
        go_wp2_with fail
        (with_reducible refine (need_no 530 (by decide) _).mono ?_)
        rintro e w9 ⟨rfl, rfl⟩
        go_wp2_with fail
        exact ⟨rfl, hbx.out _ hb2, .inr ⟨by rw [hr.out]; decide, by rw [hr.out]⟩⟩
      by_cases a2 : 0 ≤ y.leg
      case neg =>
        have hr : Hid (v = 530) := Lib.hid (by
          have e : slpB y = false := by unfold slpB; simp; omega
          rw [← hv2.out, hst.out, e]
          cases prevS l k <;> simp)
        clear hv2 hst
        go_wp2_with fail
        (try rw [decide_eq_false (by omega : ¬ 0 ≤ y.leg)])
        (with_reducible refine (need_no 530 (by decide) _).mono ?_)
        rintro e w9 ⟨rfl, rfl⟩
        go_wp2_with fail
        exact ⟨rfl, hbx.out _ hb2, .inr ⟨by rw [hr.out]; decide, by rw [hr.out]⟩⟩
      have hyb : Hid (slpB y = true) := Lib.hid (by unfold slpB; simp; omega)
      rcases k with _ | j
      · have hp' : Hid (slpsB none l = slpsB (prevS l (0 + 1)) (l.drop (0 + 1))) := Lib.hid (by
          rw [hst.out]; simp only [prevS]; rw [hyb.out, Bool.true_and])
        simp only [Nat.zero_mul, Nat.add_zero] at c0 c1 c2 c3
        have i2 : (0 : Int) < (l.length : Int) := by omega
        clear hst hyb i0 i1
        go_wp2_with fail
        (with_reducible refine (need_yes 530 (by decide) _).mono ?_)
        rintro e w9 ⟨rfl, rfl⟩
        go_wp2_with fail
        exact ⟨⟨0 + 1, by omega, by go_num, hb2, hp'⟩, by simp [intOf]; omega⟩
      · obtain ⟨z, hz⟩ : ∃ z, Hid (l[j]? = some z) := ⟨_, Lib.hid (List.getElem?_eq_getElem (by omega))⟩
        have hst2 : Hid (slpsB none l = (decide (z.run < y.run ∨ z.run = y.run ∧ z.leg < y.leg) && slpsB (prevS l (j + 1 + 1)) (l.drop (j + 1 + 1)))) := Lib.hid (by
          rw [hst.out, show prevS l (j + 1) = some z from hz.out]; simp only [hyb.out, Bool.true_and])
        clear hst hyb
        go_wp2_with fail
        (with_reducible refine (need_yes 530 (by decide) _).mono ?_)
        rintro e w9 ⟨rfl, rfl⟩
        clear c0 c1 c2 c3
        obtain ⟨b2, off2, hAf2, hbb2, hc2⟩ := Cl_at (f := Slp.cl) (fun _ _ => rfl) ((hF.out).below hb2) (by omega : j < l.length) hz.out
        obtain ⟨p0, _, _, _, _, _, _, _, _, _, d42⟩ := KC.out _ hb2
        rw [hAf2] at d42
        have c0 := hc2 0 (by omega)
        have c1 := hc2 1 (by omega)
        have c2 := hc2 2 (by omega)
        have c3 := hc2 3 (by omega)
        simp only [Slp.cl, List.getElem?_cons_zero, List.getElem?_cons_succ, Nat.add_zero] at c0 c1 c2 c3
        have j0 : (0 : Int) < ((j + 1 : Nat) : Int) := by omega
        have jw : IntKind.i64.wrap (((j + 1 : Nat) : Int) - 1) = (j : Int) := by rw [IntKind.wrap_i64]; omega
        have j1 : (0 : Int) ≤ (j : Int) := by omega
        have j2 : (j : Int) < (l.length : Int) := by omega
        have BY2 := (BY.alloc (.cells #[.int .i64 z.run, .int .i64 z.leg, .int .i64 z.kind, .int .i64 z.at_] 71))
        have BZ := Blk.new (wr.alloc (.cells #[.int .i64 y.run, .int .i64 y.leg, .int .i64 y.kind, .int .i64 y.at_] 71)) 71 #[.int .i64 z.run, .int .i64 z.leg, .int .i64 z.kind, .int .i64 z.at_] _ rfl
        have hb3 := bAl hb2 (.cells #[.int .i64 z.run, .int .i64 z.leg, .int .i64 z.kind, .int .i64 z.at_] 71)
        have hyl : wr.heap.size < (wr.alloc (.cells #[.int .i64 y.run, .int .i64 y.leg, .int .i64 y.kind, .int .i64 y.at_] 71)).heap.size := BY.lt
        clear hc2 BY hb2 hAf hAf2 i0 i1 hb a1 a2
        generalize wr.heap.size = yb at *
        generalize wr.alloc (.cells #[.int .i64 y.run, .int .i64 y.leg, .int .i64 y.kind, .int .i64 y.at_] 71) = wy at *
        go_upto_region 15 with fail
        clear p0 d0 d1 d42 c0 c1 c2 c3 j0 jw j1 j2
        generalize wy.heap.size = zb at *
        generalize wy.alloc (.cells #[.int .i64 z.run, .int .i64 z.leg, .int .i64 z.kind, .int .i64 z.at_] 71) = wz at *
        have KS : Hid (∀ w', Below wz.heap.size wz w' → (w'.cell? ⟨zb, 0, none⟩ = some (.int .i64 z.run) ∧ w'.cell? ⟨zb, 1, none⟩ = some (.int .i64 z.leg) ∧ w'.cell? ⟨yb, 0, none⟩ = some (.int .i64 y.run) ∧ w'.cell? ⟨yb, 1, none⟩ = some (.int .i64 y.leg))) := Lib.hid (fun w' b => ⟨(BZ.below b BZ.lt).cell 0, (BZ.below b BZ.lt).cell 1, (BY2.below b BY2.lt).cell 0, (BY2.below b BY2.lt).cell 1⟩)
        clear BY2 BZ
        have qa := Lib.hid (fun w => cmp_compare z.run y.run w)
        have qb := Lib.hid (fun w => cmp_compare z.leg y.leg w)
        have hcm := cmp_two z.run y.run z.leg y.leg
        generalize cmpV z.run y.run = ca at *
        generalize cmpV z.leg y.leg = cb at *
        have qo := Lib.hid (fun (w : World) (g : Nat) (h : Blk w g 3 #[.int .i64 ca, .int .i64 cb]) => cmp_or g ca cb w h)
        generalize (if ca = 0 then cb else ca) = cr at *
        have hBN := Blk.new wz.drew 3 #[.int .i64 ca, .int .i64 cb] wz.heap.size rfl
        by_cases h5 : cr < 0
        · have hp' : Hid (slpsB none l = slpsB (prevS l (j + 1 + 1)) (l.drop (j + 1 + 1))) := Lib.hid (by rw [hst2.out, decide_eq_true (hcm.1 h5), Bool.true_and])
          clear hst2 hcm
          refine wp_region_schNP (g := 0) KS [(0, 1), (1, 2), (2, 1), (3, 2), (5, 1), (6, 1), (7, 2), (8, 1), (9, 1), (10, 2), (4, 0), (11, 0), (12, 0), (13, 0), (14, 1), (15, 0)] ?_
          simp only [pickS, List.getElem?_cons_zero, List.getElem?_cons_succ]
          refine wpSchedN_t ?_
          refine wpSchedN_r ?_
          refine wpSchedN_t ?_
          refine wpSchedN_r ?_
          refine wpSchedN_t ?_
          refine wpSchedN_t ?_
          refine wpSchedN_r ?_
          refine wpSchedN_t ?_
          refine wpSchedN_t ?_
          refine wpSchedN_r ?_
          refine wpSchedN_force (fun K hK => ?_)
          go_simp; (first | (go_at_call 73; (with_reducible refine (qa.out _).mono ?_); rintro e w9 ⟨rfl, rfl⟩) | (go_at_call 73; (with_reducible refine (qb.out _).mono ?_); rintro e w9 ⟨rfl, rfl⟩) | (go_at_call 72; (refine (qo.out _ _ hBN).mono ?_); rintro e w9 ⟨rfl, rfl⟩) | (go_at_call 65; (with_reducible refine (need_yes 530 (by decide) _).mono ?_); rintro e w9 ⟨rfl, rfl⟩) | skip)
          refine shut_go hK KS ?_
          clear hK K
          refine wpSchedN_force (fun K hK => ?_)
          go_simp; (first | (go_at_call 73; (with_reducible refine (qa.out _).mono ?_); rintro e w9 ⟨rfl, rfl⟩) | (go_at_call 73; (with_reducible refine (qb.out _).mono ?_); rintro e w9 ⟨rfl, rfl⟩) | (go_at_call 72; (refine (qo.out _ _ hBN).mono ?_); rintro e w9 ⟨rfl, rfl⟩) | (go_at_call 65; (with_reducible refine (need_yes 530 (by decide) _).mono ?_); rintro e w9 ⟨rfl, rfl⟩) | skip)
          refine shut_go hK KS ?_
          clear hK K
          refine wpSchedN_force (fun K hK => ?_)
          go_simp; (first | (go_at_call 73; (with_reducible refine (qa.out _).mono ?_); rintro e w9 ⟨rfl, rfl⟩) | (go_at_call 73; (with_reducible refine (qb.out _).mono ?_); rintro e w9 ⟨rfl, rfl⟩) | (go_at_call 72; (refine (qo.out _ _ hBN).mono ?_); rintro e w9 ⟨rfl, rfl⟩) | (go_at_call 65; (with_reducible refine (need_yes 530 (by decide) _).mono ?_); rintro e w9 ⟨rfl, rfl⟩) | skip)
          refine shut_go hK KS ?_
          clear hK K
          refine wpSchedN_force (fun K hK => ?_)
          go_simp; (first | (go_at_call 73; (with_reducible refine (qa.out _).mono ?_); rintro e w9 ⟨rfl, rfl⟩) | (go_at_call 73; (with_reducible refine (qb.out _).mono ?_); rintro e w9 ⟨rfl, rfl⟩) | (go_at_call 72; (refine (qo.out _ _ hBN).mono ?_); rintro e w9 ⟨rfl, rfl⟩) | (go_at_call 65; (with_reducible refine (need_yes 530 (by decide) _).mono ?_); rintro e w9 ⟨rfl, rfl⟩) | skip)
          refine shut_go hK KS ?_
          clear hK K
          refine wpSchedN_t ?_
          refine wpSchedN_force (fun K hK => ?_)
          go_simp; (first | (go_at_call 73; (with_reducible refine (qa.out _).mono ?_); rintro e w9 ⟨rfl, rfl⟩) | (go_at_call 73; (with_reducible refine (qb.out _).mono ?_); rintro e w9 ⟨rfl, rfl⟩) | (go_at_call 72; (refine (qo.out _ _ hBN).mono ?_); rintro e w9 ⟨rfl, rfl⟩) | (go_at_call 65; (with_reducible refine (need_yes 530 (by decide) _).mono ?_); rintro e w9 ⟨rfl, rfl⟩) | skip)
          refine shut_go hK KS ?_
          clear hK K
          refine anyN_end ?_
          have hb4 := bAl (bDr hb3) (.cells #[.int .i64 ca, .int .i64 cb] 3)
          clear KS qa qb qo h5 hBN
          go_wp2_with fail
          exact ⟨⟨j + 1 + 1, by omega, by go_num, hb4, hp'⟩, by simp [intOf]; omega⟩
        · have hr : Hid (v = 530) := Lib.hid (by rw [← hv2.out, hst2.out, decide_eq_false (fun h => h5 (hcm.2 h))]; rfl)
          clear hst2 hcm hv2
          refine wp_region_schNP (g := 0) KS [(0, 1), (1, 2), (2, 1), (3, 2), (5, 1), (6, 1), (7, 2), (8, 1), (9, 1), (10, 2), (4, 0), (11, 0), (12, 0), (13, 0), (14, 1), (15, 0)] ?_
          simp only [pickS, List.getElem?_cons_zero, List.getElem?_cons_succ]
          refine wpSchedN_t ?_
          refine wpSchedN_r ?_
          refine wpSchedN_t ?_
          refine wpSchedN_r ?_
          refine wpSchedN_t ?_
          refine wpSchedN_t ?_
          refine wpSchedN_r ?_
          refine wpSchedN_t ?_
          refine wpSchedN_t ?_
          refine wpSchedN_r ?_
          refine wpSchedN_force (fun K hK => ?_)
          go_simp; (first | (go_at_call 73; (with_reducible refine (qa.out _).mono ?_); rintro e w9 ⟨rfl, rfl⟩) | (go_at_call 73; (with_reducible refine (qb.out _).mono ?_); rintro e w9 ⟨rfl, rfl⟩) | (go_at_call 72; (refine (qo.out _ _ hBN).mono ?_); rintro e w9 ⟨rfl, rfl⟩) | skip)
          refine shut_go hK KS ?_
          clear hK K
          refine wpSchedN_force (fun K hK => ?_)
          go_simp; (first | (go_at_call 73; (with_reducible refine (qa.out _).mono ?_); rintro e w9 ⟨rfl, rfl⟩) | (go_at_call 73; (with_reducible refine (qb.out _).mono ?_); rintro e w9 ⟨rfl, rfl⟩) | (go_at_call 72; (refine (qo.out _ _ hBN).mono ?_); rintro e w9 ⟨rfl, rfl⟩) | skip)
          refine shut_go hK KS ?_
          clear hK K
          refine wpSchedN_force (fun K hK => ?_)
          go_simp; (first | (go_at_call 73; (with_reducible refine (qa.out _).mono ?_); rintro e w9 ⟨rfl, rfl⟩) | (go_at_call 73; (with_reducible refine (qb.out _).mono ?_); rintro e w9 ⟨rfl, rfl⟩) | (go_at_call 72; (refine (qo.out _ _ hBN).mono ?_); rintro e w9 ⟨rfl, rfl⟩) | skip)
          refine shut_go hK KS ?_
          clear hK K
          refine wpSchedN_force (fun K hK => ?_)
          go_simp; (first | (go_at_call 73; (with_reducible refine (qa.out _).mono ?_); rintro e w9 ⟨rfl, rfl⟩) | (go_at_call 73; (with_reducible refine (qb.out _).mono ?_); rintro e w9 ⟨rfl, rfl⟩) | (go_at_call 72; (refine (qo.out _ _ hBN).mono ?_); rintro e w9 ⟨rfl, rfl⟩) | skip)
          refine shut_go hK KS ?_
          clear hK K
          refine wpSchedN_t (v := .bool false) ?_ (hv := by intro w; go_simp; try simp [h5])
          refine wpSchedN_force (fun K hK => ?_)
          go_simp; (first | (go_at_call 65; (with_reducible refine (need_no 530 (by decide) _).mono ?_); rintro e w9 ⟨rfl, rfl⟩; exact ⟨rfl, hbx.out _ (bAl (bDr hb3) _), .inr ⟨by rw [hr.out]; decide, by rw [hr.out]⟩⟩))
    · have hr : Hid (v = 0) := Lib.hid (by rw [← hv2.out, hp.out, List.drop_of_length_le (by omega)]; cases prevS l k <;> rfl)
      clear hp hv2
      go_wp2_with fail
      exact bodyPost_ret (results_none rfl _ _ _) rfl ⟨hbx.out _ hb, .inl ⟨hr.out, rfl⟩⟩
end Go.Proofs.YtmbopkcmbiommaaGreatDoor
