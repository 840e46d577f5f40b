/-
  merkle: rows; walked.
-/
import Derived.Test.YtoeobcmmafncmaaDoorMbr
import Derived.Test.YtoeobcmmafncmaaDoorMbt
import Derived.Test.YtoeobcmmafncmaaDoorMag
import Derived.Test.YtoeobcmmafncmaaDoorMbk
import Derived.Sort.CutIn
namespace Go.Proofs.YtoeobcmmafncmaaDoor
open Go.RowKit
attribute [local go_sem] Oper.semAt_some

theorem rows_any (A : Option Addr) (n c : Nat) (w : World) :
    Calls Tryd.prog 66 #[.slice A n c] w fun r w' =>
      r = .returned (.func (.func 80) #[] #[.pointer (some ⟨w.heap.size, 0, none⟩)]) ∧ w' = w.alloc (.cells #[.slice A n c] 102) := by
  have hmf : ∀ (fn : Fn) (first cap : Array Value) (w : World), (Instr.makeFunc fn first cap).run Tryd.prog w = .ok (.func fn first cap) w := fun _ _ _ _ => rfl
  go_enter Tryd.func66, Tryd.ntmps66
  go_wp2
  go_ret
  exact ⟨rfl, rfl⟩
theorem own_keepsC {K : Nat → Prop} {X Y : World} {base : Nat} {e : TypeId} {sz n : Nat} {v : Value} {xs : List Value} (hk : KeepsC K X Y) (hK : ∀ k, base ≤ k → K k) (h : X.ownsRow base e sz v n xs) : Y.ownsRow base e sz v n xs := by
  obtain ⟨h1, h2⟩ := h
  refine ⟨h1, ?_⟩
  rcases h2 with h2 | ⟨g, cap, cur, r0, r1, hg, r2⟩
  · exact .inl h2
  · exact .inr ⟨g, cap, cur, r0, r1, (hk.2 g _ _ _ (hK g r1) hg).trans hg, r2⟩
theorem ShaG.keepsC {K : Nat → Prop} {X Y : World} (h : ShaG X) (hk : KeepsC K X Y) (h1 : K 1) (h2 : K 0) : ShaG Y :=
  ⟨fun i x hx => hk.cell (p := ⟨1, i, none⟩) h1 (h.1 i x hx), fun i x hx => hk.cell (p := ⟨0, i, none⟩) h2 (h.2.1 i x hx), Nat.lt_of_lt_of_le h.2.2.1 hk.1, Nat.lt_of_lt_of_le h.2.2.2 hk.1⟩
theorem Sl.keepsC {K : Nat → Prop} {X Y : World} {B sz n : Nat} {v : Value} {xs : List Value} (h : Sl X B sz v n xs) (hk : KeepsC K X Y) (hK : ∀ k, k < B → K k) : Sl Y B sz v n xs := by
  obtain ⟨A, c, e, hr, h1, h2, h3⟩ := h
  exact ⟨A, c, e, hk.rd hK hr, h1, h2, h3⟩
theorem rowN_ok {l : List (List Nat)} (h : ∀ d ∈ l, dgOk d) : ∀ k, ∀ d ∈ rowN l k, dgOk d
  | 0 => h
  | k + 1 => upN_ok (rowN_ok h k)
theorem leafs_ok (ts : List (List Nat)) : ∀ d ∈ ts.map leafN, dgOk d := fun d hd => by obtain ⟨x, _, rfl⟩ := List.mem_map.1 hd; exact leafN_ok x
/-- Where the rows stand: after k steps the top is still to be found above. -/
def RowsAt (l : List (List Nat)) (k f : Nat) : Prop := k + f = l.length ∧ topN l.length l = topN f (rowN l k) ∧ (rowN l k).length ≤ f + 1 ∧ 0 < (rowN l k).length
theorem RowsAt.next {l : List (List Nat)} {k f : Nat} (h : RowsAt l k f) (h1 : 1 < (rowN l k).length) : RowsAt l (k + 1) (f - 1) := by
  obtain ⟨e, ht, hl, hp⟩ := h
  obtain ⟨f, rfl⟩ : ∃ g, f = g + 1 := ⟨f - 1, by omega⟩
  refine ⟨by omega, ?_, ?_, ?_⟩
  · rw [ht]
    show (if (rowN l k).length ≤ 1 then _ else topN f (upN (rowN l k))) = _
    rw [if_neg (by omega)]; rfl
  · show (upN (rowN l k)).length ≤ _
    rw [upN_length]; omega
  · show 0 < (upN (rowN l k)).length
    rw [upN_length]; omega
theorem RowsAt.end_ {l : List (List Nat)} {k f : Nat} (h : RowsAt l k f) (h1 : ¬ 1 < (rowN l k).length) : topN l.length l = (rowN l k).headD [] := by
  obtain ⟨e, ht, hl, hp⟩ := h
  rw [ht]
  cases f with
  | zero => rfl
  | succ f =>
    show (if (rowN l k).length ≤ 1 then (rowN l k).headD [] else _) = _
    rw [if_pos (by omega)]

set_option maxRecDepth 100000 in
set_option maxHeartbeats 4000000 in
theorem rows_stops (bp bd : Nat) (A : Option Addr) (c : Nat) (ts : List (List Nat)) (vs : List Value) (w : World) (hbd : bd < w.heap.size) (hB : Blk w bp 102 #[.slice A ts.length c])
    (hA : Rd w bd 1 A ts.length vs) (hT : ∀ (k : Nat) (u : Value) (t : List Nat), vs[k]? = some u → ts[k]? = some t → Sl w bd 1 u t.length (byts t)) (hok : ∀ t ∈ ts, okB t ∧ 0 < t.length ∧ t.length ≤ 100000000000) (h00 : 0 < ts.length) (hn : ts.length ≤ 1000) (hG : ShaG w) (hg1 : 1 < bd ∧ 0 < bd) :
    SeqG (2 + 1) Tryd.prog 80 #[.pointer (some ⟨bp, 0, none⟩)] (fun v : Value => #[v]) (KeepsC (fun k => k ≠ bd)) (fun ys => ∃ k, ys.length = k + 1 ∧ topN ts.length (ts.map leafN) = (rowN (ts.map leafN) k).headD []) (fun _ => True) (ts.length + 1) w
      (fun pre v W => Sl W W.heap.size 32 v (rowN (ts.map leafN) pre.length).length ((rowN (ts.map leafN) pre.length).flatMap byts) ∧ 0 < (rowN (ts.map leafN) pre.length).length) := by
  intro L J Jx W hW hJ _ hY h0
  replace hB := hB.below hW hB.lt
  replace hA := hA.below (hW.mono (Nat.le_of_lt hbd))
  replace hT : ∀ (k : Nat) (u : Value) (t : List Nat), vs[k]? = some u → ts[k]? = some t → Sl W bd 1 u t.length (byts t) := fun k u t hu ht => (hT k u t hu ht).below (hW.mono (Nat.le_of_lt hbd))
  replace hG := hG.below hW
  replace hbd : bd < W.heap.size := Nat.lt_of_lt_of_le hbd hW.size
  clear hW
  refine callsIn_of_wp Tryd.func80 rfl trivial ?_ rfl
  simp only [Tryd.ntmps80, List.size_toArray, List.length_cons, List.length_nil, Nat.reduceAdd, Nat.reduceSub, Array.replicate_succ, Array.replicate_zero, List.push_toArray, List.append_toArray, List.nil_append, List.cons_append]
  have c1 : W.cell? ⟨bp, 0, none⟩ = some (.slice A ts.length c) := hB.cell 0
  replace hT := Lib.hid hT
  replace hok := Lib.hid hok
  replace hY := Lib.hid hY
  gi_wp2
  gi_loopw [8, 3] (fun i row wr => ∃ (k : Nat) (v : Value), i = .int .i64 k ∧ row = v ∧ k ≤ ts.length ∧ Below W.heap.size W wr ∧ wr.ownsRow W.heap.size 30 32 v k (((ts.take k).map leafN).flatMap byts)) (fun i _ _ => ts.length - (intOf i).toNat)
  case atStart => exact ⟨0, _, rfl, rfl, Nat.zero_le _, bRefl _, World.ownsRow_nil _ _ _ _⟩
  case round =>
    clear c1
    obtain ⟨k, v, rfl, rfl, hk, hb, hown⟩ := hrel
    by_cases hlt : k < ts.length
    · obtain ⟨t, ht⟩ : ∃ x, Hid (ts[k]? = some x) := ⟨_, Lib.hid (List.getElem?_eq_getElem hlt)⟩
      obtain ⟨b, off, rfl, hbb, hc⟩ := (hA.below (hb.mono (Nat.le_of_lt hbd))).2 (by omega)
      have hvl : vs.length = ts.length := by have := hA.1; omega
      obtain ⟨u, hu⟩ : ∃ x, Hid (vs[k]? = some x) := ⟨_, Lib.hid (List.getElem?_eq_getElem (by omega))⟩
      have d0 := hc k u hu.out
      clear hc
      obtain ⟨At, ct, rfl, hRt, _⟩ := (hT.out k u t hu.out ht.out).below (hb.mono (Nat.le_of_lt hbd))
      obtain ⟨ho1, ho2, ho3⟩ := hok.out t (List.mem_of_getElem? ht.out)
      have q := mk_leaf At ct t wr (hRt.more (by have := hb.size; omega)) ho1 ho2 ho3 (hG.below hb)
      unfold dig at q
      have hsn : Hid (((ts.take (k + 1)).map leafN).flatMap byts = ((ts.take k).map leafN).flatMap byts ++ byts (leafN t)) := by
        obtain ⟨hk, rfl⟩ := List.getElem?_eq_some_iff.1 ht.out
        show _ = _
        rw [List.take_succ_eq_append_getElem hk, List.map_append, List.flatMap_append]; simp
      have hN : (leafN t).length = 32 := leafN_len t
      have hlN : (byts (leafN t)).length = 32 := by rw [byts_length, hN]
      have h63 : k + 1 ≤ maxLen := by unfold maxLen; omega
      have hby : (k + 1) * 32 ≤ 140737488355328 := by omega
      generalize leafN t = D at *
      generalize ((ts.take k).map leafN).flatMap byts = X at *
      refine wpIn_wide.2 ?_
      go_wp2_with fail
      (with_reducible refine q.mono ?_)
      rintro e w5 ⟨rfl, b5⟩
      replace hown := ownsRow_keep hown b5
      replace hb := bCall hb b5
      have hs5 := hb.size
      clear q b5 d0
      go_wp2_with (at_builtin; rw [build_dig hN]; refine wpList_append1G w5 (byts D) (.tmp 12) (.tmp 15) 136 W.heap.size 30 zeroD 32 32 _ k X (by rfl) (by rfl) Tryd.underlying136 dig_info3 rfl (by omega) (by rfl) hown (by rfl) hlN byts_oneCell h63 hby hs5 ?_; intro v' w' hown4 hg4)
      exact ⟨⟨k + 1, v', by go_num, rfl, by omega, hb.trans (hg4.below hown hs5), by rw [hsn.out]; exact hown4⟩, by simp [intOf]; omega⟩
    · have hkn : k = ts.length := by omega
      subst hkn
      rw [List.take_length] at hown
      have hJ1 := hJ _ _ _ none h0 (grownBy_below hb none) (by intro r e; cases e)
      have hG1 := hG.below hb
      have hs1 := hb.size
      have hl0 : Hid (ts.length = (ts.map leafN).length) := Lib.hid (by simp)
      have hle := leafs_ok ts
      have hrt : Hid (RowsAt (ts.map leafN) 0 ts.length) := Lib.hid ⟨by rw [← hl0.out]; omega, by rw [← hl0.out]; rfl, by show (ts.map leafN).length ≤ _; rw [← hl0.out]; omega, by show 0 < (ts.map leafN).length; rw [← hl0.out]; exact h00⟩
      clear hT hok hB hA h0
      generalize hle0 : ts.map leafN = l0 at *
      replace hle0 := Lib.hid hle0
      gi_wp2
      gi_loopw [3] (fun row wr => ∃ (pre : List Value) (k f n : Nat) (v : Value), row = v ∧ Hid (pre.length = k ∧ RowsAt l0 k f ∧ (rowN l0 k).length = n) ∧ n ≤ 1000 ∧ wr.ownsRow W.heap.size 30 32 v n ((rowN l0 k).flatMap byts) ∧ ShaG wr ∧ W.heap.size ≤ wr.heap.size ∧ J pre wr) (fun row _ => rowLen row)
      case atStart => exact ⟨[], 0, ts.length, ts.length, _, rfl, Lib.hid ⟨rfl, hrt.out, hl0.out.symm⟩, hn, hown, hG1, hs1, hJ1⟩
      case round =>
        clear hown hG1 hs1 hJ1 hb hG
        obtain ⟨pre, k, f, n, v, rfl, hh, hn1, hown, hG, hsz, hJ1⟩ := hrel
        obtain ⟨A2, c2, rfl, hR2, hc, hc2, hnil⟩ := Sl.of_own hown
        have hY1 := hY.out pre (.slice A2 n c2) wr hJ1 (by
          obtain ⟨e1, e2, e3⟩ := hh.out
          rw [e1, e3]
          exact ⟨⟨A2, c2, rfl, hR2, hc, hc2, hnil⟩, by have := e2.2.2.2; omega⟩) (by obtain ⟨e1, e2, e3⟩ := hh.out; have := e2.1; have := hl0.out; omega)
        obtain ⟨fn, tmps, assign, body, hy, hR⟩ := hY1
        replace hy := hy
        by_cases h1 : 1 < n
        · gi_wp2
          refine hR.mono ?_
          rintro e W3 (⟨rfl, hJ3, hk3⟩ | ⟨rfl, hJx3⟩)
          · have hown3 := own_keepsC hk3 (fun k hk => by omega) hown
            have hG3 := hG.keepsC hk3 (Nat.ne_of_lt hg1.1) (Nat.ne_of_lt hg1.2)
            have hs3 := Nat.le_trans hsz hk3.1
            obtain ⟨A3, c3, he, hR3, hc3, hc33, hnil3⟩ := Sl.of_own hown3
            injection he with he1 he2 he3
            subst he1; subst he3
            have q := mk_up A2 c2 (rowN l0 k) W3 (by rw [hh.out.2.2]; exact hR3) (rowN_ok hle k) (by rw [hh.out.2.2]; exact hn1) (by rw [hh.out.2.2]; exact hc) hc2 (by rw [hh.out.2.2]; exact hnil) hG3
            rw [hh.out.2.2] at q
            clear hy hown hown3 hR2 hR3
            have hun : Hid ((upN (rowN l0 k)).length = (n + 1) / 2) := Lib.hid (by rw [upN_length, hh.out.2.2])
            gi_wp2
            refine ⟨trivial, ?_⟩
            (with_reducible refine (callsIn_wide.2 q).mono ?_)
            rintro e w5 ⟨v5, rfl, b5, hown5⟩
            have hJ5 := hJ _ _ _ none hJ3 (grownBy_below b5 none) (by intro r e; cases e)
            have hG5 := hG3.below b5
            have hs5 := Nat.le_trans hs3 b5.size
            have hown6 := own_base hown5 hs3
            clear q
            gi_wp2
            obtain ⟨e1, e2, e3⟩ := hh.out
            refine ⟨⟨pre ++ [.slice A2 n c2], k + 1, f - 1, (n + 1) / 2, v5, rfl, Lib.hid ⟨by rw [List.length_append, e1]; rfl, e2.next (by rw [e3]; exact h1), hun.out⟩, by omega, by rw [hun.out] at hown6; exact hown6, hG5, hs5, hJ5⟩, ?_⟩
            obtain ⟨A6, c6, rfl, _⟩ := Sl.of_own hown6
            show (upN (rowN l0 k)).length < n
            rw [hun.out]; omega
          · gi_wp2
            go_end0
            exact ⟨⟨_, rfl⟩, .inr ⟨_, trivial, hJx3⟩⟩
        · gi_wp2
          refine hR.mono ?_
          rintro e W3 (⟨rfl, hJ3, hk3⟩ | ⟨rfl, hJx3⟩)
          · gi_wp2
            go_end0
            obtain ⟨e1, e2, e3⟩ := hh.out
            exact ⟨⟨_, rfl⟩, .inl ⟨_, ⟨k, by rw [List.length_append, e1]; rfl, by rw [hle0.out, hl0.out]; exact e2.end_ (by rw [e3]; exact h1)⟩, hJ3⟩⟩
          · gi_wp2
            go_end0
            exact ⟨⟨_, rfl⟩, .inr ⟨_, trivial, hJx3⟩⟩
end Go.Proofs.YtoeobcmmafncmaaDoor

/-
  A store of a long array inside a walk of wpIn.
-/
namespace Go.Proofs.YtoeobcmmafncmaaDoor
open Go.RowKit

theorem wpListIn_store {F : Fence} {n : Nat} {P : Program} {ops : Array Oper} {rest : List Oper} {o : Oper} {a : Act} {w w' : World} {Q : Exit → Act → World → Prop} (hgd : o.guard = none) {ty : TypeId} {x y : Operand} (ho : o.op = .store ty x y) {q v : Value} (hx : a.eval x = q) (hy : a.eval y = v)
    (hl : (Instr.storeAt ty q v).run P w = .ok () w') (h : wpListIn F n P ops Q rest (a.put o.dst undef) w') : wpListIn F n P ops Q (o :: rest) a w :=
  wpListIn_plain hgd fun K hK => by
    refine ⟨fun f hf => (by unfold Oper.about at hf; rw [ho] at hf; cases hf), ?_⟩
    have e : (execOp a.eval o).run P w = .ok .skip w' := by
      unfold execOp
      rw [ho]
      simp only [Sem.run_bind, hx, hy, hl, Result.andThen_ok, Sem.run_pure]
    have hs : o.semAt F.round a.eval = execOp a.eval o := by
      cases F.round with
      | none => rfl
      | some l => exact Oper.semAt_some _ _ _ (by rw [ho]; intro c h; cases h)
    rw [hs, e]
    exact hK _ _ h
theorem store_row {P : Program} {w : World} {g : Nat} {t ty : TypeId} {old X : Array Value} (h : Blk w g t old) (hi : (P.info? ty).map (·.size) = some X.size) (ho : old.size = X.size) (h1 : X.all (·.oneCell') = true) :
    (Instr.storeAt ty (.pointer (some ⟨g, 0, none⟩)) (.agg X)).run P w = .ok () (w.setRow g X) := by
  simp only [Instr.storeAt, Instr.sureAddr, Sem.run_bind, Sem.run_pure, Result.andThen_ok, run_storeVar_row w g t ty old X h hi ho h1]
theorem store_fresh {P : Program} {w : World} {t ty : TypeId} {old X : Array Value} (hi : (P.info? ty).map (·.size) = some X.size) (ho : old.size = X.size) (h1 : X.all (·.oneCell') = true) :
    (Instr.storeAt ty (.pointer (some ⟨w.heap.size, 0, none⟩)) (.agg X)).run P (w.alloc (.cells old t)) = .ok () (w.alloc (.cells X t)) := by
  rw [store_row (Blk.new w t old _ rfl) hi ho h1, setRow_alloc]
end Go.Proofs.YtoeobcmmafncmaaDoor

/-
  merkle.Root, handover.Root; walked.
-/
namespace Go.Proofs.YtoeobcmmafncmaaDoor
open Go.RowKit
attribute [local go_sem] Oper.semAt_some

/-- The digest that is kept after some rows. -/
def headRow (l : List (List Nat)) : Nat → List Nat
  | 0 => zerosN 32
  | n + 1 => (rowN l n).headD []
theorem headRow_len {l : List (List Nat)} (h : ∀ d ∈ l, dgOk d) (h0 : 0 < l.length) : ∀ n, (headRow l n).length = 32
  | 0 => by simp [headRow, zerosN]
  | n + 1 => by
    have hp : ∀ n, 0 < (rowN l n).length := fun n => by
      induction n with
      | zero => exact h0
      | succ n ih => show 0 < (upN (rowN l n)).length; rw [upN_length]; omega
    show ((rowN l n).headD []).length = 32
    have := hp n
    match hr : rowN l n with
    | [] => rw [hr] at this; simp at this
    | x :: r => exact (rowN_ok h n x (by rw [hr]; simp)).1
theorem KeepsC.of_grown {X Y : World} {row : Option Nat} {B : Nat} (hg : X.grownBy Y row) (hr : ∀ r, row = some r → B ≤ r ∧ ∃ o : Obj, X.heap[r]? = some o ∧ o.isCells = false) : KeepsC (fun _ => True) X Y :=
  ⟨hg.size, fun k t cs fr _ hc => hg.block k (Array.getElem?_eq_some_iff.1 hc).1 (fun e => by
    obtain ⟨_, o, ho, hn⟩ := hr k e.symm
    rw [hc] at ho; cases ho; cases hn)⟩
theorem grownBy_setRow (w : World) (g : Nat) (cs : Array Value) : w.grownBy (w.setRow g cs) (some g) := ⟨rfl, rfl, rfl, by simp, fun k _ hk => setRow_other w g k cs (fun e => hk (by rw [e]))⟩
set_option maxRecDepth 100000 in
set_option maxHeartbeats 4000000 in
theorem mk_root (A : Option Addr) (c : Nat) (ts : List (List Nat)) (vs : List Value) (W : World) (hA : Rd W W.heap.size 1 A ts.length vs) (hT : ∀ (k : Nat) (u : Value) (t : List Nat), vs[k]? = some u → ts[k]? = some t → Sl W W.heap.size 1 u t.length (byts t))
    (hok : ∀ t ∈ ts, okB t ∧ 0 < t.length ∧ t.length ≤ 100000000000) (hn : ts.length ≤ 1000) (hG : ShaG W) :
    Calls Tryd.prog 37 #[.slice A ts.length c] W (Ret (dig (rootN ts)) W) := by
  refine calls_of_wp_dm Tryd.func37 rfl ?_
  simp only [Tryd.ntmps37, List.size_toArray, List.length_cons, List.length_nil, Nat.reduceAdd, Nat.reduceSub, Array.replicate_succ, Array.replicate_zero, List.push_toArray, List.append_toArray, List.nil_append, List.cons_append]
  go_upto_region 1 with fail
  change Code.wp _ _ _ _ (W.alloc (.cells (byts (zerosN 32)).toArray 30))
  have BD := Blk.new W 30 (byts (zerosN 32)).toArray _ rfl
  have hb := bAl (bRefl W) (.cells (byts (zerosN 32)).toArray 30)
  generalize W.alloc (.cells (byts (zerosN 32)).toArray 30) = w1 at *
  by_cases h0 : ts = []
  · subst h0
    have hr : Hid (dig (rootN []) = .agg (byts (taggedN nooS [])).toArray) := Lib.hid rfl
    have hln : (taggedN nooS []).length = 32 := taggedN_len _ _
    have q := tagged_any ⟨#[110, 111, 110, 101]⟩ none 0 0 [] w1 Rd.nil_ (fun _ => ⟨rfl, rfl⟩) (by intro x hx; cases hx) (by decide) (by decide) (hG.below hb)
    have hnoo : sb ⟨#[110, 111, 110, 101]⟩ = nooS := by decide
    rw [hnoo] at q
    unfold dig at q
    generalize taggedN nooS [] = X at *
    clear hnoo hT hok hA
    go_wp2_with fail
    (with_reducible refine q.mono ?_)
    rintro e w5 ⟨rfl, b5⟩
    have hb5 := bCall hb b5
    have BD5 := BD.below b5 BD.lt
    clear q
    dsimp only
    go_step
    refine wpList_store_row rfl 30 (.tmp 2) (.tmp 7) rfl W.heap.size (byts X).toArray rfl rfl 30 _ BD5 (by rw [List.size_toArray, byts_length, hln]; exact dig_info) (by rw [List.size_toArray, List.size_toArray, byts_length, byts_length, hln]; rfl) (byts_one _) ?_
    have hb9 := below_setRow hb5 (Nat.le_refl _) (byts X).toArray
    have BD9 : Blk (w5.setRow W.heap.size (byts X).toArray) W.heap.size 30 (byts X).toArray := setRow_heap w5 W.heap.size _ _ 30 _ BD5
    go_wp2_with fail
    exact ⟨.agg (byts X).toArray, results_cell_row rfl _ _ W.heap.size 30 _ (0, 0) _ rfl BD9 dig_under rfl (by rw [List.size_toArray, byts_length, hln]; exact dig_info), by rw [← hr.out], hb9⟩
  · have h00 : 0 < ts.length := by
      rcases Nat.eq_zero_or_pos ts.length with h | h
      · exact absurd (List.eq_nil_of_length_eq_zero h) h0
      · exact h
    have hr : Hid (rootN ts = topN ts.length (ts.map leafN)) := Lib.hid (by unfold rootN; rw [if_neg h0])
    have hle := leafs_ok ts
    have hl0 : 0 < (ts.map leafN).length := by simpa using h00
    have hg12 : 1 < W.heap.size ∧ 0 < W.heap.size := hG.2.2
    have q := rows_any A ts.length c w1
    go_wp2_with fail
    (with_reducible refine q.mono ?_)
    rintro e w2 ⟨rfl, rfl⟩
    have BP := Blk.new w1 102 #[.slice A ts.length c] _ rfl
    have hb2 := bAl hb (.cells #[.slice A ts.length c] 102)
    have BD2 := BD.alloc (.cells #[.slice A ts.length c] 102)
    clear q
    generalize w1.alloc (.cells #[.slice A ts.length c] 102) = w2 at *
    have hseq := rows_stops w1.heap.size W.heap.size A c ts vs w2 BD2.lt BP (hA.below hb2) (fun k u t hu ht => (hT k u t hu ht).below hb2) hok h00 hn (hG.below hb2) hg12
    generalize ts.map leafN = l0 at *
    generalize w1.heap.size = bp at *
    clear BP BD hb hA hT hok
    go_wp2_with fail
    refine wp_rangeFuncG 2 (gf := 80) (lb := #[.pointer (some ⟨bp, 0, none⟩)]) rfl (enters_of Tryd.func80 (by kernel_rfl) rfl) (w0 := w2) hseq KeepsC.trans (fun W l o o' _ hl ho _ => KeepsC.put W l o o' hl ho) (bRefl _) (fun _ => rfl)
      (fun pre W' => Below W.heap.size W W' ∧ Blk W' W.heap.size 30 (byts (headRow l0 pre.length)).toArray)
      (fun x a₁ pre W' => ((Below W.heap.size W W' ∧ Blk W' W.heap.size 30 (byts (headRow l0 pre.length)).toArray) ∧ (∃ B, Sl W' B 32 x (rowN l0 pre.length).length ((rowN l0 pre.length).flatMap byts)) ∧ 0 < (rowN l0 pre.length).length) ∧ a₁ = { tmps := #[.slice A ts.length c, undef, .pointer (some ⟨W.heap.size, 0, none⟩), x, .slice A ts.length c, .int .i64 ts.length, .bool false, undef, .slice A ts.length c, .func (.func 80) #[] #[.pointer (some ⟨bp, 0, none⟩)], x, undef, undef, undef, undef], defers := [] })
      (fun _ _ _ => False)
      (fun pre A' B' row h hg hr => ⟨bGrown h.1 hg hb2.size hr, h.2.kept hg hr⟩)
      (fun x a pre A' B' row h hg hr => ⟨⟨⟨bGrown h.1.1.1 hg hb2.size hr, h.1.1.2.kept hg hr⟩, by obtain ⟨B, hS⟩ := h.1.2.1; exact ⟨B, hS.keepsC (KeepsC.of_grown hg hr) (fun _ _ => trivial)⟩, h.1.2.2⟩, h.2⟩)
      (fun _ _ _ _ _ h _ _ => h)
      ⟨hb2, BD2⟩ ?assign ?body ?done ?stop
    case assign =>
      rintro L pre x Wc hI ⟨hS, hp⟩ hlen
      gi_wp2
      exact ⟨KeepsOthers.refl _, KeepsC.refl _ _, ⟨hI, ⟨_, hS⟩, hp⟩, trivial⟩
    case body =>
      rintro L pre x a₁ Wc ⟨⟨⟨hbc, BDc⟩, ⟨B, A2, c2, rfl, hR, hc, hc2, _⟩, hp⟩, rfl⟩ hlen
      obtain ⟨b, off, rfl, hbb, hcc⟩ := hR.2 hp
      obtain ⟨d, r, hdr⟩ : ∃ d r, rowN l0 pre.length = d :: r := by
        match hr : rowN l0 pre.length with
        | [] => rw [hr] at hp; simp at hp
        | x :: r => exact ⟨x, r, rfl⟩
      have hd : dgOk d := rowN_ok hle pre.length d (by rw [hdr]; simp)
      have hld : (byts d).length = 32 := by rw [byts_length, hd.1]
      have hlc := headRow_len hle hl0 pre.length
      have hrun := load_dig (w := Wc) (b := b) (o := off) hd.1 (fun j u hu => hcc j u (by
        have hj : j < (byts d).length := (List.getElem?_eq_some_iff.1 hu).1
        rw [hdr, List.flatMap_cons, List.getElem?_append_left hj]; exact hu))
      have hst := store_row (P := Tryd.prog) (w := Wc) (ty := 30) (X := (byts d).toArray) BDc (by rw [List.size_toArray, hld]; exact dig_info) (by rw [List.size_toArray, List.size_toArray, byts_length, hlc, hld]) (byts_one _)
      have hi0 : (0 : Int) < ((rowN l0 pre.length).length : Int) := by omega
      have hhd : Hid (headRow l0 (pre.length + 1) = d) := by show (rowN l0 pre.length).headD [] = d; rw [hdr]; rfl
      clear hdr hcc hR
      generalize (rowN l0 pre.length).length = n at *
      gi_upto_region 5 with fail
      apply wpIn_region_lit
      iterate 6 gi_step
      refine wpListIn_load rfl rfl rfl hrun ?_
      refine wpListIn_store rfl rfl rfl rfl hst ?_
      refine wpListIn_nil ?_
      refine ⟨KeepsOthers.of_grownBy (grownBy_setRow _ _ _) (fun j o e ho => by cases e; unfold Blk at BDc; rw [BDc] at ho; cases ho; rfl), ⟨by simp, fun k t cs fr hk hcx => setRow_other _ _ _ _ hk⟩, below_setRow hbc (Nat.le_refl _) _, ?_⟩
      rw [List.length_append]
      show Blk _ _ _ (byts (headRow l0 (pre.length + 1))).toArray
      rw [hhd.out]
      exact setRow_heap _ _ _ _ _ _ BDc
    case done =>
      rintro D xs Wc hD ⟨k, hk, htop⟩ ⟨hbc, BDc⟩ hd
      rw [hk] at BDc
      have hX : Hid (rootN ts = headRow l0 (k + 1)) := by show _ = _; rw [hr.out]; exact htop
      have hlX := headRow_len hle hl0 (k + 1)
      generalize headRow l0 (k + 1) = X at *
      have hD' : W.heap.size ≤ D := Nat.le_trans hb2.size hD
      go_upto_region 6 with fail
      apply wp_region_lit
      refine wpList_load_row rfl 30 (.tmp 2) rfl W.heap.size rfl 30 _ (0, 0) _ BDc dig_under rfl (by rw [List.size_toArray, byts_length, hlX]; exact dig_info) ?_
      simp only [Act.put, List.setIfInBounds_toArray, List.set_cons_zero, List.set_cons_succ]
      refine wpList_store_row rfl 30 (.tmp 2) (.tmp 14) rfl W.heap.size (byts X).toArray rfl rfl 30 _ BDc (by rw [List.size_toArray, byts_length, hlX]; exact dig_info) rfl (byts_one _) ?_
      have hb9 := below_setRow hbc (Nat.le_refl _) (byts X).toArray
      have hdd : (Wc.setRow W.heap.size (byts X).toArray).heap[D]? = some (.deferred (some [])) := by
        rw [setRow_other _ _ _ _ (by intro e; subst e; unfold Blk at BDc; rw [BDc] at hd; cases hd)]; exact hd
      have BD9 : Blk (Wc.setRow W.heap.size (byts X).toArray) W.heap.size 30 (byts X).toArray := setRow_heap Wc W.heap.size _ _ 30 _ BDc
      have BD10 := BD9.put (o' := .deferred none) hdd rfl
      go_wp2_with fail
      refine leavesM_mark (by simp) hdd ?_
      exact ⟨.agg (byts X).toArray, results_cell_row rfl _ _ W.heap.size 30 _ (0, 0) _ rfl BD10 dig_under rfl (by rw [List.size_toArray, byts_length, hlX]; exact dig_info), by rw [hX.out]; rfl, bPut hb9 hD' _⟩
    case stop =>
      rintro D c' pre Wc _ _ h _
      exact h.elim
end Go.Proofs.YtoeobcmmafncmaaDoor
