/- reports.Read; walked. -/
import Derived.Test.YtmbopkcmbiommaaGreatDoorRbj
import Derived.Test.YtmbopkcmbiommaaGreatDoorRap
import Derived.Test.YtmbopkcmbiommaaGreatDoorRbf
import Derived.Sort.CutIn
import Derived.Laws.CopyOwn
import Derived.Test.YtmbopkcmbiommaaGreatDoorRbh
set_option maxRecDepth 1000000
set_option maxHeartbeats 16000000
namespace Go.Proofs.YtmbopkcmbiommaaGreatDoor
open Go Go.RowKit
attribute [local go_sem] Oper.semAt_some
def nilRS : RS := ⟨nilWS, [], []⟩
theorem rows_zero {w : World} {base : Nat} : RowsAt w base 0 (fun _ => 9) nilRS zeroW := by
  refine ⟨rfl, rfl, fun t r h => ?_, fun k s y h _ => (by cases h), fun k u y h _ => (by cases h)⟩
  have hr : r.n = 0 ∧ r.v = .slice none 0 0 ∧ r.xs = [] := by
    unfold rowQ at h
    simp only [show ∀ i : Nat, nilRS.ls[i]? = none from fun i => by simp [nilRS]] at h
    repeat' (split at h)
    all_goals first | (cases h; exact ⟨rfl, rfl, rfl⟩) | cases h
  obtain ⟨h1, h2, h3⟩ := hr
  exact ⟨⟨⟨by rw [h3, h1]; simp, .inl ⟨h2, h1⟩⟩, fun g e => by rw [h2] at e; cases e⟩, by omega⟩
theorem St_zero {w : World} {R base : Nat} (B : Blk w R 87 (nilWS.cl zeroW ++ [Value.string ⟨#[]⟩]).toArray) (h : base ≤ R) : StAt w R base 0 (fun _ => 9) nilRS zeroW ⟨#[]⟩ :=
  ⟨B, rfl, h, rfl, fun u hu => by
    have := List.eq_of_mem_replicate hu
    omega, rows_zero⟩
theorem StAt.kept {A B : World} {R base m N : Nat} {o : Nat → Nat} {q : RS} {x : Wld} {last : ByteArray} {row : Option Nat} (h : StAt A R base m o q x last) (hg : A.grownBy B row) (hr : ∀ r, row = some r → N ≤ r ∧ ∃ o : Obj, A.heap[r]? = some o ∧ o.isCells = false) : StAt B R base m o q x last := by
  have kc : ∀ g cs t f, A.heap[g]? = some (Obj.cells cs t f) → B.heap[g]? = some (Obj.cells cs t f) := fun g cs t f hc => (hg.block g (Array.getElem?_eq_some_iff.1 hc).1 (fun e => by
    obtain ⟨_, o2, h2, h3⟩ := hr g e.symm
    rw [hc] at h2
    injection h2 with h2
    subst h2
    cases h3)).trans hc
  have kw : ∀ {t : Nat} {r : Rwn}, Own A base o t r → Own B base o t r := fun hO => ⟨⟨hO.own.1, by
    rcases hO.own.2 with h2 | ⟨g, cap, cur, hv, hb, hh, q⟩
    · exact .inl h2
    · exact .inr ⟨g, cap, cur, hv, hb, kc _ _ _ _ hh, q⟩⟩, hO.tag⟩
  have kr : ∀ {A0 : Option Addr} {n : Nat} {xs : List Value}, RdO A o A0 n xs → RdO B o A0 n xs := fun hd => ⟨⟨hd.rd.1, fun h0 => by
    obtain ⟨b, off, e, hb, hc⟩ := hd.rd.2 h0
    refine ⟨b, off, e, Nat.lt_of_lt_of_le hb hg.size, fun j u hu => ?_⟩
    have h1 := hc j u hu
    unfold World.cell? at h1 ⊢
    cases hA : A.heap[b]? with
    | none => simp only [hA] at h1; cases h1
    | some ob =>
      cases ob with
      | cells cs t f => simp only [kc _ _ _ _ hA]; simpa only [hA] using h1
      | _ => simp only [hA] at h1; cases h1⟩, hd.tag⟩
  exact ⟨kc _ _ _ _ h.blk, h.oR, h.bR, h.sd, h.so, h.ra.lq, h.ra.vq, fun t r e => ⟨kw (h.ra.rows t r e).1, (h.ra.rows t r e).2⟩, fun k s y hs hy => ⟨kr (h.ra.rl k s y hs hy).1, kr (h.ra.rl k s y hs hy).2⟩, fun k u y hu hy => by
    obtain ⟨A0, c, e, hd⟩ := h.ra.rv k u y hu hy
    exact ⟨A0, c, e, kr hd⟩⟩
theorem numsT_len (l : List Int) : l.length ≤ (numsT l).length := by
  induction l with
  | nil => exact Nat.le_refl _
  | cons n l ih => unfold numsT at ih ⊢; rw [List.flatMap_cons, List.length_append, List.length_cons]; have e : (numT n).length = (itB n).length + 1 := rfl; omega
theorem row_len {r : Rw} {l : List Rw} (h : r ∈ l) : r.2.length ≤ (l.flatMap rowT).length := by
  induction l with
  | nil => cases h
  | cons a l ih =>
    rw [List.flatMap_cons, List.length_append]
    rcases List.mem_cons.1 h with rfl | h
    · have := numsT_len r.2
      unfold rowT
      simp only [List.length_append]
      omega
    · have := ih h
      omega
theorem lit_wf {n : Int} (h : okN n = true) : (Lit.int .i64 n).wf = true := by
  rw [okN_iff] at h
  have h1 : IntKind.i64.min = -9223372036854775808 := rfl
  have h2 : IntKind.i64.max = 9223372036854775807 := rfl
  simp only [Lit.wf, h1, h2, Bool.and_eq_true, decide_eq_true_eq]
  omega
theorem small_read {src : By} {x : Wld} (ht : x.text = src) (ho : x.okW = true) (hs : src.length ≤ 1000000) (hseed : x.seed.length = 32) (h1 : x.lines.length ≤ 1000000) (h2 : ∀ y ∈ x.lines, y.rules.length ≤ 1000000 ∧ y.off.length ≤ 1000000) (h3 : x.base.length ≤ 1000000) (h4 : x.leg.length ≤ 1000000) (h5 : x.tiers.length ≤ 1000000) (h6 : x.orders.length ≤ 1000000) (h7 : x.ents.length ≤ 1000000) (h8 : x.secs.length ≤ 1000000) (h9 : x.faults.length ≤ 1000000) : x.small := by
  have hr : ∀ r ∈ x.rows, r.2.length ≤ 1000000 := fun r hr => by
    have := row_len hr
    have e : x.text.length = (headT x).length + (x.rows.flatMap rowT).length := by unfold Wld.text; rw [List.length_append]
    rw [ht] at e
    omega
  have hok : ∀ r ∈ x.rows, okR r = true := fun r hr => by
    unfold Wld.okW at ho
    simp only [Bool.and_eq_true] at ho
    exact List.all_eq_true.1 ho.2 r hr
  have hlin : ∀ y ∈ x.lines, lineR y ∈ x.rows := fun y hy => by
    unfold Wld.rows
    simp only [List.mem_append, List.mem_flatMap]
    exact .inr (.inr (.inl ⟨y, hy, by unfold linR; exact List.mem_cons_self ..⟩))
  have hodr : ∀ y ∈ x.orders, odrR y ∈ x.rows := fun y hy => by
    unfold Wld.rows
    simp only [List.mem_append]
    exact .inr (.inr (.inr (.inl (List.mem_map.2 ⟨y, hy, rfl⟩))))
  have hent : ∀ y ∈ x.ents, entR y ∈ x.rows := fun y hy => by
    unfold Wld.rows
    simp only [List.mem_append]
    exact .inr (.inr (.inr (.inr (.inl (List.mem_map.2 ⟨y, hy, rfl⟩)))))
  refine ⟨h1, fun y hy => ?_, h3, h4, h5, h6, fun y hy => ?_, h7, fun y hy => ?_, h8, hseed, h9⟩
  · have := hr _ (hlin y hy)
    unfold lineR at this
    simp only [List.length_append, List.length_cons, List.length_nil] at this
    exact ⟨by omega, by omega, (h2 y hy).1, (h2 y hy).2⟩
  · have := hr _ (hodr y hy)
    have h10 := hok _ (hodr y hy)
    unfold odrR at this h10
    simp only [List.length_append, List.length_cons, List.length_nil] at this
    have hc : okN y.crowd = true := by
      unfold okR at h10
      exact List.all_eq_true.1 h10 _ (by simp)
    rw [okN_iff] at hc
    exact ⟨by omega, by omega, by omega⟩
  · have h10 := hok _ (hent y hy)
    unfold entR okR at h10
    exact lit_wf (List.all_eq_true.1 h10 _ (by simp))
theorem wld_zero (w : World) (B : Nat) : WldAt w B nilWS zeroW :=
  ⟨⟨[], rfl, Rd.nil_, fun k y h => by cases h⟩, Rd.nil_, Rd.nil_, Rd.nil_, ⟨[], rfl, Rd.nil_, fun k y h => by cases h⟩, Rd.nil_, Rd.nil_, Rd.nil_⟩
theorem wpListIn_load {F : Fence} {n : Nat} {P : Program} {ops : Array Oper} {rest : List Oper} {o : Oper} {a : Act} {w : World} {Q : Exit → Act → World → Prop} (hgd : o.guard = none) {ty : TypeId} {x : Operand} (ho : o.op = .load ty x) {q v : Value} (hx : a.eval x = q)
    (hl : (Instr.loadAt ty q).run P w = .ok v w) (h : wpListIn F n P ops Q rest (a.put o.dst v) w) : wpListIn F n P ops Q (o :: rest) a w :=
  wpListIn_plain hgd fun K hK => by
    refine ⟨fun f hf => (by unfold Oper.about at hf; rw [ho] at hf; cases hf), ?_⟩
    have e := exec_load ho hx hl
    have hs : o.semAt F.round a.eval = execOp a.eval o := by
      cases F.round with
      | none => rfl
      | some l => exact Oper.semAt_some _ _ _ (by rw [ho]; intro c h; cases h)
    rw [hs, e]
    exact hK _ _ h
theorem wpListIn_store {F : Fence} {n : Nat} {P : Program} {ops : Array Oper} {rest : List Oper} {o : Oper} {a : Act} {w w' : World} {Q : Exit → Act → World → Prop} (hgd : o.guard = none) {ty : TypeId} {x y : Operand} (ho : o.op = .store ty x y) {q v : Value} (hx : a.eval x = q) (hy : a.eval y = v)
    (hl : (Instr.storeAt ty q v).run P w = .ok () w') (h : wpListIn F n P ops Q rest (a.put o.dst undef) w') : wpListIn F n P ops Q (o :: rest) a w :=
  wpListIn_plain hgd fun K hK => by
    refine ⟨fun f hf => (by unfold Oper.about at hf; rw [ho] at hf; cases hf), ?_⟩
    have e : (execOp a.eval o).run P w = .ok .skip w' := by
      unfold execOp
      rw [ho]
      simp only [Sem.run_bind, hx, hy, hl, Result.andThen_ok, Sem.run_pure]
    have hs : o.semAt F.round a.eval = execOp a.eval o := by
      cases F.round with
      | none => rfl
      | some l => exact Oper.semAt_some _ _ _ (by rw [ho]; intro c h; cases h)
    rw [hs, e]
    exact hK _ _ h
theorem setRow_same {w : World} {g : Nat} {t : TypeId} {cs : Array Value} (h : Blk w g t cs) : w.setRow g cs = w := by
  unfold World.setRow
  have : (w.heap.modify g fun o => match o with | .cells _ t fr => .cells cs t fr | o => o) = w.heap := by
    apply Array.ext_getElem?
    intro i
    rw [Array.getElem?_modify]
    by_cases hi : g = i
    · subst hi
      rw [if_pos rfl, h]
      rfl
    · rw [if_neg hi]
  exact congrArg (fun hp => ({ w with heap := hp } : World)) this
theorem inR {n : Nat} {P : Program} {f : FuncId} {args : Array Value} {w : World} {R : Ending → World → Prop} (L : Nat) (h : Calls P f args w R) : CallsIn (Fence.wide.inRound L) n P f args w R := (callsIn_wide.2 h).inRound L
theorem linesC_mem : ∀ {s : By}, ∀ t ∈ linesC s, t.length ≤ s.length
  | [], t, h => by cases h
  | x :: r, t, h => by
    unfold linesC at h
    split at h
    · rcases List.mem_cons.1 h with rfl | h
      · simp
      · have := linesC_mem t h; simp; omega
    · cases hs : linesC r with
      | nil => rw [hs] at h; simp at h; subst h; simp
      | cons a q =>
        rw [hs] at h
        rcases List.mem_cons.1 h with rfl | h
        · have := linesC_mem a (by rw [hs]; exact List.mem_cons_self ..); simp; omega
        · have := linesC_mem t (by rw [hs]; exact List.mem_cons_of_mem _ h); simp; omega
def bysN (l : List (Nat × ByteArray)) : List By := l.map (fun p => p.2.data.toList)
theorem bysN_numL (l : List ByteArray) : bysN (numL l) = bys l := by
  unfold bysN numL bys
  rw [List.map_map]
  have e : ((fun p : Nat × ByteArray => p.2.data.toList) ∘ fun p : ByteArray × Nat => (p.2 + 1, p.1)) = (fun s : ByteArray => s.data.toList) ∘ Prod.fst := rfl
  rw [e, ← List.map_map, List.zipIdx_map_fst]
structure RdI (W : World) (n : Nat) (ZW : Array Value) (pre : List (Nat × ByteArray)) (W' : World) : Prop where
  st : ∃ o q x last, StAt W' (n + 3) n pre.length o q x last ∧ Fit x last ∧ foldW 0 (zeroW, 0) (bysN pre) = .inl (x, rowN last.data.toList) ∧ ∀ g, g < n + 10 → o g = 9
  b0 : Blk W' n 35 ZW
  b1 : Blk W' (n + 1) 3 #[.int .i64 0]
  b2 : Blk W' (n + 2) 38 #[.int .i64 0]
  bl : Below n W W'
structure RdX (W : World) (n : Nat) (ZW : Array Value) (src : By) (W' : World) : Prop where
  st : ∃ k : Nat, readV src = (zeroW, k, 590) ∧ Blk W' (n + 1) 3 #[.int .i64 k]
  b0 : Blk W' n 35 ZW
  b2 : Blk W' (n + 2) 38 #[.int .i64 590]
  bl : Below n W W'
theorem below_kept {N n : Nat} {W A B : World} {row : Option Nat} (h : Below n W A) (hg : A.grownBy B row) (hN : n ≤ N) (hr : ∀ r, row = some r → N ≤ r ∧ ∃ o : Obj, A.heap[r]? = some o ∧ o.isCells = false) (hs : n ≤ A.heap.size) : Below n W B :=
  h.grown hg hs (fun r e => by have := (hr r e).1; omega)
theorem RdI.kept {W A B : World} {n N : Nat} {ZW : Array Value} {pre : List (Nat × ByteArray)} {row : Option Nat} (h : RdI W n ZW pre A) (hN : n ≤ N) (hg : A.grownBy B row) (hr : ∀ r, row = some r → N ≤ r ∧ ∃ o : Obj, A.heap[r]? = some o ∧ o.isCells = false) : RdI W n ZW pre B := by
  obtain ⟨o, q, x, last, h1, h2, h3, h4⟩ := h.st
  exact ⟨⟨o, q, x, last, h1.kept hg hr, h2, h3, h4⟩, h.b0.kept hg hr, h.b1.kept hg hr, h.b2.kept hg hr, below_kept h.bl hg hN hr (Nat.le_of_lt h.b0.lt)⟩
theorem RdX.kept {W A B : World} {n N : Nat} {ZW : Array Value} {src : By} {row : Option Nat} (h : RdX W n ZW src A) (hN : n ≤ N) (hg : A.grownBy B row) (hr : ∀ r, row = some r → N ≤ r ∧ ∃ o : Obj, A.heap[r]? = some o ∧ o.isCells = false) : RdX W n ZW src B := by
  obtain ⟨k, h1, h2⟩ := h.st
  exact ⟨⟨k, h1, h2.kept hg hr⟩, h.b0.kept hg hr, h.b2.kept hg hr, below_kept h.bl hg hN hr (Nat.le_of_lt h.b0.lt)⟩
theorem StAt.setAny {w : World} {R base m : Nat} {o : Nat → Nat} {q : RS} {x : Wld} {last : ByteArray} (h : StAt w R base m o q x last) {p : Addr} (hg : o p.block = 9) (hne : R ≠ p.block) (v : Value) : StAt (w.setCell p v) R base m o q x last :=
  ⟨h.blk.far hne v, h.oR, h.bR, h.sd, h.so, h.ra.keep (t := 9) ⟨by simp [World.setCell], fun g _ ht => Below.heap_setCell _ _ _ _ (fun e => ht (by rw [e]; exact hg)), KeepsOthers.setCell _ _ _⟩ rfl (fun _ _ => rfl) (Nat.le_refl m)⟩
theorem RdI.beside {W A : World} {n : Nat} {ZW : Array Value} {pre : List (Nat × ByteArray)} (h : RdI W n ZW pre A) {p : Addr} (hp : n + 8 ≤ p.block ∧ p.block < n + 10) (v : Value) : RdI W n ZW pre (A.setCell p v) := by
  obtain ⟨o, q, x, last, h1, h2, h3, h4⟩ := h.st
  exact ⟨⟨o, q, x, last, h1.setAny (h4 _ hp.2) (by omega) v, h2, h3, h4⟩, h.b0.far (by omega) v, h.b1.far (by omega) v, h.b2.far (by omega) v, h.bl.setCell (by omega) v⟩
theorem RdX.beside {W A : World} {n : Nat} {ZW : Array Value} {src : By} (h : RdX W n ZW src A) {p : Addr} (hp : n + 8 ≤ p.block ∧ p.block < n + 10) (v : Value) : RdX W n ZW src (A.setCell p v) := by
  obtain ⟨k, h1, h2⟩ := h.st
  exact ⟨⟨k, h1, h2.far (by omega) v⟩, h.b0.far (by omega) v, h.b2.far (by omega) v, h.bl.setCell (by omega) v⟩
def ReadPost (v : Wld × Nat × Int) (w : World) (r : Ending) (w' : World) : Prop :=
  ∃ s : WS, r = .returned (.tuple #[.agg (s.cl v.1).toArray, .int .i64 (v.2.1 : Nat), .int .i64 v.2.2]) ∧ WldAt w' w'.heap.size s v.1 ∧ Below w.heap.size w w' ∧ ∀ g t cs X, g < w.heap.size → Blk w' g t cs → WldAt (w'.setRow g X) w'.heap.size s v.1
theorem read_leaves {tmps : Array Value} {W w : World} {n D : Nat} {X : Array Value} {k e : Int} {v : Wld × Nat × Int} (hD : n + 3 ≤ D) (hn : n = W.heap.size) (hX : X.size = 43)
    (h2 : tmps[2]?.getD undef = .pointer (some ⟨n, 0, none⟩)) (h3 : tmps[3]?.getD undef = .pointer (some ⟨n + 1, 0, none⟩)) (h4 : tmps[4]?.getD undef = .pointer (some ⟨n + 2, 0, none⟩))
    (b0 : Blk w n 35 X) (b1 : Blk w (n + 1) 3 #[.int .i64 k]) (b2 : Blk w (n + 2) 38 #[.int .i64 e]) (bl : Below n W w) (hd : w.heap[D]? = some (.deferred (some [])))
    (hp : Below W.heap.size W (w.putObj D (.deferred none)) → ReadPost v W (.returned (.tuple #[.agg X, .int .i64 k, .int .i64 e])) (w.putObj D (.deferred none))) :
    LeavesM Tryz.prog Tryz.f12 tmps (ReadPost v W) [{ target := .collected D, args := #[] }] .returning w := by
  have b0' : Blk (w.putObj D (.deferred none)) n 35 X := (World.putObj_heap_other (by omega)).trans b0
  have b1' : Blk (w.putObj D (.deferred none)) (n + 1) 3 #[.int .i64 k] := (World.putObj_heap_other (by omega)).trans b1
  have b2' : Blk (w.putObj D (.deferred none)) (n + 2) 38 #[.int .i64 e] := (World.putObj_heap_other (by omega)).trans b2
  have bl' : Below n W (w.putObj D (.deferred none)) := bl.trans ⟨rfl, rfl, rfl, by simp [World.putObj], fun k hk => World.putObj_heap_other (by omega)⟩
  have hp := hp (by rw [← hn]; exact bl')
  refine leavesM_mark (by simp) hd ?_
  generalize w.putObj D (.deferred none) = w2 at *
  have c1 := b1'.cell 0
  have c2 := b2'.cell 0
  have e0 := run_loadVar_row w2 n 35 35 X _ _ b0' Tryz.underlying35 rfl (by rw [hX]; exact world_info)
  have e1 : (loadVar 3 ⟨n + 1, 0, none⟩).run Tryz.prog w2 = .ok (.int .i64 k) w2 := by simp [go_sem, c1]
  have e2 : (loadVar 38 ⟨n + 2, 0, none⟩).run Tryz.prog w2 = .ok (.int .i64 e) w2 := by simp [go_sem, c2]
  refine ⟨_, ?_, hp⟩
  simp [results, Tryz.results12, h2, h3, h4, asAddr, e0, e1, e2]
theorem ws_cell {s : WS} {x : Wld} : ∀ v ∈ s.cl x, v.oneCell' = true := by
  intro v hv
  unfold WS.cl at hv
  simp only [List.mem_append, List.mem_cons, List.not_mem_nil, or_false] at hv
  repeat' (rcases hv with hv | hv)
  all_goals first | rfl | exact byts_oneCell _ (by assumption)
theorem wp_region_schS {P : Program} {Q : Exit → Act → World → Prop} {S : World → Prop} {id g : Nat} {l : List Oper} {a : Act} {w : World} (hS : S w.drew) (s : List (Nat × Nat)) (h : wpSchedN P .any l.toArray (NoPanic Q) S g (listedBy s (Array.replicate l.toArray.size false)) (pickS s l) a w.drew)
    (hm : P.follows .mixedOrders = true := by kernel_rfl) (hB : (Region.noSelect l.toArray && (decide (s.length + g = l.toArray.size) && schedOkN .any l.toArray s (Array.replicate l.toArray.size false))) = true := by kernel_rfl) : (Code.region id l.toArray true).wp P Q a w := by
  simp only [Bool.and_eq_true, decide_eq_true_eq] at hB
  obtain ⟨h1, h2, h3⟩ := hB
  refine wp_region_noPanic (wp_region_any hm ?_)
  have := wpAny_of_N _ _ _ _ (schedN_any (md := .any) (Q := NoPanic Q) (ops := l.toArray) h1 (fun _ _ _ _ _ h => h) g s _ a w.drew h3 hS (by simpa using h))
  rw [h2] at this
  exact this
structure RdE (W w : World) (n D : Nat) (X : Array Value) (k e : Int) : Prop where
  b0 : Blk w n 35 X
  b1 : Blk w (n + 1) 3 #[.int .i64 k]
  b2 : Blk w (n + 2) 38 #[.int .i64 e]
  bl : Below n W w
  hd : w.heap[D]? = some (.deferred (some []))
theorem RdE.set1 {W w : World} {n D : Nat} {X : Array Value} {k e : Int} (h : RdE W w n D X k e) (hD : n + 3 ≤ D) (k' : Int) : RdE W (w.setCell ⟨n + 1, 0, none⟩ (.int .i64 k')) n D X k' e :=
  ⟨h.b0.far (by simp) _, h.b1.set_ 0 _, h.b2.far (by simp) _, h.bl.setCell (by simp) _, (Below.heap_setCell _ _ _ _ (by show D ≠ n + 1; omega)).trans h.hd⟩
theorem RdE.set2 {W w : World} {n D : Nat} {X : Array Value} {k e : Int} (h : RdE W w n D X k e) (hD : n + 3 ≤ D) (e' : Int) : RdE W (w.setCell ⟨n + 1 + 1, 0, none⟩ (.int .i64 e')) n D X k e' :=
  ⟨h.b0.far (by simp; omega) _, h.b1.far (by simp) _, h.b2.set_ 0 _, h.bl.setCell (by simp; omega) _, (Below.heap_setCell _ _ _ _ (by show D ≠ n + 1 + 1; omega)).trans h.hd⟩
theorem RdE.dr {W w : World} {n D : Nat} {X : Array Value} {k e : Int} (h : RdE W w n D X k e) : RdE W w.drew n D X k e :=
  ⟨h.b0, h.b1, h.b2, ⟨h.bl.os, h.bl.tape, h.bl.output, h.bl.size, h.bl.block⟩, h.hd⟩
theorem StAt.setRowAny {w : World} {R base m g : Nat} {o : Nat → Nat} {q : RS} {x : Wld} {last : ByteArray} {t : TypeId} {cs : Array Value} (h : StAt w R base m o q x last) (hb : Blk w g t cs) (hg : o g = 9) (hne : R ≠ g) (X : Array Value) : StAt (w.setRow g X) R base m o q x last :=
  ⟨h.blk.farRow hne X, h.oR, h.bR, h.sd, h.so, h.ra.keep (t := 9) ⟨by simp, fun k _ ht => setRow_other w g k X (fun e => ht (by rw [e]; exact hg)), ⟨by simp, fun k ob hk ho => by
    by_cases e : k = g
    · subst e
      rw [hb] at hk
      injection hk with hk
      subst hk
      cases ho
    · exact (setRow_other w g k X e).trans hk⟩⟩ rfl (fun _ _ => rfl) (Nat.le_refl m)⟩
theorem rep_read (src : ByteArray) (W : World) (hs : src.size ≤ 1000000) (hG : LibG W.heap.size W) : Calls Tryz.prog 12 #[.string src] W (ReadPost (readV src.data.toList) W) := by
  obtain ⟨ZW, hZW⟩ : ∃ ZW, ZW = (nilWS.cl zeroW).toArray := ⟨_, rfl⟩
  refine calls_of_wp_dm Tryz.func12 rfl ?_
  simp only [Tryz.ntmps12, List.size_toArray, List.length_cons, List.length_nil, Nat.reduceAdd, Nat.reduceSub, Array.replicate_succ, Array.replicate_zero, List.push_toArray, List.append_toArray, List.nil_append, List.cons_append]
  go_wp2_with (go_at_call 27; (with_reducible refine (rlines_any _ _).mono ?_); rintro e w' ⟨rfl, rfl⟩)
  refine (show Code.wp _ _ _ _ (((((W.alloc (.cells (nilWS.cl zeroW).toArray 35)).alloc (.cells #[.int .i64 0] 3)).alloc (.cells #[.int .i64 0] 38)).alloc (.cells (nilWS.cl zeroW ++ [Value.string ⟨#[]⟩]).toArray 87)).alloc (.cells #[.string src] 9)) from ?_)
  rw [← hZW]
  have hZs : ZW.size = 43 := by rw [hZW]; exact wsCl_size rfl
  have hZ1 : ∀ v ∈ ZW.toList, v.oneCell' = true := by
    rw [hZW]
    intro v hv
    have : (nilWS.cl zeroW).all (fun v => v.oneCell') = true := by kernel_rfl
    exact List.all_eq_true.1 this v (by simpa using hv)
  replace hZW := Lib.hid hZW
  obtain ⟨n, hn⟩ : ∃ n, n = W.heap.size := ⟨_, rfl⟩
  have hb : Below n W (((((W.alloc (.cells ZW 35)).alloc (.cells #[.int .i64 0] 3)).alloc (.cells #[.int .i64 0] 38)).alloc (.cells (nilWS.cl zeroW ++ [Value.string ⟨#[]⟩]).toArray 87)).alloc (.cells #[.string src] 9)) := by rw [hn]; exact bAl (bAl (bAl (bAl (bAl (bRefl W) _) _) _) _) _
  have B0 : Blk (((((W.alloc (.cells ZW 35)).alloc (.cells #[.int .i64 0] 3)).alloc (.cells #[.int .i64 0] 38)).alloc (.cells (nilWS.cl zeroW ++ [Value.string ⟨#[]⟩]).toArray 87)).alloc (.cells #[.string src] 9)) n 35 ZW := ((((Blk.new W _ _ _ hn).alloc _).alloc _).alloc _).alloc _
  have B1 : Blk (((((W.alloc (.cells ZW 35)).alloc (.cells #[.int .i64 0] 3)).alloc (.cells #[.int .i64 0] 38)).alloc (.cells (nilWS.cl zeroW ++ [Value.string ⟨#[]⟩]).toArray 87)).alloc (.cells #[.string src] 9)) (n + 1) 3 #[.int .i64 0] := (((Blk.new _ _ _ _ (by simp [hn])).alloc _).alloc _).alloc _
  have B2 : Blk (((((W.alloc (.cells ZW 35)).alloc (.cells #[.int .i64 0] 3)).alloc (.cells #[.int .i64 0] 38)).alloc (.cells (nilWS.cl zeroW ++ [Value.string ⟨#[]⟩]).toArray 87)).alloc (.cells #[.string src] 9)) (n + 2) 38 #[.int .i64 0] := ((Blk.new _ _ _ _ (by simp [hn])).alloc _).alloc _
  have B3 : Blk (((((W.alloc (.cells ZW 35)).alloc (.cells #[.int .i64 0] 3)).alloc (.cells #[.int .i64 0] 38)).alloc (.cells (nilWS.cl zeroW ++ [Value.string ⟨#[]⟩]).toArray 87)).alloc (.cells #[.string src] 9)) (n + 3) 87 (nilWS.cl zeroW ++ [Value.string ⟨#[]⟩]).toArray := (Blk.new _ _ _ _ (by simp [hn])).alloc _
  have B4 : Blk (((((W.alloc (.cells ZW 35)).alloc (.cells #[.int .i64 0] 3)).alloc (.cells #[.int .i64 0] 38)).alloc (.cells (nilWS.cl zeroW ++ [Value.string ⟨#[]⟩]).toArray 87)).alloc (.cells #[.string src] 9)) (n + 4) 9 #[.string src] := Blk.new _ _ _ _ (by simp [hn])
  have hs5 : (((((W.alloc (.cells ZW 35)).alloc (.cells #[.int .i64 0] 3)).alloc (.cells #[.int .i64 0] 38)).alloc (.cells (nilWS.cl zeroW ++ [Value.string ⟨#[]⟩]).toArray 87)).alloc (.cells #[.string src] 9)).heap.size = n + 5 := by simp [hn]
  have I0 : RdI W n ZW [] (((((W.alloc (.cells ZW 35)).alloc (.cells #[.int .i64 0] 3)).alloc (.cells #[.int .i64 0] 38)).alloc (.cells (nilWS.cl zeroW ++ [Value.string ⟨#[]⟩]).toArray 87)).alloc (.cells #[.string src] 9)) :=
    ⟨⟨fun _ => 9, nilRS, zeroW, ⟨#[]⟩, St_zero B3 (by omega), ⟨fun h => by have : rowN (⟨#[]⟩ : ByteArray).data.toList = 0 := rfl; omega, fun h => absurd rfl h⟩, rfl, fun _ _ => rfl⟩, B0, B1, B2, hb⟩
  generalize ((((W.alloc (.cells ZW 35)).alloc (.cells #[.int .i64 0] 3)).alloc (.cells #[.int .i64 0] 38)).alloc (.cells (nilWS.cl zeroW ++ [Value.string ⟨#[]⟩]).toArray 87)).alloc (.cells #[.string src] 9) = w5 at *
  have hG5 : ∀ W', Below n W W' → LibG n W' := fun W' b => by rw [hn] at b ⊢; exact hG.below b
  rw [← hn]
  clear B0 B1 B2 B3 hb
  replace hn := Lib.hid hn
  refine (wpIn_wide (n := 2 + 2)).1 (wpIn_rangeFuncG 2 (gf := 51) (lb := #[.pointer (some ⟨n + 4, 0, none⟩)]) rfl (enters_of Tryz.func51 (by kernel_rfl) rfl)
    (rlines_seq (n + 4) 2 src (fun k => n ≤ k ∧ k < n + 10 ∧ k ≠ n + 3) w5 (by rw [hs5]; omega) (by rw [hs5]; omega) (by rw [hs5]; omega) hs B4)
    (fun k hk => by omega) KpC.trans (fun W' l ob o' _ h1 h2 _ => KpC.put W' l ob o' h1 h2) (fun _ => rfl)
    (RdI W n ZW)
    (fun x a₁ pre W' => RdI W n ZW pre W' ∧ a₁ = { tmps := #[.string src, undef, .pointer (some ⟨n, 0, none⟩), .pointer (some ⟨n + 1, 0, none⟩), .pointer (some ⟨n + 1 + 1, 0, none⟩), .pointer (some ⟨n + 1 + 1 + 1, 0, none⟩), .int .i64 (x.1 : Nat), .string x.2, .string src, .func (.func 51) #[] #[.pointer (some ⟨n + 1 + 1 + 1 + 1, 0, none⟩)], .int .i64 (x.1 : Nat), .string x.2, undef, undef, undef, undef, undef, undef, undef, undef, undef, undef, undef, undef, undef, undef, undef, undef, undef, undef], defers := [] })
    (fun c _ W' => c = .ret ∧ RdX W n ZW src.data.toList W')
    (fun pre A' B' row h hg hr => h.kept (N := w5.heap.size) (by omega) hg hr)
    (fun x a pre A' B' row h hg hr => ⟨h.1.kept (N := w5.heap.size) (by omega) hg hr, h.2⟩)
    (fun c pre A' B' row h hg hr => ⟨h.1, h.2.kept (N := w5.heap.size) (by omega) hg hr⟩)
    (fun pre W' p v h ht => h.beside (by omega) v)
    (fun c pre W' p v h ht => ⟨h.1, h.2.beside (by omega) v⟩)
    I0 ?assign ?body ?done ?stop)
  case assign =>
    rintro L pre x Wc h hsz hpr
    dsimp only [encL]
    gi_wp2
    exact ⟨KeepsFrom.refl _ _, KpC.refl _ _, h, trivial⟩
  case body =>
    rintro L pre x a₁ Wc ⟨h, rfl⟩ hsz hpr
    obtain ⟨o, q, xw, last, hst, hfit, hfo, hnine⟩ := h.st
    obtain ⟨l, y, r, rfl, rfl, hb⟩ := hpr
    have hnl : (numL l).length = l.length := by simp [numL]
    have hsl : src.data.toList.length = src.size := by rw [Array.length_toList]; rfl
    have hm : (numL l).length ≤ 1000000 := by
      have h1 := linesC_len src.data.toList
      rw [← hb] at h1
      simp only [bys, List.length_append, List.length_map] at h1
      omega
    have hy : y.size ≤ 1000000 := by
      have h1 := linesC_mem (s := src.data.toList) y.data.toList (by rw [← hb]; simp [bys])
      have h2 : y.data.toList.length = y.size := by rw [Array.length_toList]; rfl
      omega
    have hq : Hid (Calls Tryz.prog 28 #[.pointer (some ⟨n + 1 + 1 + 1, 0, none⟩), .string y] Wc (AddPost (stepW (xw, rowN last.data.toList) y.data.toList) o (n + 3) n (numL l).length Wc)) :=
      Lib.hid (rep_add (n + 3) n (numL l).length o q xw last y Wc hst hfit hy hm (hG5 _ h.bl))
    have hfo := Lib.hid hfo
    have hh := Lib.hid h
    have hb := Lib.hid hb
    have hst := Lib.hid hst
    have hnine := Lib.hid hnine
    clear h hst hfit
    gi_wp2
    refine ⟨trivial, ?_⟩
    (with_reducible refine (inR L hq.out).mono ?_)
    clear hq
    rintro e w' ⟨hr, kz, bw⟩
    have hsz2 : Wc.heap.size ≤ w'.heap.size := bw.size
    have b0' : Blk w' n 35 ZW := (kz.1 n (by omega) (by omega) (.inr (hnine.out n (by omega)))).trans hh.out.b0
    have b1' : Blk w' (n + 1) 3 #[.int .i64 0] := (kz.1 (n + 1) (by omega) (by omega) (.inr (hnine.out _ (by omega)))).trans hh.out.b1
    have b2' : Blk w' (n + 2) 38 #[.int .i64 0] := (kz.1 (n + 2) (by omega) (by omega) (.inr (hnine.out _ (by omega)))).trans hh.out.b2
    have bl' : Below n W w' := hh.out.bl.trans bw
    have kf : KeepsFrom w5.heap.size Wc w' := kz.2.from _
    have kp : KpC (fun k => n ≤ k ∧ k < n + 10 ∧ k ≠ n + 3) Wc w' := ⟨hsz2, fun k t cs fr hk ha => kz.1 k (Array.getElem?_eq_some_iff.1 ha).1 (by omega) (.inr (hnine.out k hk.2.1))⟩
    cases hs3 : stepW (xw, rowN last.data.toList) y.data.toList with
    | some p =>
      rw [hs3] at hr
      obtain ⟨rfl, o', q', last', ha, hst', hrn, hf'⟩ := hr
      have hI : RdI W n ZW (numL l ++ [(l.length + 1, y)]) w' := ⟨⟨o', q', p.1, last', by rw [List.length_append, List.length_singleton]; exact hst', hf', by
        have e : bysN (numL l ++ [(l.length + 1, y)]) = bysN (numL l) ++ [y.data.toList] := by simp [bysN]
        rw [e, foldW_app, hfo.out]
        show (match stepW (xw, rowN last.data.toList) y.data.toList with | some st' => foldW (0 + (bysN (numL l)).length + 1) st' [] | none => .inr _) = _
        rw [hs3, hrn]
        rfl, fun g h2 => (ha g (by omega)).trans (hnine.out g h2)⟩, b0', b1', b2', bl'⟩
      replace hI := Lib.hid hI
      clear hst' hfo hh hb hst hnine b0' b1' b2' bl' kz bw ha
      gi_wp2
      exact ⟨kf, kp, hI.out⟩
    | none =>
      rw [hs3] at hr
      obtain rfl := hr
      have hrd : readV src.data.toList = (zeroW, l.length + 1, 590) := by
        have e : foldW 0 (zeroW, 0) (linesC src.data.toList) = .inr (l.length + 1) := by
          rw [← hb.out]
          have e2 : bys (l ++ [y]) ++ r = bys l ++ y.data.toList :: r := by simp [bys]
          rw [e2]
          have h1 := hfo.out
          rw [bysN_numL] at h1
          rw [fold_none h1 hs3]
          simp [bys]
        unfold readV
        rw [e]
      replace hrd := Lib.hid hrd
      have LL := load_blk b0' Tryz.underlying35 rfl (by rw [hZs]; exact world_info)
      clear hfo hh hb hst hnine kz bw
      have c1 := b1'.cell 0
      have f1 := b1'.frozen 0
      have c2 := b2'.cell 0
      have f2 := b2'.frozen 0
      have hX : Hid (RdX W n ZW src.data.toList ((w'.setCell ⟨n + 1, 0, none⟩ (.int .i64 (l.length + 1 : Nat))).setCell ⟨n + 1 + 1, 0, none⟩ (.int .i64 590))) := Lib.hid ⟨⟨l.length + 1, hrd.out, (b1'.set_ 0 _).far (by simp) _⟩, (b0'.far (by simp) _).far (by simp; omega) _, (b2'.far (by simp) _).set_ 0 _, (bl'.setCell (by simp) _).setCell (by simp; omega) _⟩
      have kf2 : Hid (KeepsFrom w5.heap.size Wc ((w'.setCell ⟨n + 1, 0, none⟩ (.int .i64 (l.length + 1 : Nat))).setCell ⟨n + 1 + 1, 0, none⟩ (.int .i64 590))) := Lib.hid ((kf.trans ((KeepsOthers.setCell _ _ _).from _)).trans ((KeepsOthers.setCell _ _ _).from _))
      clear bl' kf kp hrd
      gi_upto_region 6 with fail
      apply wpIn_region_lit
      refine wpListIn_load rfl rfl rfl LL ?_
      iterate 3 gi_step
      refine wpListIn_store rfl rfl rfl rfl (store_whole b0' (by rw [hZs]; exact world_info) rfl hZ1) ?_
      rw [setRow_same b0']
      clear LL b0' b1' b2'
      gi_wp2
      exact ⟨kf2.out, rfl, hX.out⟩
  case done =>
    rintro D xs Wc hD hS h hd
    obtain ⟨l, hl, rfl⟩ := hS
    obtain ⟨o, q, x, last, hst, hfit, hfo, hnine⟩ := h.st
    rw [bysN_numL, hl] at hfo
    have hnl : (numL l).length = l.length := by simp [numL]
    have hsl : src.data.toList.length = src.size := by rw [Array.length_toList]; rfl
    have hm : l.length ≤ 1000000 := by
      have h1 := linesC_len src.data.toList
      rw [← hl] at h1
      simp only [bys, List.length_map] at h1
      omega
    have c43 : Wc.cell? ⟨n + 1 + 1 + 1, 43, none⟩ = some (.string last) := (hst.blk.cell 43).trans (fld43 _ _ _ hst.sd)
    have b0 := h.b0
    have b1 := h.b1
    have b2 := h.b2
    have bl := h.bl
    have LL := load_blk b0 Tryz.underlying35 rfl (by rw [hZs]; exact world_info)
    have c1 := b1.cell 0
    have f1 := b1.frozen 0
    have c2 := b2.cell 0
    have f2 := b2.frozen 0
    clear h hl
    by_cases h0 : last = ⟨#[]⟩
    · subst h0
      have hrd : readV src.data.toList = (zeroW, 1, 590) := by
        unfold readV
        rw [hfo]
        exact if_pos rfl
      replace hrd := Lib.hid hrd
      clear hst hfit hfo hnine
      go_upto_region 8 with fail
      apply wp_region_lit
      refine wpList_loadG (by rfl) (by rfl) (by rfl) LL ?_
      simp only [Act.put]
      refine wpList_storeG (by rfl) (by rfl) (by rfl) (by rfl) (store_whole b0 (by rw [hZs]; exact world_info) rfl hZ1) ?_
      rw [setRow_same b0]
      simp only [Act.put]
      have b0' : Hid (Blk ((Wc.setCell ⟨n + 1, 0, none⟩ (.int .i64 1)).setCell ⟨n + 1 + 1, 0, none⟩ (.int .i64 590)) n 35 ZW) := Lib.hid ((b0.far (by simp) _).far (by simp; omega) _)
      have b1' : Hid (Blk ((Wc.setCell ⟨n + 1, 0, none⟩ (.int .i64 1)).setCell ⟨n + 1 + 1, 0, none⟩ (.int .i64 590)) (n + 1) 3 #[.int .i64 1]) := Lib.hid ((b1.set_ 0 _).far (by simp) _)
      have b2' : Hid (Blk ((Wc.setCell ⟨n + 1, 0, none⟩ (.int .i64 1)).setCell ⟨n + 1 + 1, 0, none⟩ (.int .i64 590)) (n + 2) 38 #[.int .i64 590]) := Lib.hid ((b2.far (by simp) _).set_ 0 _)
      have bl' : Hid (Below n W ((Wc.setCell ⟨n + 1, 0, none⟩ (.int .i64 1)).setCell ⟨n + 1 + 1, 0, none⟩ (.int .i64 590))) := Lib.hid ((bl.setCell (by simp) _).setCell (by simp; omega) _)
      have hd' : ((Wc.setCell ⟨n + 1, 0, none⟩ (.int .i64 1)).setCell ⟨n + 1 + 1, 0, none⟩ (.int .i64 590)).heap[D]? = some (.deferred (some [])) := (Below.heap_setCell _ _ _ _ (by show D ≠ n + 1 + 1; omega)).trans ((Below.heap_setCell _ _ _ _ (by show D ≠ n + 1; omega)).trans hd)
      clear LL b0 b1 b2 bl hd
      go_wp2_with fail
      refine read_leaves (by omega) hn.out hZs rfl rfl rfl b0'.out b1'.out b2'.out bl'.out hd' (fun hb => ?_)
      rw [hrd.out, hZW.out]
      exact ⟨nilWS, rfl, wld_zero _ _, hb, fun _ _ _ _ _ _ => wld_zero _ _⟩
    · have h5 : last.toList.isEmpty = false := by
        rw [ByteArray.toList_eq, List.isEmpty_eq_false_iff]
        exact fun e => h0 (ByteArray.ext (by rw [← Array.toArray_toList (xs := last.data), e]))
      have hk0 : rowN last.data.toList ≠ 0 := hfit.2 (fun e => h0 (ByteArray.ext (Array.eq_empty_of_size_eq_zero e)))
      obtain ⟨ht, hok, hfine⟩ := text_fold hfo hk0
      have hn1 : ∀ {t : Nat} {e : TypeId} {sz : Nat} {v : Value} {xs : List Value} {N : Nat}, rowQ q x t = some ⟨e, sz, v, N, xs⟩ → N ≤ 1000000 := fun e => by
        have := (hst.ra.rows _ _ e).2
        rw [hnl] at this
        exact Nat.le_trans this hm
      have hsmall : x.small := small_read ht hok (by rw [hsl]; exact hs) hst.sd (hn1 (t := 4) rfl) (fun y hy => by
        obtain ⟨k, hk⟩ := List.getElem?_of_mem hy
        obtain ⟨u, hu⟩ : ∃ u, q.ls[k]? = some u := ⟨_, List.getElem?_eq_getElem (by rw [hst.ra.lq]; exact (List.getElem?_eq_some_iff.1 hk).1)⟩
        refine ⟨hn1 (t := 10 + 2 * k) (v := .slice u.a2 y.rules.length u.c2) (xs := y.rules.flatMap Rl.cl) (e := 59) (sz := 3) ?_, hn1 (t := 11 + 2 * k) (v := .slice u.a3 y.off.length u.c3) (xs := y.off.flatMap Gp.cl) (e := 61) (sz := 2) ?_⟩
        · unfold rowQ
          rw [if_neg (by omega), if_neg (by omega), if_neg (by omega), if_neg (by omega), if_neg (by omega), if_neg (by omega), if_neg (by omega), if_neg (by omega), if_neg (by omega), show (10 + 2 * k - 10) / 2 = k by omega, hu, hk]
          simp only
          rw [if_pos (by omega)]
        · unfold rowQ
          rw [if_neg (by omega), if_neg (by omega), if_neg (by omega), if_neg (by omega), if_neg (by omega), if_neg (by omega), if_neg (by omega), if_neg (by omega), if_neg (by omega), show (11 + 2 * k - 10) / 2 = k by omega, hu, hk]
          simp only
          rw [if_neg (by omega)]) (hn1 (t := 1) rfl) (hn1 (t := 2) rfl) (hn1 (t := 3) rfl) (hn1 (t := 5) rfl) (hn1 (t := 6) rfl) (hn1 (t := 7) rfl) (hn1 (t := 8) rfl)
      have LX : (Instr.loadAt 35 (.pointer (some ⟨n + 1 + 1 + 1, 0, none⟩))).run Tryz.prog Wc = .ok (.agg (q.ws.cl x).toArray) Wc :=
        run_loadAt_mid (P := Tryz.prog) Wc (n + 3) 0 35 (q.ws.cl x) _ (fun j v hj => by
          rw [Nat.zero_add, hst.blk.cell, List.getElem?_toArray, List.getElem?_append_left (List.getElem?_eq_some_iff.1 hj).1]
          exact hj) Tryz.underlying35 rfl (by rw [wsCl_length hst.sd]; exact world_info)
      obtain ⟨XW, hXW⟩ : ∃ XW, Hid (XW = (q.ws.cl x).toArray) := ⟨_, Lib.hid rfl⟩
      obtain ⟨E, hE⟩ : ∃ E, Hid (E = postE x) := ⟨_, Lib.hid rfl⟩
      have qc : Hid (Calls Tryz.prog 15 #[.agg XW] Wc (Ret (.int .i64 E) Wc)) := Lib.hid (by rw [hXW.out, hE.out]; exact post_check q.ws x Wc hst.ra.wld hsmall)
      rw [← hXW.out] at LX
      have hXs : XW.size = 43 := by rw [hXW.out]; exact wsCl_size hst.sd
      have hX1 : Hid (∀ v ∈ XW.toList, v.oneCell' = true) := Lib.hid (by
        rw [hXW.out]
        intro v hv
        exact ws_cell v (by simpa using hv))
      have hrd : Hid (readV src.data.toList = if E = 0 then (x, 0, 0) else (zeroW, 0, E)) := Lib.hid (by
        unfold readV
        rw [hfo]
        simp only
        rw [if_neg hk0, hE.out])
      have hst := Lib.hid hst
      replace hnine := Lib.hid hnine
      replace b0 := Lib.hid b0
      replace b1 := Lib.hid b1
      replace b2 := Lib.hid b2
      replace hd := Lib.hid hd
      replace hD := Lib.hid hD
      clear hfit hfo hk0 ht hok hfine hsmall LL c1 f1 c2 f2 hn1
      rename Hid (StAt _ _ _ _ _ _ _ _) => hstH
      go_upto_region 9 with fail
      apply wp_region_lit
      iterate 3 go_step
      refine wpList_loadG (by rfl) (by rfl) (by rfl) LX ?_
      simp only [Act.put]
      clear LX c43
      go_wp2_with fail
      refine qc.out.mono ?_
      rintro e w6 ⟨rfl, b6⟩
      have R6 : RdE W w6 n D ZW 0 0 := ⟨b0.out.below b6 b0.out.lt, b1.out.below b6 b1.out.lt, b2.out.below b6 b2.out.lt, bl.trans (b6.mono (Nat.le_of_lt b0.out.lt)), (b6.block D (Array.getElem?_eq_some_iff.1 hd.out).1).trans hd.out⟩
      have S6 := hstH.out.later b6 (fun _ _ => rfl) (Nat.le_refl _)
      have hD3 : n + 3 ≤ D := by have := hD.out; omega
      clear qc b6 hstH hd b0 b1 b2 bl hD
      have c2 := R6.b2.cell 0
      have f2 := R6.b2.frozen 0
      have R7 := Lib.hid (R6.set2 hD3 E)
      have S7 := Lib.hid (S6.setAny (p := ⟨n + 1 + 1, 0, none⟩) (hnine.out _ (show n + 1 + 1 < n + 10 by omega)) (by simp) (.int .i64 E))
      clear R6 S6
      go_upto_region 10 with fail
      generalize w6.setCell ⟨n + 1 + 1, 0, none⟩ (.int .i64 E) = w7 at *
      clear c2 f2
      have c2 := R7.out.b2.cell 0
      by_cases hE0 : E = 0
      · subst hE0
        replace hrd := Lib.hid (hrd.out.trans (if_pos rfl))
        have LX : (Instr.loadAt 35 (.pointer (some ⟨n + 1 + 1 + 1, 0, none⟩))).run Tryz.prog w7 = .ok (.agg XW) w7 := by
          rw [hXW.out]
          exact run_loadAt_mid (P := Tryz.prog) w7 (n + 3) 0 35 (q.ws.cl x) _ (fun j v hj => by
            rw [Nat.zero_add, S7.out.blk.cell, List.getElem?_toArray, List.getElem?_append_left (List.getElem?_eq_some_iff.1 hj).1]
            exact hj) Tryz.underlying35 rfl (by rw [wsCl_length S7.out.sd]; exact world_info)
        go_upto_region 12 with fail
        apply wp_region_lit
        iterate 3 go_step
        refine wpList_loadG (by rfl) (by rfl) (by rfl) LX ?_
        simp only [Act.put]
        have b0 := R7.out.b0
        refine wpList_storeG (by rfl) (by rfl) (by rfl) (by rfl) (store_whole b0 (by rw [hXs]; exact world_info) (by rw [hXs, hZs]) hX1.out) ?_
        simp only [Act.put]
        have R8 : RdE W (w7.setRow n XW) n D XW 0 0 := ⟨b0.row _, R7.out.b1.farRow (by omega) _, R7.out.b2.farRow (by omega) _, below_setRow R7.out.bl (Nat.le_refl n) _, (setRow_other _ _ _ _ (by omega)).trans R7.out.hd⟩
        have S8 := S7.out.setRowAny b0 (hnine.out _ (by omega)) (by omega) XW
        clear b0 LX c2 R7 S7
        generalize w7.setRow n XW = w8 at *
        have c1 := R8.b1.cell 0
        have f1 := R8.b1.frozen 0
        have c2 := (R8.set1 hD3 0).b2.cell 0
        have f2 := (R8.set1 hD3 0).b2.frozen 0
        have R9 := Lib.hid ((R8.set1 hD3 0).set2 hD3 0)
        have S9 := Lib.hid ((S8.setAny (p := ⟨n + 1, 0, none⟩) (hnine.out _ (show n + 1 < n + 10 by omega)) (by simp) (.int .i64 0)).setAny (p := ⟨n + 1 + 1, 0, none⟩) (hnine.out _ (show n + 1 + 1 < n + 10 by omega)) (by simp) (.int .i64 0))
        clear R8 S8
        go_wp2_with fail
        refine read_leaves hD3 hn.out hXs rfl rfl rfl R9.out.b0 R9.out.b1 R9.out.b2 R9.out.bl R9.out.hd (fun hb => ?_)
        rw [hrd.out, hXW.out]
        have S10 := S9.out.kept (N := n + 3) (grownBy_putObj' _ D (.deferred none)) (fun r e => by cases e; exact ⟨by omega, _, R9.out.hd, rfl⟩)
        refine ⟨q.ws, rfl, S10.ra.wld, hb, fun g t cs X hg hB => ?_⟩
        have h9 := (S10.setRowAny hB (hnine.out g (by have := hn.out; omega)) (by have := hn.out; omega) X).ra.wld
        exact h9.more (by simp [World.setRow])
      · replace hrd := Lib.hid (hrd.out.trans (if_neg hE0))
        go_upto_region 11 with fail
        refine wp_region_schS (S := fun w => RdE W w n D ZW 0 E) (g := 0) R7.out.dr [(0, 2), (1, 2), (2, 0), (3, 0), (4, 0)] ?_
        simp only [pickS, List.getElem?_cons_zero, List.getElem?_cons_succ]
        refine wpSchedN_r (v := .agg ZW) ?_ (hv := fun w hS => exec_load rfl rfl (load_blk hS.b0 Tryz.underlying35 rfl (by rw [hZs]; exact world_info)))
        refine wpSchedN_r (v := .int .i64 E) ?_ (hv := by intro w hS; have c2 := hS.b2.cell 0; go_simp)
        have R7 := R7.out.dr
        clear c2 S7
        generalize w7.drew = w8 at *
        refine wpSchedN_force (fun K hK => ?_)
        refine step_storeG (by rfl) (by rfl) (by rfl) (by rfl) (store_whole R7.b0 (by rw [hZs]; exact world_info) rfl hZ1) ?_
        rw [setRow_same R7.b0]
        refine hK.out _ _ R7 (fun _ => ?_)
        clear hK K
        simp only [Act.put]
        refine wpSchedN_force (fun K hK => ?_)
        have c1 := R7.b1.cell 0
        have f1 := R7.b1.frozen 0
        have R8 := R7.set1 hD3 0
        replace R7 := Lib.hid R7
        go_simp
        refine hK.out _ _ R8 (fun _ => ?_)
        clear hK K R7 c1 f1
        refine wpSchedN_force (fun K hK => ?_)
        have c2 := R8.b2.cell 0
        have f2 := R8.b2.frozen 0
        have R9 := Lib.hid (R8.set2 hD3 E)
        replace R8 := Lib.hid R8
        go_simp
        refine hK.out _ _ R9.out (fun _ => ?_)
        clear hK K c2 f2 R8
        refine anyN_end ?_
        refine NoPanic.normal ?_
        go_wp2_with fail
        refine read_leaves hD3 hn.out hZs rfl rfl rfl R9.out.b0 R9.out.b1 R9.out.b2 R9.out.bl R9.out.hd (fun hb => ?_)
        rw [hrd.out, hZW.out]
        exact ⟨nilWS, rfl, wld_zero _ _, hb, fun _ _ _ _ _ _ => wld_zero _ _⟩
  case stop =>
    rintro D c pre Wc hD _ ⟨rfl, h⟩ hd
    obtain ⟨k, hrd, b1⟩ := h.st
    have b0 := Lib.hid h.b0
    have b2 := Lib.hid h.b2
    have bl := Lib.hid h.bl
    replace b1 := Lib.hid b1
    replace hrd := Lib.hid hrd
    clear h
    refine wpIn_wide.2 ?_
    go_wp2_with fail
    refine read_leaves (by omega) hn.out hZs rfl rfl rfl b0.out b1.out b2.out bl.out hd (fun hb => ?_)
    rw [hrd.out, hZW.out]
    exact ⟨nilWS, rfl, wld_zero _ _, hb, fun _ _ _ _ _ _ => wld_zero _ _⟩
end Go.Proofs.YtmbopkcmbiommaaGreatDoor
namespace Go.Proofs.YtmbopkcmbiommaaGreatDoor
open Go Go.RowKit
theorem dgs_info : (Tryz.prog.info? 32).map (·.size) = some 32 := by kernel_rfl
theorem dgs_built : Tryz.prog.built 32 [] = some (byts zero32).toArray := by kernel_rfl
def SeedR (o : Option (List Nat)) (W : World) (e : Ending) (w' : World) : Prop :=
  (match o with | some d => e = .returned (.tuple #[.agg (byts d).toArray, .bool true]) ∧ d.length = 32 ∧ ∀ x ∈ d, x < 256 | none => e = .returned (.tuple #[.agg (byts zero32).toArray, .bool false])) ∧ Below W.heap.size W w'
theorem SeedR.no {o : Option (List Nat)} {W w' : World} (h : o = none) (b : Below W.heap.size W w') : SeedR o W (.returned (.tuple #[.agg (byts zero32).toArray, .bool false])) w' := by rw [h]; exact ⟨rfl, b⟩
theorem SeedR.yes {o : Option (List Nat)} {d : List Nat} {W w' : World} (h : o = some d) (b : Below W.heap.size W w') (hl : d.length = 32) (hx : ∀ x ∈ d, x < 256) : SeedR o W (.returned (.tuple #[.agg (byts d).toArray, .bool true])) w' := by rw [h]; exact ⟨⟨rfl, hl, hx⟩, b⟩
theorem seed_leaves {W w : World} {tmps : Array Value} {X : Array Value} {b : Bool} {g : Nat} {o : Option (List Nat)} {ds : List Deferred} (h2 : tmps[2]?.getD undef = .pointer (some ⟨g, 0, none⟩)) (h3 : tmps[3]?.getD undef = .bool b) (hX : X.size = 32) (B : Blk w g 32 X) (h : SeedR o W (.returned (.tuple #[.agg X, .bool b])) w) (hd : ds = []) :
    bodyPost Tryz.prog Tryz.f102 (SeedR o W) .ret { tmps := tmps, defers := ds } w := by
  have e0 := run_loadVar_row w g 32 32 X _ _ B Tryz.underlying32 rfl (by rw [hX]; exact dgs_info)
  subst hd
  refine bodyPost_ret (v := .tuple #[.agg X, .bool b]) ?_ rfl h
  simp [results, Tryz.results102, h2, h3, asAddr, e0]
theorem rp_readSeed (s : ByteArray) (W : World) : Calls Tryz.prog 102 #[.string s] W (SeedR (seedO s.data.toList) W) := by
  have hsl : s.data.toList.length = s.size := by rw [Array.length_toList]; rfl
  obtain ⟨o, ho⟩ : ∃ o, Hid (seedO s.data.toList = o) := ⟨_, Lib.hid rfl⟩
  rw [ho.out]
  have hso : Hid (o = if s.size = 64 then pairsO s.data.toList else none) := Lib.hid (by rw [← ho.out]; unfold seedO; rw [hsl])
  clear ho
  have hZ := Lib.hid dgs_built
  have hZs : (byts zero32).toArray.size = 32 := by rw [List.size_toArray, byts_length]; rfl
  have hZ1 : ∀ v ∈ (byts zero32).toArray.toList, v.oneCell' = true := byts_oneCell
  go_enter Tryz.func102, Tryz.ntmps102
  go_upto_region 1 with fail
  refine (show Code.wp _ _ _ _ (W.alloc (.cells (byts zero32).toArray 32)) from ?_)
  have hno : Hid (∀ w', o = none → Below W.heap.size W w' → SeedR o W (.returned (.tuple #[.agg (byts zero32).toArray, .bool false])) w') := Lib.hid (fun w' h b => SeedR.no h b)
  generalize hZD : (byts zero32).toArray = ZD at *
  have B0 := Blk.new W 32 ZD _ rfl
  have b0 := bAl (bRefl W) (.cells ZD 32)
  have hw1 : (W.alloc (.cells ZD 32)).heap.size = W.heap.size + 1 := by simp
  generalize W.alloc (.cells ZD 32) = w1 at *
  apply wp_region_lit
  refine wpList_buildG (by rfl) (by rfl) (by rfl) hZ.out ?_
  simp only [Act.put]
  iterate 3 go_step
  refine wpList_storeG (by rfl) (by rfl) (by rw [hw1]; rfl) (by rfl) (store_newW (by rw [hZs]; exact dgs_info) (by rw [hZs]; rfl) hZ1) ?_
  simp only [Act.put]
  have B1 := Blk.new w1 32 ZD _ hw1.symm
  replace B0 := B0.alloc (.cells ZD 32)
  replace b0 := bAl b0 (.cells ZD 32)
  generalize w1.alloc (.cells ZD 32) = w2 at *
  clear hw1 w1
  by_cases h64 : (s.size : Int) = 64
  case neg =>
    have hn : Hid (o = none) := Lib.hid (by rw [hso.out, if_neg (by omega)])
    go_upto_region 3 with fail
    apply wp_region_lit
    refine wpList_loadG (by rfl) (by rfl) (by rfl) (load_blk B1 Tryz.underlying32 rfl (by rw [hZs]; exact dgs_info)) ?_
    simp only [Act.put]
    refine wpList_storeG (by rfl) (by rfl) (by rfl) (by rfl) (store_whole B0 (by rw [hZs]; exact dgs_info) rfl hZ1) ?_
    simp only [Act.put]
    rw [setRow_same B0]
    go_wp2_with fail
    exact seed_leaves rfl rfl hZs B0 (hno.out _ hn.out b0) rfl
  have hso2 : Hid (o = pairsO s.data.toList) := Lib.hid (by rw [hso.out, if_pos (by omega)])
  clear hso
  go_upto_region 4 with fail
  go_wp2_with fail
  go_loopw [5] (fun i wr => ∃ (k : Nat) (D : List Nat), k ≤ 32 ∧ i = .int .i64 k ∧ D.length = k ∧ Below W.heap.size W wr ∧ Blk wr W.heap.size 32 ZD ∧ Hid (Blk wr (W.heap.size + 1) 32 (byts (D ++ List.replicate (32 - k) 0)).toArray ∧ ∀ j u, D[j]? = some u → pairV s.data.toList j = some u)) (fun i _ => 32 - (intOf i).toNat)
  case atStart => exact ⟨0, [], by omega, rfl, rfl, b0, B0, Lib.hid ⟨by show Blk w2 _ _ (byts zero32).toArray; rw [hZD]; exact B1, fun j u hu => by simp at hu⟩⟩
  case round =>
    clear B0 B1 b0
    obtain ⟨k, D, hk, rfl, hD, hb, B0, hI⟩ := hrel
    by_cases hlt : k < 32
    · have i1 : (k : Int) < 32 := by omega
      have m0 : IntKind.i64.wrap (2 * (k : Int)) = 2 * (k : Int) := by rw [IntKind.wrap_i64]; omega
      have m1 : IntKind.i64.wrap (2 * (k : Int) + 1) = 2 * (k : Int) + 1 := by rw [IntKind.wrap_i64]; omega
      have m2 : (0 : Int) ≤ 2 * (k : Int) ∧ 2 * (k : Int) < 64 := by omega
      have m3 : (0 : Int) ≤ 2 * (k : Int) + 1 ∧ 2 * (k : Int) + 1 < 64 := by omega
      have m4 : (2 * (k : Int)).toNat = 2 * k := by omega
      have m5 : (2 * (k : Int) + 1).toNat = 2 * k + 1 := by omega
      obtain ⟨u0, hu0⟩ : ∃ u0, s[2 * k]'(by omega) = u0 := ⟨_, rfl⟩
      obtain ⟨u1, hu1⟩ : ∃ u1, s[2 * k + 1]'(by omega) = u1 := ⟨_, rfl⟩
      have hu2 : Hid (pairV s.data.toList k = match hexV u0, hexV u1 with | some x, some y => some (16 * x + y) | _, _ => none) := Lib.hid (pair_at (by omega) hu0.symm hu1.symm)
      have bad : Hid (pairV s.data.toList k = none → o = none) := Lib.hid (fun hn => by rw [hso2.out]; exact pairs_none _ k (by omega) hn)
      have q0 := rp_digit u0 wr
      have q1 := rp_digit u1 wr
      cases hv0 : hexV u0 with
      | none =>
        have hn := Lib.hid (bad.out (by rw [hu2.out, hv0]))
        rw [show hexI u0 = -1 by unfold hexI; rw [hv0]] at q0
        generalize hexI u1 = h1 at *
        clear bad hv0 hu2 hso2
        go_upto_region 10 with (go_at_call 133; first | ((with_reducible refine q0.mono ?_); rintro e w3 ⟨rfl, rfl⟩) | ((with_reducible refine q1.mono ?_); rintro e w3 ⟨rfl, rfl⟩))
        apply wp_region_lit
        refine wpList_buildG (by rfl) (by rfl) (by rfl) hZ.out ?_
        simp only [Act.put]
        refine wpList_storeG (by rfl) (by rfl) (by rfl) (by rfl) (store_whole B0 (by rw [hZs]; exact dgs_info) rfl hZ1) ?_
        simp only [Act.put]
        rw [setRow_same B0]
        go_wp2_with fail
        exact seed_leaves rfl rfl hZs B0 (hno.out _ hn.out hb) rfl
      | some p =>
        rw [show hexI u0 = (p : Int) by unfold hexI; rw [hv0]] at q0
        cases hv1 : hexV u1 with
        | none =>
          have hn := Lib.hid (bad.out (by rw [hu2.out, hv0, hv1]))
          rw [show hexI u1 = -1 by unfold hexI; rw [hv1]] at q1
          clear bad hv0 hv1 hu2 hso2
          go_upto_region 10 with (go_at_call 133; first | ((with_reducible refine q0.mono ?_); rintro e w3 ⟨rfl, rfl⟩) | ((with_reducible refine q1.mono ?_); rintro e w3 ⟨rfl, rfl⟩))
          apply wp_region_lit
          refine wpList_buildG (by rfl) (by rfl) (by rfl) hZ.out ?_
          simp only [Act.put]
          refine wpList_storeG (by rfl) (by rfl) (by rfl) (by rfl) (store_whole B0 (by rw [hZs]; exact dgs_info) rfl hZ1) ?_
          simp only [Act.put]
          rw [setRow_same B0]
          go_wp2_with fail
          exact seed_leaves rfl rfl hZs B0 (hno.out _ hn.out hb) rfl
        | some r =>
          rw [show hexI u1 = (r : Int) by unfold hexI; rw [hv1]] at q1
          have lp := hexV_lt hv0
          have lr := hexV_lt hv1
          have hpv : pairV s.data.toList k = some (16 * p + r) := by rw [hu2.out, hv0, hv1]
          have e3 : IntKind.i64.wrap (16 * (p : Int)) = 16 * (p : Int) := by rw [IntKind.wrap_i64]; omega
          have e4 : IntKind.i64.wrap (16 * (p : Int) + (r : Int)) = ((16 * p + r : Nat) : Int) := by rw [IntKind.wrap_i64]; omega
          have e5 : IntKind.u8.wrap ((16 * p + r : Nat) : Int) = ((16 * p + r : Nat) : Int) := by rw [IntKind.wrap_u8]; omega
          have BK := hI.out.1
          have ck := BK.cell k
          have ck2 : (byts (D ++ List.replicate (32 - k) 0)).toArray[k]? = some (.int .u8 (0 : Nat)) := by
            rw [List.getElem?_toArray]
            exact byts_at (by rw [List.getElem?_append_right (by omega), hD, Nat.sub_self, List.getElem?_replicate, if_pos (by omega)])
          rw [ck2] at ck
          have zk := BK.frozen k
          have BN := Lib.hid (BK.set_ k (.int .u8 ((16 * p + r : Nat) : Int)))
          have hI2 : Hid ((byts (D ++ List.replicate (32 - k) 0)).toArray.setIfInBounds k (.int .u8 ((16 * p + r : Nat) : Int)) = (byts ((D ++ [16 * p + r]) ++ List.replicate (32 - (k + 1)) 0)).toArray ∧ ∀ j u, (D ++ [16 * p + r])[j]? = some u → pairV s.data.toList j = some u) := Lib.hid ⟨by
            rw [List.setIfInBounds_toArray]
            refine congrArg List.toArray ?_
            rw [show 32 - k = (32 - (k + 1)) + 1 by omega, List.replicate_succ]
            unfold byts
            subst hD
            rw [List.map_append, List.map_append, List.map_append, List.set_append_right _ _ (by simp), List.length_map, Nat.sub_self, List.map_cons, List.set_cons_zero, List.append_assoc]
            rfl, fun j u hj => by
            by_cases hjk : j < k
            · exact hI.out.2 j u (by rwa [List.getElem?_append_left (by omega)] at hj)
            · rw [List.getElem?_append_right (by omega)] at hj
              have hj0 : j = k := by
                have := (List.getElem?_eq_some_iff.1 hj).1
                simp at this
                omega
              subst hj0
              rw [hD, Nat.sub_self] at hj
              injection hj with hj
              rw [← hj]
              exact hpv⟩
          have B0n := B0.far (p := ⟨W.heap.size + 1, k, none⟩) (by simp) (.int .u8 ((16 * p + r : Nat) : Int))
          have hbn := bSet (p := ⟨W.heap.size + 1, k, none⟩) hb (by show W.heap.size ≤ W.heap.size + 1; omega) (.int .u8 ((16 * p + r : Nat) : Int))
          clear bad hv0 hv1 hu2 hso2 hpv hI ck2 BK
          generalize 16 * p + r = pr at *
          go_wp2_with (go_at_call 133; first | ((with_reducible refine q0.mono ?_); rintro e w3 ⟨rfl, rfl⟩) | ((with_reducible refine q1.mono ?_); rintro e w3 ⟨rfl, rfl⟩))
          exact ⟨⟨k + 1, D ++ [pr], by omega, by go_num, by simp [hD], hbn, B0n, Lib.hid ⟨by rw [← hI2.out.1]; exact BN.out, hI2.out.2⟩⟩, by simp [intOf]; omega⟩
    · obtain rfl : k = 32 := by omega
      have hp : Hid (o = some D) := Lib.hid (by rw [hso2.out]; exact pairs_ok D _ (by omega) hI.out.2)
      have hlt : ∀ x ∈ D, x < 256 := fun x hx => by
        obtain ⟨j, hj⟩ := List.getElem?_of_mem hx
        exact pairV_lt (hI.out.2 j x hj)
      have B1 := hI.out.1
      rw [show 32 - 32 = 0 from rfl, List.replicate_zero, List.append_nil] at B1
      have hXs : (byts D).toArray.size = 32 := by rw [List.size_toArray, byts_length, hD]
      have hX1 : ∀ v ∈ (byts D).toArray.toList, v.oneCell' = true := byts_oneCell
      have hyes : Hid (∀ w', Below W.heap.size W w' → SeedR o W (.returned (.tuple #[.agg (byts D).toArray, .bool true])) w') := Lib.hid (fun w' b => SeedR.yes hp.out b hD hlt)
      generalize (byts D).toArray = X at *
      go_upto_region 12 with fail
      apply wp_region_lit
      refine wpList_loadG (by rfl) (by rfl) (by rfl) (load_blk B1 Tryz.underlying32 rfl (by rw [hXs]; exact dgs_info)) ?_
      simp only [Act.put]
      refine wpList_storeG (by rfl) (by rfl) (by rfl) (by rfl) (store_whole B0 (by rw [hXs]; exact dgs_info) (by rw [hZs, hXs]) hX1) ?_
      simp only [Act.put]
      have B9 := B0.row X
      have hb9 := below_setRowP hb (Nat.le_refl _) X
      go_wp2_with fail
      exact seed_leaves rfl rfl hXs B9 (hyes.out _ hb9) rfl
end Go.Proofs.YtmbopkcmbiommaaGreatDoor
