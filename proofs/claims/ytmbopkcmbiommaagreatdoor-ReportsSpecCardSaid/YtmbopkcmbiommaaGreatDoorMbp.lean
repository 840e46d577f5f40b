/-
  reports.lines: what it yields.
-/
import Derived.Test.YtmbopkcmbiommaaGreatDoorMbo
import Derived.RangeFuncCalls
import Derived.Test.YtmbopkcmbiommaaGreatDoorMaq
import Derived.Test.YtmbopkcmbiommaaGreatDoorMbf
import Derived.Sort.CutIn
import Derived.Laws.CopyOwn
namespace Go.Proofs.YtmbopkcmbiommaaGreatDoor
open Go Go.RowKit
attribute [local go_sem] Oper.semAt_some

theorem rlines_any (s : ByteArray) (w : World) : Calls Tryz.prog 27 #[.string s] w (fun r w' => r = .returned (.func (.func 51) #[] #[.pointer (some ⟨w.heap.size, 0, none⟩)]) ∧ w' = w.alloc (.cells #[.string s] 9)) := by
  have hmf : ∀ (fn : Fn) (first cap : Array Value) (w : World), (Instr.makeFunc fn first cap).run Tryz.prog w = .ok (.func fn first cap) w := fun _ _ _ _ => rfl
  go_enter Tryz.func27, Tryz.ntmps27
  go_wp2
  go_ret
  exact ⟨rfl, rfl⟩
/-- Lines with their numbers. -/
def numL (l : List ByteArray) : List (Nat × ByteArray) := l.zipIdx.map (fun p => (p.2 + 1, p.1))
theorem numL_snoc (l : List ByteArray) (x : ByteArray) : numL (l ++ [x]) = numL l ++ [(l.length + 1, x)] := by
  unfold numL
  rw [List.zipIdx_append, List.map_append]
  simp
theorem linesC_len : ∀ s : By, (linesC s).length ≤ s.length
  | [] => Nat.le_refl _
  | x :: r => by
    have ih := linesC_len r
    unfold linesC
    split
    · simp; omega
    · cases hs : linesC r with
      | nil => simp
      | cons a t => rw [hs] at ih; simp at ih ⊢; omega
def encL (x : Nat × ByteArray) : Array Value := #[.int .i64 (x.1 : Nat), .string x.2]
/-- What the iterator yields next. -/
def PrL (s : ByteArray) (pre : List (Nat × ByteArray)) (x : Nat × ByteArray) : Prop := ∃ (l : List ByteArray) (y : ByteArray) (r : List By), pre = numL l ∧ x = (l.length + 1, y) ∧ bys (l ++ [y]) ++ r = linesC s.data.toList
set_option maxRecDepth 100000 in
set_option maxHeartbeats 4000000 in
theorem rlines_seq (b0 n : Nat) (s : ByteArray) (K : Nat → Prop) (w : World) (hK2 : K (w.heap.size + 2)) (hK3 : K (w.heap.size + 3)) (hK4 : K (w.heap.size + 4)) (hs : s.size ≤ 1000000) (hB : Blk w b0 9 #[.string s]) :
    SeqG (fun k => k = w.heap.size + 3 ∨ k = w.heap.size + 4) (n + 1) Tryz.prog 51 #[.pointer (some ⟨b0, 0, none⟩)] encL (KpC K) (fun xs => ∃ l, bys l = linesC s.data.toList ∧ xs = numL l) (fun _ => True) (PrL s) 3 w := by
  intro L J Jx W hW hsz hJ hJx hY h0
  have hBW := hB.below hW hB.lt
  have c0 := hBW.cell 0
  clear hB hW
  refine callsIn_wide.2 (calls_of_wp_dm Tryz.func51 rfl ?_)
  simp only [Tryz.ntmps51, List.size_toArray, List.length_cons, List.length_nil, Nat.reduceAdd, Nat.reduceSub, Array.replicate_succ, Array.replicate_zero, List.push_toArray, List.append_toArray, List.nil_append, List.cons_append]
  have c1 : ∀ o1 o2, ((W.alloc o1).alloc o2).cell? ⟨b0, 0, none⟩ = some (.string s) := fun o1 o2 => ((hBW.alloc o1).alloc o2).cell 0
  go_wp2_with fail
  (with_reducible refine (lines_any _ _).mono ?_)
  rintro e w' ⟨rfl, rfl⟩
  go_wp2_with fail
  have BY : Blk (((W.alloc (.cells #[.func (.yield L) #[] #[]] 126)).alloc (.cells #[.int .i64 0] 3)).alloc (.cells #[.string s] 9)) (w.heap.size + 2) 126 #[.func (.yield L) #[] #[]] := ((Blk.new W _ _ _ hsz.symm).alloc _).alloc _
  have BN : Blk (((W.alloc (.cells #[.func (.yield L) #[] #[]] 126)).alloc (.cells #[.int .i64 0] 3)).alloc (.cells #[.string s] 9)) (w.heap.size + 2 + 1) 3 #[.int .i64 0] := (Blk.new _ _ _ _ (by simp [hsz])).alloc _
  have BS : Blk (((W.alloc (.cells #[.func (.yield L) #[] #[]] 126)).alloc (.cells #[.int .i64 0] 3)).alloc (.cells #[.string s] 9)) (w.heap.size + 2 + 1 + 1) 9 #[.string s] := Blk.new _ _ _ _ (by simp [hsz])
  have hs3 : (((W.alloc (.cells #[.func (.yield L) #[] #[]] 126)).alloc (.cells #[.int .i64 0] 3)).alloc (.cells #[.string s] 9)).heap.size = w.heap.size + 5 := by simp [hsz]
  have J0 := hJ.1.alloc (.cells #[.string s] 9) (hJ.1.alloc (.cells #[.int .i64 0] 3) (hJ.1.alloc (.cells #[.func (.yield L) #[] #[]] 126) h0))
  have hll : (linesC s.data.toList).length ≤ 1000000 := Nat.le_trans (linesC_len _) (by rw [Array.length_toList]; exact hs)
  clear c0 c1 hBW h0
  generalize ((W.alloc (.cells #[.func (.yield L) #[] #[]] 126)).alloc (.cells #[.int .i64 0] 3)).alloc (.cells #[.string s] 9) = w3 at *
  refine (wpIn_wide (n := 2 + 2)).1 (wpIn_rangeFuncG 2 (gf := 85) (lb := #[.pointer (some ⟨w.heap.size + 2 + 1 + 1, 0, none⟩)]) rfl (enters_of Tryz.func85 (by kernel_rfl) rfl)
    (lines_seq (w.heap.size + 2 + 1 + 1) 2 s (fun k => k = w.heap.size + 2 + 1 + 1) rfl w3 hs BS)
    (fun k hk => by omega) KpC.trans (fun W' l ob o' _ h1 h2 _ => KpC.put W' l ob o' h1 h2) (fun _ => rfl)
    (fun pre W' => J (numL pre) W' ∧ Blk W' (w.heap.size + 2) 126 #[.func (.yield L) #[] #[]] ∧ Blk W' (w.heap.size + 2 + 1) 3 #[.int .i64 pre.length])
    (fun x a₁ pre W' => (J (numL pre) W' ∧ Blk W' (w.heap.size + 2) 126 #[.func (.yield L) #[] #[]] ∧ Blk W' (w.heap.size + 2 + 1) 3 #[.int .i64 pre.length]) ∧ a₁ = { tmps := #[.func (.yield L) #[] #[], .pointer (some ⟨b0, 0, none⟩), .pointer (some ⟨w.heap.size + 2, 0, none⟩), .pointer (some ⟨w.heap.size + 2 + 1, 0, none⟩), .string x, .string s, .func (.func 85) #[] #[.pointer (some ⟨w.heap.size + 2 + 1 + 1, 0, none⟩)], .string x, undef, undef, undef, undef, undef, undef, undef], defers := [] })
    (fun c pre W' => c = .ret ∧ Jx (numL pre) W')
    (fun pre A' B' row h hg hr => ⟨hJ.1 _ _ _ _ h.1 hg (fun r e => ⟨by have := (hr r e).1; omega, (hr r e).2⟩), h.2.1.kept hg hr, h.2.2.kept hg hr⟩)
    (fun x a pre A' B' row h hg hr => ⟨⟨hJ.1 _ _ _ _ h.1.1 hg (fun r e => ⟨by have := (hr r e).1; omega, (hr r e).2⟩), h.1.2.1.kept hg hr, h.1.2.2.kept hg hr⟩, h.2⟩)
    (fun c pre A' B' row h hg hr => ⟨h.1, hJx.1 _ _ _ _ h.2 hg (fun r e => ⟨by have := (hr r e).1; omega, (hr r e).2⟩)⟩)
    (fun pre W' p v h ht => ⟨hJ.2 _ _ _ _ h.1 (.inr (by omega)), h.2.1.far (by omega) v, h.2.2.far (by omega) v⟩)
    (fun c pre W' p v h ht => ⟨h.1, hJx.2 _ _ _ _ h.2 (.inr (by omega))⟩)
    ⟨J0, BY, BN⟩ ?assign ?body ?done ?stop)
  case assign =>
    rintro l2 pre x Wc h hszc hlen
    dsimp only
    gi_wp2
    exact ⟨KeepsFrom.refl _ _, KpC.refl _ _, h, trivial⟩
  case body =>
    rintro l2 pre x a₁ Wc ⟨⟨hj, hY2, hN2⟩, rfl⟩ hszc hlen
    have n1 := hN2.cell 0
    have n2 := hN2.frozen 0
    have y1 := hY2.cell 0
    have hlen2 : PrL s (numL pre) (pre.length + 1, x) := by obtain ⟨r, hr⟩ := hlen; exact ⟨pre, x, r, rfl, rfl, hr⟩
    have hlen3 : pre.length < (linesC s.data.toList).length := by
      obtain ⟨r, hr⟩ := hlen
      rw [← hr]
      simp [bys]
    have hw : IntKind.i64.wrap ((pre.length : Int) + 1) = (pre.length : Int) + 1 := by rw [IntKind.wrap_i64]; omega
    have hj1 : J (numL pre) (Wc.setCell ⟨w.heap.size + 2 + 1, 0, none⟩ (.int .i64 ((pre.length : Int) + 1))) := hJ.2 _ _ _ _ hj (.inl rfl)
    have hsz1 : W.heap.size + 3 ≤ (Wc.setCell ⟨w.heap.size + 2 + 1, 0, none⟩ (.int .i64 ((pre.length : Int) + 1))).heap.size := by simp [World.setCell]; omega
    have hN3 := hN2.set_ 0 (.int .i64 ((pre.length : Int) + 1))
    have hY3 : Blk (Wc.setCell ⟨w.heap.size + 2 + 1, 0, none⟩ (.int .i64 ((pre.length : Int) + 1))) (w.heap.size + 2) 126 #[.func (.yield L) #[] #[]] := hY2.far (by show _ ≠ w.heap.size + 2 + 1; omega) _
    have n3 := hN3.cell 0
    have y3 := hY3.cell 0
    have kp1 : KpC (fun k => k = w.heap.size + 2 + 1 + 1) Wc (Wc.setCell ⟨w.heap.size + 2 + 1, 0, none⟩ (.int .i64 ((pre.length : Int) + 1))) := ⟨by simp [World.setCell], fun k t cs fr hk ha => Below.heap_setCell _ _ _ _ (by show k ≠ w.heap.size + 2 + 1; omega)⟩
    have kf1 : KeepsFrom w3.heap.size Wc (Wc.setCell ⟨w.heap.size + 2 + 1, 0, none⟩ (.int .i64 ((pre.length : Int) + 1))) := (KeepsOthers.setCell _ _ _).from _
    obtain ⟨fn, tmps, assign, body, hy, hR⟩ := YieldAt.wide (hY (numL pre) (pre.length + 1, x) _ hj1 hsz1 hlen2) (L := l2) (m' := 1)
    have hy : (Instr.yield L #[.int .i64 ((pre.length : Int) + 1), .string x]).run Tryz.prog (Wc.setCell ⟨w.heap.size + 2 + 1, 0, none⟩ (.int .i64 ((pre.length : Int) + 1))) = .ok (.round L fn tmps assign body) (Wc.setCell ⟨w.heap.size + 2 + 1, 0, none⟩ (.int .i64 ((pre.length : Int) + 1))) := hy
    have kp1 := Lib.hid kp1
    have kf1 := Lib.hid kf1
    clear hY hJ hJx hj hj1 hlen hlen2
    have hE : Hid (∀ W3, KpC K (Wc.setCell ⟨w.heap.size + 2 + 1, 0, none⟩ (.int .i64 ((pre.length : Int) + 1))) W3 → Blk W3 (w.heap.size + 2) 126 #[.func (.yield L) #[] #[]] ∧ Blk W3 (w.heap.size + 2 + 1) 3 #[.int .i64 ((pre ++ [x]).length : Nat)] ∧ KpC (fun k => k = w.heap.size + 2 + 1 + 1) (Wc.setCell ⟨w.heap.size + 2 + 1, 0, none⟩ (.int .i64 ((pre.length : Int) + 1))) W3) := Lib.hid (fun W3 hk => by
      refine ⟨hk.blk hK2 hY3, ?_, hk.1, fun k t cs fr hk4 ha => hk.2 k t cs fr (by rw [hk4]; exact hK4) ha⟩
      have := hk.blk hK3 hN3
      rw [List.length_append, List.length_singleton]
      exact this)
    clear hN3 hY3 hN2 hY2
    gi_wp2
    refine hR.mono ?_
    rintro e W3 (⟨rfl, hJ3, hk3, hf3⟩ | ⟨rfl, hJx3, hf3⟩)
    · obtain ⟨g1, g2, g3⟩ := hE.out W3 hk3
      have kfA := kf1.out.trans (KeepsFrom.more hf3 (by omega))
      have kpA := kp1.out.trans g3
      rw [← numL_snoc] at hJ3
      clear hE kf1 kp1
      gi_wp2
      exact ⟨kfA, kpA, hJ3, g1, g2⟩
    · have kfA := kf1.out.trans (KeepsFrom.more hf3 (by omega))
      rw [← numL_snoc] at hJx3
      clear hE kf1 kp1
      gi_wp2
      exact ⟨kfA, rfl, hJx3⟩
  case done =>
    rintro D xs Wc hD hS ⟨hj, hY2, hN2⟩ hd
    have hj2 := hJ.1.putObj (.deferred none) hj (by omega) hd rfl
    go_wp2_with fail
    refine leavesM_mark (by simp) hd ?_
    exact ⟨.tuple #[], by simp [results, Tryz.results51, go_sem], ⟨⟨_, rfl⟩, .inl ⟨numL xs, ⟨xs, hS, rfl⟩, hj2⟩⟩⟩
  case stop =>
    rintro D c pre Wc hD _ ⟨rfl, hjx⟩ hd
    have hj2 := hJx.1.putObj (.deferred none) hjx (by omega) hd rfl
    refine wpIn_wide.2 ?_
    go_wp2_with fail
    refine leavesM_mark (by simp) hd ?_
    exact ⟨.tuple #[], by simp [results, Tryz.results51, go_sem], ⟨⟨_, rfl⟩, .inr ⟨numL pre, trivial, hj2⟩⟩⟩
end Go.Proofs.YtmbopkcmbiommaaGreatDoor

/-
  reports.Read; walked.
-/
namespace Go.Proofs.YtmbopkcmbiommaaGreatDoor
open Go Go.RowKit
attribute [local go_sem] Oper.semAt_some

def nilRS : RS := ⟨nilWS, [], []⟩
theorem rows_zero {w : World} {base : Nat} : RowsAt w base 0 (fun _ => 9) nilRS zeroW := by
  refine ⟨rfl, rfl, fun t r h => ?_, fun k s y h _ => (by cases h), fun k u y h _ => (by cases h)⟩
  have hr : r.n = 0 ∧ r.v = .slice none 0 0 ∧ r.xs = [] := by
    unfold rowQ at h
    simp only [show ∀ i : Nat, nilRS.ls[i]? = none from fun i => by simp [nilRS]] at h
    repeat' (split at h)
    all_goals first | (cases h; exact ⟨rfl, rfl, rfl⟩) | cases h
  obtain ⟨h1, h2, h3⟩ := hr
  exact ⟨⟨⟨by rw [h3, h1]; simp, .inl ⟨h2, h1⟩⟩, fun g e => by rw [h2] at e; cases e⟩, by omega⟩
theorem St_zero {w : World} {R base : Nat} (B : Blk w R 87 (nilWS.cl zeroW ++ [Value.string ⟨#[]⟩]).toArray) (h : base ≤ R) : StAt w R base 0 (fun _ => 9) nilRS zeroW ⟨#[]⟩ :=
  ⟨B, rfl, h, rfl, fun u hu => by
    have := List.eq_of_mem_replicate hu
    omega, rows_zero⟩
/-- What is kept when blocks come and what is no cells changes. -/
theorem StAt.kept {A B : World} {R base m N : Nat} {o : Nat → Nat} {q : RS} {x : Wld} {last : ByteArray} {row : Option Nat} (h : StAt A R base m o q x last) (hg : A.grownBy B row) (hr : ∀ r, row = some r → N ≤ r ∧ ∃ o : Obj, A.heap[r]? = some o ∧ o.isCells = false) : StAt B R base m o q x last := by
  have kc : ∀ g cs t f, A.heap[g]? = some (Obj.cells cs t f) → B.heap[g]? = some (Obj.cells cs t f) := fun g cs t f hc => (hg.block g (Array.getElem?_eq_some_iff.1 hc).1 (fun e => by
    obtain ⟨_, o2, h2, h3⟩ := hr g e.symm
    rw [hc] at h2
    injection h2 with h2
    subst h2
    cases h3)).trans hc
  have kw : ∀ {t : Nat} {r : Rwn}, Own A base o t r → Own B base o t r := fun hO => ⟨⟨hO.own.1, by
    rcases hO.own.2 with h2 | ⟨g, cap, cur, hv, hb, hh, q⟩
    · exact .inl h2
    · exact .inr ⟨g, cap, cur, hv, hb, kc _ _ _ _ hh, q⟩⟩, hO.tag⟩
  have kr : ∀ {A0 : Option Addr} {n : Nat} {xs : List Value}, RdO A o A0 n xs → RdO B o A0 n xs := fun hd => ⟨⟨hd.rd.1, fun h0 => by
    obtain ⟨b, off, e, hb, hc⟩ := hd.rd.2 h0
    refine ⟨b, off, e, Nat.lt_of_lt_of_le hb hg.size, fun j u hu => ?_⟩
    have h1 := hc j u hu
    unfold World.cell? at h1 ⊢
    cases hA : A.heap[b]? with
    | none => simp only [hA] at h1; cases h1
    | some ob =>
      cases ob with
      | cells cs t f => simp only [kc _ _ _ _ hA]; simpa only [hA] using h1
      | _ => simp only [hA] at h1; cases h1⟩, hd.tag⟩
  exact ⟨kc _ _ _ _ h.blk, h.oR, h.bR, h.sd, h.so, h.ra.lq, h.ra.vq, fun t r e => ⟨kw (h.ra.rows t r e).1, (h.ra.rows t r e).2⟩, fun k s y hs hy => ⟨kr (h.ra.rl k s y hs hy).1, kr (h.ra.rl k s y hs hy).2⟩, fun k u y hu hy => by
    obtain ⟨A0, c, e, hd⟩ := h.ra.rv k u y hu hy
    exact ⟨A0, c, e, kr hd⟩⟩
theorem numsT_len (l : List Int) : l.length ≤ (numsT l).length := by
  induction l with
  | nil => exact Nat.le_refl _
  | cons n l ih => unfold numsT at ih ⊢; rw [List.flatMap_cons, List.length_append, List.length_cons]; have e : (numT n).length = (itB n).length + 1 := rfl; omega
theorem row_len {r : Rw} {l : List Rw} (h : r ∈ l) : r.2.length ≤ (l.flatMap rowT).length := by
  induction l with
  | nil => cases h
  | cons a l ih =>
    rw [List.flatMap_cons, List.length_append]
    rcases List.mem_cons.1 h with rfl | h
    · have := numsT_len r.2
      unfold rowT
      simp only [List.length_append]
      omega
    · have := ih h
      omega
theorem lit_wf {n : Int} (h : okN n = true) : (Lit.int .i64 n).wf = true := by
  rw [okN_iff] at h
  have h1 : IntKind.i64.min = -9223372036854775808 := rfl
  have h2 : IntKind.i64.max = 9223372036854775807 := rfl
  simp only [Lit.wf, h1, h2, Bool.and_eq_true, decide_eq_true_eq]
  omega
/-- A world that has been read is small. -/
theorem small_read {src : By} {x : Wld} (ht : x.text = src) (ho : x.okW = true) (hs : src.length ≤ 1000000) (hseed : x.seed.length = 32) (h1 : x.lines.length ≤ 1000000) (h2 : ∀ y ∈ x.lines, y.rules.length ≤ 1000000 ∧ y.off.length ≤ 1000000) (h3 : x.base.length ≤ 1000000) (h4 : x.leg.length ≤ 1000000) (h5 : x.tiers.length ≤ 1000000) (h6 : x.orders.length ≤ 1000000) (h7 : x.ents.length ≤ 1000000) (h8 : x.secs.length ≤ 1000000) (h9 : x.faults.length ≤ 1000000) : x.small := by
  have hr : ∀ r ∈ x.rows, r.2.length ≤ 1000000 := fun r hr => by
    have := row_len hr
    have e : x.text.length = (headT x).length + (x.rows.flatMap rowT).length := by unfold Wld.text; rw [List.length_append]
    rw [ht] at e
    omega
  have hok : ∀ r ∈ x.rows, okR r = true := fun r hr => by
    unfold Wld.okW at ho
    simp only [Bool.and_eq_true] at ho
    exact List.all_eq_true.1 ho.2 r hr
  have hlin : ∀ y ∈ x.lines, lineR y ∈ x.rows := fun y hy => by
    unfold Wld.rows
    simp only [List.mem_append, List.mem_flatMap]
    exact .inr (.inr (.inl ⟨y, hy, by unfold linR; exact List.mem_cons_self ..⟩))
  have hodr : ∀ y ∈ x.orders, odrR y ∈ x.rows := fun y hy => by
    unfold Wld.rows
    simp only [List.mem_append]
    exact .inr (.inr (.inr (.inl (List.mem_map.2 ⟨y, hy, rfl⟩))))
  have hent : ∀ y ∈ x.ents, entR y ∈ x.rows := fun y hy => by
    unfold Wld.rows
    simp only [List.mem_append]
    exact .inr (.inr (.inr (.inr (.inl (List.mem_map.2 ⟨y, hy, rfl⟩)))))
  refine ⟨h1, fun y hy => ?_, h3, h4, h5, h6, fun y hy => ?_, h7, fun y hy => ?_, h8, hseed, h9⟩
  · have := hr _ (hlin y hy)
    unfold lineR at this
    simp only [List.length_append, List.length_cons, List.length_nil] at this
    exact ⟨by omega, by omega, (h2 y hy).1, (h2 y hy).2⟩
  · have := hr _ (hodr y hy)
    have h10 := hok _ (hodr y hy)
    unfold odrR at this h10
    simp only [List.length_append, List.length_cons, List.length_nil] at this
    have hc : okN y.crowd = true := by
      unfold okR at h10
      exact List.all_eq_true.1 h10 _ (by simp)
    rw [okN_iff] at hc
    exact ⟨by omega, by omega, by omega⟩
  · have h10 := hok _ (hent y hy)
    unfold entR okR at h10
    exact lit_wf (List.all_eq_true.1 h10 _ (by simp))
theorem wld_zero (w : World) (B : Nat) : WldAt w B nilWS zeroW :=
  ⟨⟨[], rfl, Rd.nil_, fun k y h => by cases h⟩, Rd.nil_, Rd.nil_, Rd.nil_, ⟨[], rfl, Rd.nil_, fun k y h => by cases h⟩, Rd.nil_, Rd.nil_, Rd.nil_⟩
theorem wpListIn_load {F : Fence} {n : Nat} {P : Program} {ops : Array Oper} {rest : List Oper} {o : Oper} {a : Act} {w : World} {Q : Exit → Act → World → Prop} (hgd : o.guard = none) {ty : TypeId} {x : Operand} (ho : o.op = .load ty x) {q v : Value} (hx : a.eval x = q)
    (hl : (Instr.loadAt ty q).run P w = .ok v w) (h : wpListIn F n P ops Q rest (a.put o.dst v) w) : wpListIn F n P ops Q (o :: rest) a w :=
  wpListIn_plain hgd fun K hK => by
    refine ⟨fun f hf => (by unfold Oper.about at hf; rw [ho] at hf; cases hf), ?_⟩
    have e := exec_load ho hx hl
    have hs : o.semAt F.round a.eval = execOp a.eval o := by
      cases F.round with
      | none => rfl
      | some l => exact Oper.semAt_some _ _ _ (by rw [ho]; intro c h; cases h)
    rw [hs, e]
    exact hK _ _ h
theorem wpListIn_store {F : Fence} {n : Nat} {P : Program} {ops : Array Oper} {rest : List Oper} {o : Oper} {a : Act} {w w' : World} {Q : Exit → Act → World → Prop} (hgd : o.guard = none) {ty : TypeId} {x y : Operand} (ho : o.op = .store ty x y) {q v : Value} (hx : a.eval x = q) (hy : a.eval y = v)
    (hl : (Instr.storeAt ty q v).run P w = .ok () w') (h : wpListIn F n P ops Q rest (a.put o.dst undef) w') : wpListIn F n P ops Q (o :: rest) a w :=
  wpListIn_plain hgd fun K hK => by
    refine ⟨fun f hf => (by unfold Oper.about at hf; rw [ho] at hf; cases hf), ?_⟩
    have e : (execOp a.eval o).run P w = .ok .skip w' := by
      unfold execOp
      rw [ho]
      simp only [Sem.run_bind, hx, hy, hl, Result.andThen_ok, Sem.run_pure]
    have hs : o.semAt F.round a.eval = execOp a.eval o := by
      cases F.round with
      | none => rfl
      | some l => exact Oper.semAt_some _ _ _ (by rw [ho]; intro c h; cases h)
    rw [hs, e]
    exact hK _ _ h
theorem setRow_same {w : World} {g : Nat} {t : TypeId} {cs : Array Value} (h : Blk w g t cs) : w.setRow g cs = w := by
  unfold World.setRow
  have : (w.heap.modify g fun o => match o with | .cells _ t fr => .cells cs t fr | o => o) = w.heap := by
    apply Array.ext_getElem?
    intro i
    rw [Array.getElem?_modify]
    by_cases hi : g = i
    · subst hi
      rw [if_pos rfl, h]
      rfl
    · rw [if_neg hi]
  exact congrArg (fun hp => ({ w with heap := hp } : World)) this
theorem inR {n : Nat} {P : Program} {f : FuncId} {args : Array Value} {w : World} {R : Ending → World → Prop} (L : Nat) (h : Calls P f args w R) : CallsIn (Fence.wide.inRound L) n P f args w R := (callsIn_wide.2 h).inRound L
theorem linesC_mem : ∀ {s : By}, ∀ t ∈ linesC s, t.length ≤ s.length
  | [], t, h => by cases h
  | x :: r, t, h => by
    unfold linesC at h
    split at h
    · rcases List.mem_cons.1 h with rfl | h
      · simp
      · have := linesC_mem t h; simp; omega
    · cases hs : linesC r with
      | nil => rw [hs] at h; simp at h; subst h; simp
      | cons a q =>
        rw [hs] at h
        rcases List.mem_cons.1 h with rfl | h
        · have := linesC_mem a (by rw [hs]; exact List.mem_cons_self ..); simp; omega
        · have := linesC_mem t (by rw [hs]; exact List.mem_cons_of_mem _ h); simp; omega
def bysN (l : List (Nat × ByteArray)) : List By := l.map (fun p => p.2.data.toList)
theorem bysN_numL (l : List ByteArray) : bysN (numL l) = bys l := by
  unfold bysN numL bys
  rw [List.map_map]
  have e : ((fun p : Nat × ByteArray => p.2.data.toList) ∘ fun p : ByteArray × Nat => (p.2 + 1, p.1)) = (fun s : ByteArray => s.data.toList) ∘ Prod.fst := rfl
  rw [e, ← List.map_map, List.zipIdx_map_fst]
/-- While lines are read. -/
structure RdI (W : World) (n : Nat) (ZW : Array Value) (pre : List (Nat × ByteArray)) (W' : World) : Prop where
  st : ∃ o q x last, StAt W' (n + 3) n pre.length o q x last ∧ Fit x last ∧ foldW 0 (zeroW, 0) (bysN pre) = .inl (x, rowN last.data.toList) ∧ ∀ g, g < n + 10 → o g = 9
  b0 : Blk W' n 35 ZW
  b1 : Blk W' (n + 1) 3 #[.int .i64 0]
  b2 : Blk W' (n + 2) 38 #[.int .i64 0]
  bl : Below n W W'
/-- A line was wrong. -/
structure RdX (W : World) (n : Nat) (ZW : Array Value) (src : By) (W' : World) : Prop where
  st : ∃ k : Nat, readV src = (zeroW, k, 590) ∧ Blk W' (n + 1) 3 #[.int .i64 k]
  b0 : Blk W' n 35 ZW
  b2 : Blk W' (n + 2) 38 #[.int .i64 590]
  bl : Below n W W'
theorem below_kept {N n : Nat} {W A B : World} {row : Option Nat} (h : Below n W A) (hg : A.grownBy B row) (hN : n ≤ N) (hr : ∀ r, row = some r → N ≤ r ∧ ∃ o : Obj, A.heap[r]? = some o ∧ o.isCells = false) (hs : n ≤ A.heap.size) : Below n W B :=
  h.grown hg hs (fun r e => by have := (hr r e).1; omega)
theorem RdI.kept {W A B : World} {n N : Nat} {ZW : Array Value} {pre : List (Nat × ByteArray)} {row : Option Nat} (h : RdI W n ZW pre A) (hN : n ≤ N) (hg : A.grownBy B row) (hr : ∀ r, row = some r → N ≤ r ∧ ∃ o : Obj, A.heap[r]? = some o ∧ o.isCells = false) : RdI W n ZW pre B := by
  obtain ⟨o, q, x, last, h1, h2, h3, h4⟩ := h.st
  exact ⟨⟨o, q, x, last, h1.kept hg hr, h2, h3, h4⟩, h.b0.kept hg hr, h.b1.kept hg hr, h.b2.kept hg hr, below_kept h.bl hg hN hr (Nat.le_of_lt h.b0.lt)⟩
theorem RdX.kept {W A B : World} {n N : Nat} {ZW : Array Value} {src : By} {row : Option Nat} (h : RdX W n ZW src A) (hN : n ≤ N) (hg : A.grownBy B row) (hr : ∀ r, row = some r → N ≤ r ∧ ∃ o : Obj, A.heap[r]? = some o ∧ o.isCells = false) : RdX W n ZW src B := by
  obtain ⟨k, h1, h2⟩ := h.st
  exact ⟨⟨k, h1, h2.kept hg hr⟩, h.b0.kept hg hr, h.b2.kept hg hr, below_kept h.bl hg hN hr (Nat.le_of_lt h.b0.lt)⟩
theorem StAt.setAny {w : World} {R base m : Nat} {o : Nat → Nat} {q : RS} {x : Wld} {last : ByteArray} (h : StAt w R base m o q x last) {p : Addr} (hg : o p.block = 9) (hne : R ≠ p.block) (v : Value) : StAt (w.setCell p v) R base m o q x last :=
  ⟨h.blk.far hne v, h.oR, h.bR, h.sd, h.so, h.ra.keep (t := 9) ⟨by simp [World.setCell], fun g _ ht => Below.heap_setCell _ _ _ _ (fun e => ht (by rw [e]; exact hg)), KeepsOthers.setCell _ _ _⟩ rfl (fun _ _ => rfl) (Nat.le_refl m)⟩
theorem RdI.beside {W A : World} {n : Nat} {ZW : Array Value} {pre : List (Nat × ByteArray)} (h : RdI W n ZW pre A) {p : Addr} (hp : n + 8 ≤ p.block ∧ p.block < n + 10) (v : Value) : RdI W n ZW pre (A.setCell p v) := by
  obtain ⟨o, q, x, last, h1, h2, h3, h4⟩ := h.st
  exact ⟨⟨o, q, x, last, h1.setAny (h4 _ hp.2) (by omega) v, h2, h3, h4⟩, h.b0.far (by omega) v, h.b1.far (by omega) v, h.b2.far (by omega) v, h.bl.setCell (by omega) v⟩
theorem RdX.beside {W A : World} {n : Nat} {ZW : Array Value} {src : By} (h : RdX W n ZW src A) {p : Addr} (hp : n + 8 ≤ p.block ∧ p.block < n + 10) (v : Value) : RdX W n ZW src (A.setCell p v) := by
  obtain ⟨k, h1, h2⟩ := h.st
  exact ⟨⟨k, h1, h2.far (by omega) v⟩, h.b0.far (by omega) v, h.b2.far (by omega) v, h.bl.setCell (by omega) v⟩
/-- What Read ends with. -/
def ReadPost (v : Wld × Nat × Int) (w : World) (r : Ending) (w' : World) : Prop :=
  ∃ s : WS, r = .returned (.tuple #[.agg (s.cl v.1).toArray, .int .i64 (v.2.1 : Nat), .int .i64 v.2.2]) ∧ WldAt w' w'.heap.size s v.1 ∧ Below w.heap.size w w' ∧ ∀ g t cs X, g < w.heap.size → Blk w' g t cs → WldAt (w'.setRow g X) w'.heap.size s v.1
theorem read_leaves {tmps : Array Value} {W w : World} {n D : Nat} {X : Array Value} {k e : Int} {v : Wld × Nat × Int} (hD : n + 3 ≤ D) (hn : n = W.heap.size) (hX : X.size = 43)
    (h2 : tmps[2]?.getD undef = .pointer (some ⟨n, 0, none⟩)) (h3 : tmps[3]?.getD undef = .pointer (some ⟨n + 1, 0, none⟩)) (h4 : tmps[4]?.getD undef = .pointer (some ⟨n + 2, 0, none⟩))
    (b0 : Blk w n 35 X) (b1 : Blk w (n + 1) 3 #[.int .i64 k]) (b2 : Blk w (n + 2) 38 #[.int .i64 e]) (bl : Below n W w) (hd : w.heap[D]? = some (.deferred (some [])))
    (hp : Below W.heap.size W (w.putObj D (.deferred none)) → ReadPost v W (.returned (.tuple #[.agg X, .int .i64 k, .int .i64 e])) (w.putObj D (.deferred none))) :
    LeavesM Tryz.prog Tryz.f12 tmps (ReadPost v W) [{ target := .collected D, args := #[] }] .returning w := by
  have b0' : Blk (w.putObj D (.deferred none)) n 35 X := (World.putObj_heap_other (by omega)).trans b0
  have b1' : Blk (w.putObj D (.deferred none)) (n + 1) 3 #[.int .i64 k] := (World.putObj_heap_other (by omega)).trans b1
  have b2' : Blk (w.putObj D (.deferred none)) (n + 2) 38 #[.int .i64 e] := (World.putObj_heap_other (by omega)).trans b2
  have bl' : Below n W (w.putObj D (.deferred none)) := bl.trans ⟨rfl, rfl, rfl, by simp [World.putObj], fun k hk => World.putObj_heap_other (by omega)⟩
  have hp := hp (by rw [← hn]; exact bl')
  refine leavesM_mark (by simp) hd ?_
  generalize w.putObj D (.deferred none) = w2 at *
  have c1 := b1'.cell 0
  have c2 := b2'.cell 0
  have e0 := run_loadVar_row w2 n 35 35 X _ _ b0' Tryz.underlying35 rfl (by rw [hX]; exact world_info)
  have e1 : (loadVar 3 ⟨n + 1, 0, none⟩).run Tryz.prog w2 = .ok (.int .i64 k) w2 := by simp [go_sem, c1]
  have e2 : (loadVar 38 ⟨n + 2, 0, none⟩).run Tryz.prog w2 = .ok (.int .i64 e) w2 := by simp [go_sem, c2]
  refine ⟨_, ?_, hp⟩
  simp [results, Tryz.results12, h2, h3, h4, asAddr, e0, e1, e2]
theorem ws_cell {s : WS} {x : Wld} : ∀ v ∈ s.cl x, v.oneCell' = true := by
  intro v hv
  unfold WS.cl at hv
  simp only [List.mem_append, List.mem_cons, List.not_mem_nil, or_false] at hv
  repeat' (rcases hv with hv | hv)
  all_goals first | rfl | exact byts_oneCell _ (by assumption)
theorem wp_region_schS {P : Program} {Q : Exit → Act → World → Prop} {S : World → Prop} {id g : Nat} {l : List Oper} {a : Act} {w : World} (hS : S w.drew) (s : List (Nat × Nat)) (h : wpSchedN P .any l.toArray (NoPanic Q) S g (listedBy s (Array.replicate l.toArray.size false)) (pickS s l) a w.drew)
    (hm : P.follows .mixedOrders = true := by kernel_rfl) (hB : (Region.noSelect l.toArray && (decide (s.length + g = l.toArray.size) && schedOkN .any l.toArray s (Array.replicate l.toArray.size false))) = true := by kernel_rfl) : (Code.region id l.toArray true).wp P Q a w := by
  simp only [Bool.and_eq_true, decide_eq_true_eq] at hB
  obtain ⟨h1, h2, h3⟩ := hB
  refine wp_region_noPanic (wp_region_any hm ?_)
  have := wpAny_of_N _ _ _ _ (schedN_any (md := .any) (Q := NoPanic Q) (ops := l.toArray) h1 (fun _ _ _ _ _ h => h) g s _ a w.drew h3 hS (by simpa using h))
  rw [h2] at this
  exact this
/-- What lies in the results' cells. -/
structure RdE (W w : World) (n D : Nat) (X : Array Value) (k e : Int) : Prop where
  b0 : Blk w n 35 X
  b1 : Blk w (n + 1) 3 #[.int .i64 k]
  b2 : Blk w (n + 2) 38 #[.int .i64 e]
  bl : Below n W w
  hd : w.heap[D]? = some (.deferred (some []))
theorem RdE.set1 {W w : World} {n D : Nat} {X : Array Value} {k e : Int} (h : RdE W w n D X k e) (hD : n + 3 ≤ D) (k' : Int) : RdE W (w.setCell ⟨n + 1, 0, none⟩ (.int .i64 k')) n D X k' e :=
  ⟨h.b0.far (by simp) _, h.b1.set_ 0 _, h.b2.far (by simp) _, h.bl.setCell (by simp) _, (Below.heap_setCell _ _ _ _ (by show D ≠ n + 1; omega)).trans h.hd⟩
theorem RdE.set2 {W w : World} {n D : Nat} {X : Array Value} {k e : Int} (h : RdE W w n D X k e) (hD : n + 3 ≤ D) (e' : Int) : RdE W (w.setCell ⟨n + 1 + 1, 0, none⟩ (.int .i64 e')) n D X k e' :=
  ⟨h.b0.far (by simp; omega) _, h.b1.far (by simp) _, h.b2.set_ 0 _, h.bl.setCell (by simp; omega) _, (Below.heap_setCell _ _ _ _ (by show D ≠ n + 1 + 1; omega)).trans h.hd⟩
theorem RdE.dr {W w : World} {n D : Nat} {X : Array Value} {k e : Int} (h : RdE W w n D X k e) : RdE W w.drew n D X k e :=
  ⟨h.b0, h.b1, h.b2, ⟨h.bl.os, h.bl.tape, h.bl.output, h.bl.size, h.bl.block⟩, h.hd⟩
theorem StAt.setRowAny {w : World} {R base m g : Nat} {o : Nat → Nat} {q : RS} {x : Wld} {last : ByteArray} {t : TypeId} {cs : Array Value} (h : StAt w R base m o q x last) (hb : Blk w g t cs) (hg : o g = 9) (hne : R ≠ g) (X : Array Value) : StAt (w.setRow g X) R base m o q x last :=
  ⟨h.blk.farRow hne X, h.oR, h.bR, h.sd, h.so, h.ra.keep (t := 9) ⟨by simp, fun k _ ht => setRow_other w g k X (fun e => ht (by rw [e]; exact hg)), ⟨by simp, fun k ob hk ho => by
    by_cases e : k = g
    · subst e
      rw [hb] at hk
      injection hk with hk
      subst hk
      cases ho
    · exact (setRow_other w g k X e).trans hk⟩⟩ rfl (fun _ _ => rfl) (Nat.le_refl m)⟩
set_option maxRecDepth 100000 in
set_option maxHeartbeats 8000000 in
theorem rep_read (src : ByteArray) (W : World) (hs : src.size ≤ 1000000) (hG : LibG W.heap.size W) : Calls Tryz.prog 12 #[.string src] W (ReadPost (readV src.data.toList) W) := by
  obtain ⟨ZW, hZW⟩ : ∃ ZW, ZW = (nilWS.cl zeroW).toArray := ⟨_, rfl⟩
  refine calls_of_wp_dm Tryz.func12 rfl ?_
  simp only [Tryz.ntmps12, List.size_toArray, List.length_cons, List.length_nil, Nat.reduceAdd, Nat.reduceSub, Array.replicate_succ, Array.replicate_zero, List.push_toArray, List.append_toArray, List.nil_append, List.cons_append]
  go_wp2_with (go_at_call 27; (with_reducible refine (rlines_any _ _).mono ?_); rintro e w' ⟨rfl, rfl⟩)
  refine (show Code.wp _ _ _ _ (((((W.alloc (.cells (nilWS.cl zeroW).toArray 35)).alloc (.cells #[.int .i64 0] 3)).alloc (.cells #[.int .i64 0] 38)).alloc (.cells (nilWS.cl zeroW ++ [Value.string ⟨#[]⟩]).toArray 87)).alloc (.cells #[.string src] 9)) from ?_)
  rw [← hZW]
  have hZs : ZW.size = 43 := by rw [hZW]; exact wsCl_size rfl
  have hZ1 : ∀ v ∈ ZW.toList, v.oneCell' = true := by
    rw [hZW]
    intro v hv
    have : (nilWS.cl zeroW).all (fun v => v.oneCell') = true := by kernel_rfl
    exact List.all_eq_true.1 this v (by simpa using hv)
  replace hZW := Lib.hid hZW
  obtain ⟨n, hn⟩ : ∃ n, n = W.heap.size := ⟨_, rfl⟩
  have hb : Below n W (((((W.alloc (.cells ZW 35)).alloc (.cells #[.int .i64 0] 3)).alloc (.cells #[.int .i64 0] 38)).alloc (.cells (nilWS.cl zeroW ++ [Value.string ⟨#[]⟩]).toArray 87)).alloc (.cells #[.string src] 9)) := by rw [hn]; exact bAl (bAl (bAl (bAl (bAl (bRefl W) _) _) _) _) _
  have B0 : Blk (((((W.alloc (.cells ZW 35)).alloc (.cells #[.int .i64 0] 3)).alloc (.cells #[.int .i64 0] 38)).alloc (.cells (nilWS.cl zeroW ++ [Value.string ⟨#[]⟩]).toArray 87)).alloc (.cells #[.string src] 9)) n 35 ZW := ((((Blk.new W _ _ _ hn).alloc _).alloc _).alloc _).alloc _
  have B1 : Blk (((((W.alloc (.cells ZW 35)).alloc (.cells #[.int .i64 0] 3)).alloc (.cells #[.int .i64 0] 38)).alloc (.cells (nilWS.cl zeroW ++ [Value.string ⟨#[]⟩]).toArray 87)).alloc (.cells #[.string src] 9)) (n + 1) 3 #[.int .i64 0] := (((Blk.new _ _ _ _ (by simp [hn])).alloc _).alloc _).alloc _
  have B2 : Blk (((((W.alloc (.cells ZW 35)).alloc (.cells #[.int .i64 0] 3)).alloc (.cells #[.int .i64 0] 38)).alloc (.cells (nilWS.cl zeroW ++ [Value.string ⟨#[]⟩]).toArray 87)).alloc (.cells #[.string src] 9)) (n + 2) 38 #[.int .i64 0] := ((Blk.new _ _ _ _ (by simp [hn])).alloc _).alloc _
  have B3 : Blk (((((W.alloc (.cells ZW 35)).alloc (.cells #[.int .i64 0] 3)).alloc (.cells #[.int .i64 0] 38)).alloc (.cells (nilWS.cl zeroW ++ [Value.string ⟨#[]⟩]).toArray 87)).alloc (.cells #[.string src] 9)) (n + 3) 87 (nilWS.cl zeroW ++ [Value.string ⟨#[]⟩]).toArray := (Blk.new _ _ _ _ (by simp [hn])).alloc _
  have B4 : Blk (((((W.alloc (.cells ZW 35)).alloc (.cells #[.int .i64 0] 3)).alloc (.cells #[.int .i64 0] 38)).alloc (.cells (nilWS.cl zeroW ++ [Value.string ⟨#[]⟩]).toArray 87)).alloc (.cells #[.string src] 9)) (n + 4) 9 #[.string src] := Blk.new _ _ _ _ (by simp [hn])
  have hs5 : (((((W.alloc (.cells ZW 35)).alloc (.cells #[.int .i64 0] 3)).alloc (.cells #[.int .i64 0] 38)).alloc (.cells (nilWS.cl zeroW ++ [Value.string ⟨#[]⟩]).toArray 87)).alloc (.cells #[.string src] 9)).heap.size = n + 5 := by simp [hn]
  have I0 : RdI W n ZW [] (((((W.alloc (.cells ZW 35)).alloc (.cells #[.int .i64 0] 3)).alloc (.cells #[.int .i64 0] 38)).alloc (.cells (nilWS.cl zeroW ++ [Value.string ⟨#[]⟩]).toArray 87)).alloc (.cells #[.string src] 9)) :=
    ⟨⟨fun _ => 9, nilRS, zeroW, ⟨#[]⟩, St_zero B3 (by omega), ⟨fun h => by have : rowN (⟨#[]⟩ : ByteArray).data.toList = 0 := rfl; omega, fun h => absurd rfl h⟩, rfl, fun _ _ => rfl⟩, B0, B1, B2, hb⟩
  generalize ((((W.alloc (.cells ZW 35)).alloc (.cells #[.int .i64 0] 3)).alloc (.cells #[.int .i64 0] 38)).alloc (.cells (nilWS.cl zeroW ++ [Value.string ⟨#[]⟩]).toArray 87)).alloc (.cells #[.string src] 9) = w5 at *
  have hG5 : ∀ W', Below n W W' → LibG n W' := fun W' b => by rw [hn] at b ⊢; exact hG.below b
  rw [← hn]
  clear B0 B1 B2 B3 hb
  replace hn := Lib.hid hn
  refine (wpIn_wide (n := 2 + 2)).1 (wpIn_rangeFuncG 2 (gf := 51) (lb := #[.pointer (some ⟨n + 4, 0, none⟩)]) rfl (enters_of Tryz.func51 (by kernel_rfl) rfl)
    (rlines_seq (n + 4) 2 src (fun k => n ≤ k ∧ k < n + 10 ∧ k ≠ n + 3) w5 (by rw [hs5]; omega) (by rw [hs5]; omega) (by rw [hs5]; omega) hs B4)
    (fun k hk => by omega) KpC.trans (fun W' l ob o' _ h1 h2 _ => KpC.put W' l ob o' h1 h2) (fun _ => rfl)
    (RdI W n ZW)
    (fun x a₁ pre W' => RdI W n ZW pre W' ∧ a₁ = { tmps := #[.string src, undef, .pointer (some ⟨n, 0, none⟩), .pointer (some ⟨n + 1, 0, none⟩), .pointer (some ⟨n + 1 + 1, 0, none⟩), .pointer (some ⟨n + 1 + 1 + 1, 0, none⟩), .int .i64 (x.1 : Nat), .string x.2, .string src, .func (.func 51) #[] #[.pointer (some ⟨n + 1 + 1 + 1 + 1, 0, none⟩)], .int .i64 (x.1 : Nat), .string x.2, undef, undef, undef, undef, undef, undef, undef, undef, undef, undef, undef, undef, undef, undef, undef, undef, undef, undef], defers := [] })
    (fun c _ W' => c = .ret ∧ RdX W n ZW src.data.toList W')
    (fun pre A' B' row h hg hr => h.kept (N := w5.heap.size) (by omega) hg hr)
    (fun x a pre A' B' row h hg hr => ⟨h.1.kept (N := w5.heap.size) (by omega) hg hr, h.2⟩)
    (fun c pre A' B' row h hg hr => ⟨h.1, h.2.kept (N := w5.heap.size) (by omega) hg hr⟩)
    (fun pre W' p v h ht => h.beside (by omega) v)
    (fun c pre W' p v h ht => ⟨h.1, h.2.beside (by omega) v⟩)
    I0 ?assign ?body ?done ?stop)
  case assign =>
    rintro L pre x Wc h hsz hpr
    dsimp only [encL]
    gi_wp2
    exact ⟨KeepsFrom.refl _ _, KpC.refl _ _, h, trivial⟩
  case body =>
    rintro L pre x a₁ Wc ⟨h, rfl⟩ hsz hpr
    obtain ⟨o, q, xw, last, hst, hfit, hfo, hnine⟩ := h.st
    obtain ⟨l, y, r, rfl, rfl, hb⟩ := hpr
    have hnl : (numL l).length = l.length := by simp [numL]
    have hsl : src.data.toList.length = src.size := by rw [Array.length_toList]; rfl
    have hm : (numL l).length ≤ 1000000 := by
      have h1 := linesC_len src.data.toList
      rw [← hb] at h1
      simp only [bys, List.length_append, List.length_map] at h1
      omega
    have hy : y.size ≤ 1000000 := by
      have h1 := linesC_mem (s := src.data.toList) y.data.toList (by rw [← hb]; simp [bys])
      have h2 : y.data.toList.length = y.size := by rw [Array.length_toList]; rfl
      omega
    have hq : Hid (Calls Tryz.prog 28 #[.pointer (some ⟨n + 1 + 1 + 1, 0, none⟩), .string y] Wc (AddPost (stepW (xw, rowN last.data.toList) y.data.toList) o (n + 3) n (numL l).length Wc)) :=
      Lib.hid (rep_add (n + 3) n (numL l).length o q xw last y Wc hst hfit hy hm (hG5 _ h.bl))
    have hfo := Lib.hid hfo
    have hh := Lib.hid h
    have hb := Lib.hid hb
    have hst := Lib.hid hst
    have hnine := Lib.hid hnine
    clear h hst hfit
    gi_wp2
    refine ⟨trivial, ?_⟩
    (with_reducible refine (inR L hq.out).mono ?_)
    clear hq
    rintro e w' ⟨hr, kz, bw⟩
    have hsz2 : Wc.heap.size ≤ w'.heap.size := bw.size
    have b0' : Blk w' n 35 ZW := (kz.1 n (by omega) (by omega) (.inr (hnine.out n (by omega)))).trans hh.out.b0
    have b1' : Blk w' (n + 1) 3 #[.int .i64 0] := (kz.1 (n + 1) (by omega) (by omega) (.inr (hnine.out _ (by omega)))).trans hh.out.b1
    have b2' : Blk w' (n + 2) 38 #[.int .i64 0] := (kz.1 (n + 2) (by omega) (by omega) (.inr (hnine.out _ (by omega)))).trans hh.out.b2
    have bl' : Below n W w' := hh.out.bl.trans bw
    have kf : KeepsFrom w5.heap.size Wc w' := kz.2.from _
    have kp : KpC (fun k => n ≤ k ∧ k < n + 10 ∧ k ≠ n + 3) Wc w' := ⟨hsz2, fun k t cs fr hk ha => kz.1 k (Array.getElem?_eq_some_iff.1 ha).1 (by omega) (.inr (hnine.out k hk.2.1))⟩
    cases hs3 : stepW (xw, rowN last.data.toList) y.data.toList with
    | some p =>
      rw [hs3] at hr
      obtain ⟨rfl, o', q', last', ha, hst', hrn, hf'⟩ := hr
      have hI : RdI W n ZW (numL l ++ [(l.length + 1, y)]) w' := ⟨⟨o', q', p.1, last', by rw [List.length_append, List.length_singleton]; exact hst', hf', by
        have e : bysN (numL l ++ [(l.length + 1, y)]) = bysN (numL l) ++ [y.data.toList] := by simp [bysN]
        rw [e, foldW_app, hfo.out]
        show (match stepW (xw, rowN last.data.toList) y.data.toList with | some st' => foldW (0 + (bysN (numL l)).length + 1) st' [] | none => .inr _) = _
        rw [hs3, hrn]
        rfl, fun g h2 => (ha g (by omega)).trans (hnine.out g h2)⟩, b0', b1', b2', bl'⟩
      replace hI := Lib.hid hI
      clear hst' hfo hh hb hst hnine b0' b1' b2' bl' kz bw ha
      gi_wp2
      exact ⟨kf, kp, hI.out⟩
    | none =>
      rw [hs3] at hr
      obtain rfl := hr
      have hrd : readV src.data.toList = (zeroW, l.length + 1, 590) := by
        have e : foldW 0 (zeroW, 0) (linesC src.data.toList) = .inr (l.length + 1) := by
          rw [← hb.out]
          have e2 : bys (l ++ [y]) ++ r = bys l ++ y.data.toList :: r := by simp [bys]
          rw [e2]
          have h1 := hfo.out
          rw [bysN_numL] at h1
          rw [fold_none h1 hs3]
          simp [bys]
        unfold readV
        rw [e]
      replace hrd := Lib.hid hrd
      have LL := load_blk b0' Tryz.underlying35 rfl (by rw [hZs]; exact world_info)
      clear hfo hh hb hst hnine kz bw
      have c1 := b1'.cell 0
      have f1 := b1'.frozen 0
      have c2 := b2'.cell 0
      have f2 := b2'.frozen 0
      have hX : Hid (RdX W n ZW src.data.toList ((w'.setCell ⟨n + 1, 0, none⟩ (.int .i64 (l.length + 1 : Nat))).setCell ⟨n + 1 + 1, 0, none⟩ (.int .i64 590))) := Lib.hid ⟨⟨l.length + 1, hrd.out, (b1'.set_ 0 _).far (by simp) _⟩, (b0'.far (by simp) _).far (by simp; omega) _, (b2'.far (by simp) _).set_ 0 _, (bl'.setCell (by simp) _).setCell (by simp; omega) _⟩
      have kf2 : Hid (KeepsFrom w5.heap.size Wc ((w'.setCell ⟨n + 1, 0, none⟩ (.int .i64 (l.length + 1 : Nat))).setCell ⟨n + 1 + 1, 0, none⟩ (.int .i64 590))) := Lib.hid ((kf.trans ((KeepsOthers.setCell _ _ _).from _)).trans ((KeepsOthers.setCell _ _ _).from _))
      clear bl' kf kp hrd
      gi_upto_region 6 with fail
      apply wpIn_region_lit
      refine wpListIn_load rfl rfl rfl LL ?_
      iterate 3 gi_step
      refine wpListIn_store rfl rfl rfl rfl (store_whole b0' (by rw [hZs]; exact world_info) rfl hZ1) ?_
      rw [setRow_same b0']
      clear LL b0' b1' b2'
      gi_wp2
      exact ⟨kf2.out, rfl, hX.out⟩
  case done =>
    rintro D xs Wc hD hS h hd
    obtain ⟨l, hl, rfl⟩ := hS
    obtain ⟨o, q, x, last, hst, hfit, hfo, hnine⟩ := h.st
    rw [bysN_numL, hl] at hfo
    have hnl : (numL l).length = l.length := by simp [numL]
    have hsl : src.data.toList.length = src.size := by rw [Array.length_toList]; rfl
    have hm : l.length ≤ 1000000 := by
      have h1 := linesC_len src.data.toList
      rw [← hl] at h1
      simp only [bys, List.length_map] at h1
      omega
    have c43 : Wc.cell? ⟨n + 1 + 1 + 1, 43, none⟩ = some (.string last) := (hst.blk.cell 43).trans (fld43 _ _ _ hst.sd)
    have b0 := h.b0
    have b1 := h.b1
    have b2 := h.b2
    have bl := h.bl
    have LL := load_blk b0 Tryz.underlying35 rfl (by rw [hZs]; exact world_info)
    have c1 := b1.cell 0
    have f1 := b1.frozen 0
    have c2 := b2.cell 0
    have f2 := b2.frozen 0
    clear h hl
    by_cases h0 : last = ⟨#[]⟩
    · subst h0
      have hrd : readV src.data.toList = (zeroW, 1, 590) := by
        unfold readV
        rw [hfo]
        exact if_pos rfl
      replace hrd := Lib.hid hrd
      clear hst hfit hfo hnine
      go_upto_region 8 with fail
      apply wp_region_lit
      refine wpList_loadG (by rfl) (by rfl) (by rfl) LL ?_
      simp only [Act.put]
      refine wpList_storeG (by rfl) (by rfl) (by rfl) (by rfl) (store_whole b0 (by rw [hZs]; exact world_info) rfl hZ1) ?_
      rw [setRow_same b0]
      simp only [Act.put]
      have b0' : Hid (Blk ((Wc.setCell ⟨n + 1, 0, none⟩ (.int .i64 1)).setCell ⟨n + 1 + 1, 0, none⟩ (.int .i64 590)) n 35 ZW) := Lib.hid ((b0.far (by simp) _).far (by simp; omega) _)
      have b1' : Hid (Blk ((Wc.setCell ⟨n + 1, 0, none⟩ (.int .i64 1)).setCell ⟨n + 1 + 1, 0, none⟩ (.int .i64 590)) (n + 1) 3 #[.int .i64 1]) := Lib.hid ((b1.set_ 0 _).far (by simp) _)
      have b2' : Hid (Blk ((Wc.setCell ⟨n + 1, 0, none⟩ (.int .i64 1)).setCell ⟨n + 1 + 1, 0, none⟩ (.int .i64 590)) (n + 2) 38 #[.int .i64 590]) := Lib.hid ((b2.far (by simp) _).set_ 0 _)
      have bl' : Hid (Below n W ((Wc.setCell ⟨n + 1, 0, none⟩ (.int .i64 1)).setCell ⟨n + 1 + 1, 0, none⟩ (.int .i64 590))) := Lib.hid ((bl.setCell (by simp) _).setCell (by simp; omega) _)
      have hd' : ((Wc.setCell ⟨n + 1, 0, none⟩ (.int .i64 1)).setCell ⟨n + 1 + 1, 0, none⟩ (.int .i64 590)).heap[D]? = some (.deferred (some [])) := (Below.heap_setCell _ _ _ _ (by show D ≠ n + 1 + 1; omega)).trans ((Below.heap_setCell _ _ _ _ (by show D ≠ n + 1; omega)).trans hd)
      clear LL b0 b1 b2 bl hd
      go_wp2_with fail
      refine read_leaves (by omega) hn.out hZs rfl rfl rfl b0'.out b1'.out b2'.out bl'.out hd' (fun hb => ?_)
      rw [hrd.out, hZW.out]
      exact ⟨nilWS, rfl, wld_zero _ _, hb, fun _ _ _ _ _ _ => wld_zero _ _⟩
    · have h5 : last.toList.isEmpty = false := by
        rw [ByteArray.toList_eq, List.isEmpty_eq_false_iff]
        exact fun e => h0 (ByteArray.ext (by rw [← Array.toArray_toList (xs := last.data), e]))
      have hk0 : rowN last.data.toList ≠ 0 := hfit.2 (fun e => h0 (ByteArray.ext (Array.eq_empty_of_size_eq_zero e)))
      obtain ⟨ht, hok, hfine⟩ := text_fold hfo hk0
      have hn1 : ∀ {t : Nat} {e : TypeId} {sz : Nat} {v : Value} {xs : List Value} {N : Nat}, rowQ q x t = some ⟨e, sz, v, N, xs⟩ → N ≤ 1000000 := fun e => by
        have := (hst.ra.rows _ _ e).2
        rw [hnl] at this
        exact Nat.le_trans this hm
      have hsmall : x.small := small_read ht hok (by rw [hsl]; exact hs) hst.sd (hn1 (t := 4) rfl) (fun y hy => by
        obtain ⟨k, hk⟩ := List.getElem?_of_mem hy
        obtain ⟨u, hu⟩ : ∃ u, q.ls[k]? = some u := ⟨_, List.getElem?_eq_getElem (by rw [hst.ra.lq]; exact (List.getElem?_eq_some_iff.1 hk).1)⟩
        refine ⟨hn1 (t := 10 + 2 * k) (v := .slice u.a2 y.rules.length u.c2) (xs := y.rules.flatMap Rl.cl) (e := 59) (sz := 3) ?_, hn1 (t := 11 + 2 * k) (v := .slice u.a3 y.off.length u.c3) (xs := y.off.flatMap Gp.cl) (e := 61) (sz := 2) ?_⟩
        · unfold rowQ
          rw [if_neg (by omega), if_neg (by omega), if_neg (by omega), if_neg (by omega), if_neg (by omega), if_neg (by omega), if_neg (by omega), if_neg (by omega), if_neg (by omega), show (10 + 2 * k - 10) / 2 = k by omega, hu, hk]
          simp only
          rw [if_pos (by omega)]
        · unfold rowQ
          rw [if_neg (by omega), if_neg (by omega), if_neg (by omega), if_neg (by omega), if_neg (by omega), if_neg (by omega), if_neg (by omega), if_neg (by omega), if_neg (by omega), show (11 + 2 * k - 10) / 2 = k by omega, hu, hk]
          simp only
          rw [if_neg (by omega)]) (hn1 (t := 1) rfl) (hn1 (t := 2) rfl) (hn1 (t := 3) rfl) (hn1 (t := 5) rfl) (hn1 (t := 6) rfl) (hn1 (t := 7) rfl) (hn1 (t := 8) rfl)
      have LX : (Instr.loadAt 35 (.pointer (some ⟨n + 1 + 1 + 1, 0, none⟩))).run Tryz.prog Wc = .ok (.agg (q.ws.cl x).toArray) Wc :=
        run_loadAt_mid (P := Tryz.prog) Wc (n + 3) 0 35 (q.ws.cl x) _ (fun j v hj => by
          rw [Nat.zero_add, hst.blk.cell, List.getElem?_toArray, List.getElem?_append_left (List.getElem?_eq_some_iff.1 hj).1]
          exact hj) Tryz.underlying35 rfl (by rw [wsCl_length hst.sd]; exact world_info)
      obtain ⟨XW, hXW⟩ : ∃ XW, Hid (XW = (q.ws.cl x).toArray) := ⟨_, Lib.hid rfl⟩
      obtain ⟨E, hE⟩ : ∃ E, Hid (E = postE x) := ⟨_, Lib.hid rfl⟩
      have qc : Hid (Calls Tryz.prog 15 #[.agg XW] Wc (Ret (.int .i64 E) Wc)) := Lib.hid (by rw [hXW.out, hE.out]; exact post_check q.ws x Wc hst.ra.wld hsmall)
      rw [← hXW.out] at LX
      have hXs : XW.size = 43 := by rw [hXW.out]; exact wsCl_size hst.sd
      have hX1 : Hid (∀ v ∈ XW.toList, v.oneCell' = true) := Lib.hid (by
        rw [hXW.out]
        intro v hv
        exact ws_cell v (by simpa using hv))
      have hrd : Hid (readV src.data.toList = if E = 0 then (x, 0, 0) else (zeroW, 0, E)) := Lib.hid (by
        unfold readV
        rw [hfo]
        simp only
        rw [if_neg hk0, hE.out])
      have hst := Lib.hid hst
      replace hnine := Lib.hid hnine
      replace b0 := Lib.hid b0
      replace b1 := Lib.hid b1
      replace b2 := Lib.hid b2
      replace hd := Lib.hid hd
      replace hD := Lib.hid hD
      clear hfit hfo hk0 ht hok hfine hsmall LL c1 f1 c2 f2 hn1
      rename Hid (StAt _ _ _ _ _ _ _ _) => hstH
      go_upto_region 9 with fail
      apply wp_region_lit
      iterate 3 go_step
      refine wpList_loadG (by rfl) (by rfl) (by rfl) LX ?_
      simp only [Act.put]
      clear LX c43
      go_wp2_with fail
      refine qc.out.mono ?_
      rintro e w6 ⟨rfl, b6⟩
      have R6 : RdE W w6 n D ZW 0 0 := ⟨b0.out.below b6 b0.out.lt, b1.out.below b6 b1.out.lt, b2.out.below b6 b2.out.lt, bl.trans (b6.mono (Nat.le_of_lt b0.out.lt)), (b6.block D (Array.getElem?_eq_some_iff.1 hd.out).1).trans hd.out⟩
      have S6 := hstH.out.later b6 (fun _ _ => rfl) (Nat.le_refl _)
      have hD3 : n + 3 ≤ D := by have := hD.out; omega
      clear qc b6 hstH hd b0 b1 b2 bl hD
      have c2 := R6.b2.cell 0
      have f2 := R6.b2.frozen 0
      have R7 := Lib.hid (R6.set2 hD3 E)
      have S7 := Lib.hid (S6.setAny (p := ⟨n + 1 + 1, 0, none⟩) (hnine.out _ (show n + 1 + 1 < n + 10 by omega)) (by simp) (.int .i64 E))
      clear R6 S6
      go_upto_region 10 with fail
      generalize w6.setCell ⟨n + 1 + 1, 0, none⟩ (.int .i64 E) = w7 at *
      clear c2 f2
      have c2 := R7.out.b2.cell 0
      by_cases hE0 : E = 0
      · subst hE0
        replace hrd := Lib.hid (hrd.out.trans (if_pos rfl))
        have LX : (Instr.loadAt 35 (.pointer (some ⟨n + 1 + 1 + 1, 0, none⟩))).run Tryz.prog w7 = .ok (.agg XW) w7 := by
          rw [hXW.out]
          exact run_loadAt_mid (P := Tryz.prog) w7 (n + 3) 0 35 (q.ws.cl x) _ (fun j v hj => by
            rw [Nat.zero_add, S7.out.blk.cell, List.getElem?_toArray, List.getElem?_append_left (List.getElem?_eq_some_iff.1 hj).1]
            exact hj) Tryz.underlying35 rfl (by rw [wsCl_length S7.out.sd]; exact world_info)
        go_upto_region 12 with fail
        apply wp_region_lit
        iterate 3 go_step
        refine wpList_loadG (by rfl) (by rfl) (by rfl) LX ?_
        simp only [Act.put]
        have b0 := R7.out.b0
        refine wpList_storeG (by rfl) (by rfl) (by rfl) (by rfl) (store_whole b0 (by rw [hXs]; exact world_info) (by rw [hXs, hZs]) hX1.out) ?_
        simp only [Act.put]
        have R8 : RdE W (w7.setRow n XW) n D XW 0 0 := ⟨b0.row _, R7.out.b1.farRow (by omega) _, R7.out.b2.farRow (by omega) _, below_setRow R7.out.bl (Nat.le_refl n) _, (setRow_other _ _ _ _ (by omega)).trans R7.out.hd⟩
        have S8 := S7.out.setRowAny b0 (hnine.out _ (by omega)) (by omega) XW
        clear b0 LX c2 R7 S7
        generalize w7.setRow n XW = w8 at *
        have c1 := R8.b1.cell 0
        have f1 := R8.b1.frozen 0
        have c2 := (R8.set1 hD3 0).b2.cell 0
        have f2 := (R8.set1 hD3 0).b2.frozen 0
        have R9 := Lib.hid ((R8.set1 hD3 0).set2 hD3 0)
        have S9 := Lib.hid ((S8.setAny (p := ⟨n + 1, 0, none⟩) (hnine.out _ (show n + 1 < n + 10 by omega)) (by simp) (.int .i64 0)).setAny (p := ⟨n + 1 + 1, 0, none⟩) (hnine.out _ (show n + 1 + 1 < n + 10 by omega)) (by simp) (.int .i64 0))
        clear R8 S8
        go_wp2_with fail
        refine read_leaves hD3 hn.out hXs rfl rfl rfl R9.out.b0 R9.out.b1 R9.out.b2 R9.out.bl R9.out.hd (fun hb => ?_)
        rw [hrd.out, hXW.out]
        have S10 := S9.out.kept (N := n + 3) (grownBy_putObj' _ D (.deferred none)) (fun r e => by cases e; exact ⟨by omega, _, R9.out.hd, rfl⟩)
        refine ⟨q.ws, rfl, S10.ra.wld, hb, fun g t cs X hg hB => ?_⟩
        have h9 := (S10.setRowAny hB (hnine.out g (by have := hn.out; omega)) (by have := hn.out; omega) X).ra.wld
        exact h9.more (by simp [World.setRow])
      · replace hrd := Lib.hid (hrd.out.trans (if_neg hE0))
        go_upto_region 11 with fail
        refine wp_region_schS (S := fun w => RdE W w n D ZW 0 E) (g := 0) R7.out.dr [(0, 2), (1, 2), (2, 0), (3, 0), (4, 0)] ?_
        simp only [pickS, List.getElem?_cons_zero, List.getElem?_cons_succ]
        refine wpSchedN_r (v := .agg ZW) ?_ (hv := fun w hS => exec_load rfl rfl (load_blk hS.b0 Tryz.underlying35 rfl (by rw [hZs]; exact world_info)))
        refine wpSchedN_r (v := .int .i64 E) ?_ (hv := by intro w hS; have c2 := hS.b2.cell 0; go_simp)
        have R7 := R7.out.dr
        clear c2 S7
        generalize w7.drew = w8 at *
        refine wpSchedN_force (fun K hK => ?_)
        refine step_storeG (by rfl) (by rfl) (by rfl) (by rfl) (store_whole R7.b0 (by rw [hZs]; exact world_info) rfl hZ1) ?_
        rw [setRow_same R7.b0]
        refine hK.out _ _ R7 (fun _ => ?_)
        clear hK K
        simp only [Act.put]
        refine wpSchedN_force (fun K hK => ?_)
        have c1 := R7.b1.cell 0
        have f1 := R7.b1.frozen 0
        have R8 := R7.set1 hD3 0
        replace R7 := Lib.hid R7
        go_simp
        refine hK.out _ _ R8 (fun _ => ?_)
        clear hK K R7 c1 f1
        refine wpSchedN_force (fun K hK => ?_)
        have c2 := R8.b2.cell 0
        have f2 := R8.b2.frozen 0
        have R9 := Lib.hid (R8.set2 hD3 E)
        replace R8 := Lib.hid R8
        go_simp
        refine hK.out _ _ R9.out (fun _ => ?_)
        clear hK K c2 f2 R8
        refine anyN_end ?_
        refine NoPanic.normal ?_
        go_wp2_with fail
        refine read_leaves hD3 hn.out hZs rfl rfl rfl R9.out.b0 R9.out.b1 R9.out.b2 R9.out.bl R9.out.hd (fun hb => ?_)
        rw [hrd.out, hZW.out]
        exact ⟨nilWS, rfl, wld_zero _ _, hb, fun _ _ _ _ _ _ => wld_zero _ _⟩
  case stop =>
    rintro D c pre Wc hD _ ⟨rfl, h⟩ hd
    obtain ⟨k, hrd, b1⟩ := h.st
    have b0 := Lib.hid h.b0
    have b2 := Lib.hid h.b2
    have bl := Lib.hid h.bl
    replace b1 := Lib.hid b1
    replace hrd := Lib.hid hrd
    clear h
    refine wpIn_wide.2 ?_
    go_wp2_with fail
    refine read_leaves (by omega) hn.out hZs rfl rfl rfl b0.out b1.out b2.out bl.out hd (fun hb => ?_)
    rw [hrd.out, hZW.out]
    exact ⟨nilWS, rfl, wld_zero _ _, hb, fun _ _ _ _ _ _ => wld_zero _ _⟩
end Go.Proofs.YtmbopkcmbiommaaGreatDoor
