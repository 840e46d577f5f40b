/- strings.Lines: what it yields. -/
import Derived.Test.YtmbopkcmbiommaaGreatDoorRbi
import Derived.RangeFuncCalls
set_option maxRecDepth 1000000
set_option maxHeartbeats 16000000
namespace Go.Proofs.YtmbopkcmbiommaaGreatDoor
open Go Go.RowKit
def KpC (K : Nat → Prop) (A B : World) : Prop := A.heap.size ≤ B.heap.size ∧ ∀ k t cs fr, K k → A.heap[k]? = some (.cells cs t fr) → B.heap[k]? = A.heap[k]?
theorem KpC.refl (K : Nat → Prop) (A : World) : KpC K A A := ⟨Nat.le_refl _, fun _ _ _ _ _ _ => rfl⟩
theorem KpC.trans {K : Nat → Prop} {A B C : World} (h : KpC K A B) (k : KpC K B C) : KpC K A C :=
  ⟨Nat.le_trans h.1 k.1, fun g t cs fr hg ha => by
    have h1 := h.2 g t cs fr hg ha
    exact (k.2 g t cs fr hg (h1.trans ha)).trans h1⟩
theorem KpC.put {K : Nat → Prop} (W : World) (l : Nat) (o o' : Obj) (hl : W.heap[l]? = some o) (ho : o.isCells = false) : KpC K W (W.putObj l o') :=
  ⟨by simp [World.putObj], fun k t cs fr _ ha => World.putObj_heap_other (fun e => by
    subst e
    rw [hl] at ha
    injection ha with ha
    subst ha
    simp [Obj.isCells] at ho)⟩
theorem KpC.blk {K : Nat → Prop} {A B : World} {g : Nat} {t : TypeId} {cs : Array Value} (h : KpC K A B) (hg : K g) (b : Blk A g t cs) : Blk B g t cs := (h.2 g _ _ _ hg b).trans b
theorem lines_any (s : ByteArray) (w : World) : Calls Tryz.prog 52 #[.string s] w (fun r w' => r = .returned (.func (.func 85) #[] #[.pointer (some ⟨w.heap.size, 0, none⟩)]) ∧ w' = w.alloc (.cells #[.string s] 9)) := by
  have hmf : ∀ (fn : Fn) (first cap : Array Value) (w : World), (Instr.makeFunc fn first cap).run Tryz.prog w = .ok (.func fn first cap) w := fun _ _ _ _ => rfl
  go_enter Tryz.func52, Tryz.ntmps52
  go_wp2
  go_ret
  exact ⟨rfl, rfl⟩
theorem linesC_one : ∀ {s : By}, s ≠ [] → (∀ x ∈ s, x ≠ 10) → linesC s = [s]
  | [], h, _ => absurd rfl h
  | x :: r, _, hx => by
    unfold linesC
    rw [if_neg (hx x (List.mem_cons_self ..))]
    cases r with
    | nil => rfl
    | cons y r => rw [linesC_one (by simp) (fun z hz => hx z (List.mem_cons_of_mem _ hz))]
theorem lines_next {s : ByteArray} (h0 : s.size ≠ 0) : (Lib.indexByte s.data.toList 10 = -1 ∧ linesC s.data.toList = [s.data.toList]) ∨
    ∃ i : Nat, Lib.indexByte s.data.toList 10 = (i : Int) ∧ i + 1 ≤ s.size ∧ linesC s.data.toList = (s.extract 0 (i + 1)).data.toList :: linesC (s.extract (i + 1) s.size).data.toList := by
  have hs : s.data.toList.length = s.size := by rw [Array.length_toList]; rfl
  have e1 : ∀ a b, (s.extract a b).data.toList = (s.data.toList.take b).drop a := fun a b => by rw [ByteArray.data_extract, Array.toList_extract, List.extract_eq_take_drop, List.drop_take]
  rcases byte_first 10 s.data.toList with ⟨h1, h2⟩ | ⟨a, b, h1, h2, h3⟩
  · exact .inl ⟨h1, linesC_one (by intro e; rw [e] at hs; simp at hs; omega) h2⟩
  · refine .inr ⟨a.length, h3, by rw [← hs, h1]; simp, ?_⟩
    rw [e1, e1, ← hs, h1, linesC_row h2]
    rw [List.take_length, List.take_length_add_append, List.drop_length_add_append]
    rfl
def boxLen (w : World) (b : Nat) : Nat := match w.cell? ⟨b, 0, none⟩ with
  | some (.string s) => s.size
  | _ => 0
theorem boxLen_eq {w : World} {b : Nat} {s : ByteArray} (h : w.cell? ⟨b, 0, none⟩ = some (.string s)) : boxLen w b = s.size := by unfold boxLen; rw [h]
theorem lines_seq (b1 n : Nat) (s : ByteArray) (K : Nat → Prop) (hK : K b1) (w : World) (hs : s.size ≤ 1000000) (hB : Blk w b1 9 #[.string s]) :
    SeqG (fun k => k = b1) (n + 1) Tryz.prog 85 #[.pointer (some ⟨b1, 0, none⟩)] (fun x : ByteArray => #[.string x]) (KpC K) (fun xs => bys xs = linesC s.data.toList) (fun _ => True) (fun pre x => ∃ r, bys (pre ++ [x]) ++ r = linesC s.data.toList) 0 w := by
  intro L J Jx W hW hsz hJ hJx hY h0
  have hBW := hB.below hW hB.lt
  clear hB hW hJx
  refine callsIn_of_wp Tryz.func85 rfl trivial ?_ rfl
  simp only [Tryz.ntmps85, List.size_toArray, List.length_cons, List.length_nil, Nat.reduceAdd, Nat.reduceSub, Array.replicate_succ, Array.replicate_zero, List.push_toArray, List.append_toArray, List.nil_append, List.cons_append]
  gi_wp2
  gi_loopw [] (fun wr => ∃ (pre : List ByteArray) (r : ByteArray), r.size ≤ 1000000 ∧ Blk wr b1 9 #[.string r] ∧ J pre wr ∧ W.heap.size ≤ wr.heap.size ∧ Hid (bys pre ++ linesC r.data.toList = linesC s.data.toList)) (fun wr => boxLen wr b1)
  case atStart => exact ⟨[], s, hs, hBW, h0, Nat.le_refl _, Lib.hid rfl⟩
  case round =>
    clear hBW h0
    obtain ⟨pre, r, hr, hB, hj, hsw, hp⟩ := hrel
    have c1 : wr.cell? ⟨b1, 0, none⟩ = some (.string r) := hB.cell 0
    have hbl := boxLen_eq c1
    by_cases h0 : r.size = 0
    · have hre : bys pre = linesC s.data.toList := by
        have := hp.out
        have h1 : r.data.toList = [] := List.eq_nil_of_length_eq_zero (by rw [Array.length_toList]; exact h0)
        rw [h1] at this
        simpa [linesC] using this
      clear hp hbl hY
      gi_wp2
      go_end0
      exact ⟨⟨_, rfl⟩, .inl ⟨pre, hre, hj⟩⟩
    · have i0 : (0 : Int) < (r.size : Int) := by omega
      have q1 : Hid (∀ w, Calls Tryz.prog 86 #[.string r, .int .u8 10] w (Same (.int .i64 (Lib.indexByte r.data.toList 10)) w)) := Lib.hid (fun w => index_byte r 10 w)
      have z1 := hB.frozen 0
      rcases lines_next h0 with ⟨e1, e2⟩ | ⟨i, e1, e2, e3⟩
      · have hlen : pre.length < (linesC s.data.toList).length := by
          rw [← hp.out, e2]
          simp [bys]
        have hp2 : Hid (bys (pre ++ [r]) ++ linesC (ByteArray.empty).data.toList = linesC s.data.toList) := Lib.hid (by
          rw [← hp.out, e2]
          simp [bys, linesC])
        rw [e1] at q1
        clear e1 e2 hp
        refine wpIn_wide.2 ?_
        go_upto_region 6 with (go_at_call 86; (with_reducible refine (q1.out _).mono ?_); rintro e w2 ⟨rfl, rfl⟩)
        have hj2 : J pre (wr.setCell ⟨b1, 0, none⟩ (.string ⟨#[]⟩)) := hJ.2 _ _ _ _ hj rfl
        have hB2 : Blk (wr.setCell ⟨b1, 0, none⟩ (.string ⟨#[]⟩)) b1 9 #[.string ⟨#[]⟩] := hB.set_ 0 _
        have hsw2 : W.heap.size + 0 ≤ (wr.setCell ⟨b1, 0, none⟩ (.string ⟨#[]⟩)).heap.size := by simp [World.setCell]; exact hsw
        clear z1
        obtain ⟨fn, tmps, assign, body, hy, hR⟩ := hY pre r _ hj2 hsw2 ⟨_, hp2.out⟩
        have hB3 := Lib.hid (fun W3 (hk3 : KpC K _ W3) => hk3.blk hK hB2)
        have hsw3 := Lib.hid (fun W3 (hk3 : KpC K _ W3) => Nat.le_trans hsw2 hk3.1)
        clear hB2 hB c1 hj hj2 hY
        refine (wpIn_wide (n := n + 1)).1 ?_
        gi_wp2
        refine hR.mono ?_
        rintro e W3 (⟨rfl, hJ3, hk3, -⟩ | ⟨rfl, hJx3, -⟩)
        · have b3 := hB3.out W3 hk3
          have s3 := hsw3.out W3 hk3
          clear hB3 hsw3
          gi_wp2
          go_wp2_with fail
          exact ⟨⟨pre ++ [r], ⟨#[]⟩, by decide, b3, hJ3, by omega, hp2⟩, by rw [hbl, boxLen_eq (b3.cell 0)]; show 0 < r.size; omega⟩
        · gi_wp2
          go_wp2_with fail
          refine bodyPost_ret (results_none rfl _ _ _) rfl ?_
          exact ⟨⟨_, rfl⟩, .inr ⟨_, trivial, hJx3⟩⟩
      · refine wpIn_wide.2 ?_
        have hp2 : Hid (bys (pre ++ [r.extract 0 (i + 1)]) ++ linesC (r.extract (i + 1) r.size).data.toList = linesC s.data.toList) := Lib.hid (by
          rw [← hp.out, e3]
          simp [bys])
        rw [e1] at q1
        have hi2 : (r.extract (i + 1) r.size).size < r.size := by rw [ByteArray.size_extract]; omega
        have i1 : (i : Int) + 1 ≤ (r.size : Int) := by omega
        have i2 : (0 : Int) ≤ (i : Int) + 1 := by omega
        have hw : IntKind.i64.wrap ((i : Int) + 1) = (i : Int) + 1 := by rw [IntKind.wrap_i64]; omega
        have hn1 : ((i : Int) + 1).toNat = i + 1 := by omega
        have KS : Hid (∀ w', Below wr.heap.size wr w' → w'.cell? ⟨b1, 0, none⟩ = some (.string r)) := Lib.hid (fun w' b => (hB.below b hB.lt).cell 0)
        clear e1 e3 hp
        go_upto_region 4 with (go_at_call 86; (with_reducible refine (q1.out _).mono ?_); rintro e w2 ⟨rfl, rfl⟩)
        refine wp_region_schB (f := 9) KS [(0, 2), (1, 1), (2, 1), (3, 1), (4, 2), (5, 1), (6, 1), (7, 1), (8, 0), (9, 3)] ?_
        simp only [pickS, List.getElem?_cons_zero, List.getElem?_cons_succ]
        refine wpSched_r ?_
        refine wpSched_t ?_
        refine wpSched_t ?_
        refine wpSched_t ?_
        refine wpSched_r ?_
        refine wpSched_t ?_
        refine wpSched_t ?_
        refine wpSched_t ?_
        refine wpSched_force (fun K hK => ?_)
        go_simp
        refine shut_go hK KS ?_
        clear hK K
        refine wpSched_last ?_
        first | simp only [List.map_nil] | simp only [List.map_cons, List.map_nil]
        clear KS
        have hb9 := Lib.hid (hB.set_ 0 (.string (r.extract (i + 1) r.size)))
        have hj9 := Lib.hid (hJ.2 _ _ ⟨b1, 0, none⟩ (.string (r.extract (i + 1) r.size)) (hJ.1 _ _ wr.drew none hj ⟨rfl, rfl, rfl, Nat.le_refl _, fun _ _ _ => rfl⟩ (by intro r e; cases e)) rfl)
        go_wp2_with fail
        refine NoPanic.normal ?_
        go_upto_region 6 with fail
        have hj2 : J pre ((wr.setCell ⟨b1, 0, none⟩ (.string (r.extract (i + 1) r.size))).drew) := hj9.out
        have hB2 : Blk ((wr.setCell ⟨b1, 0, none⟩ (.string (r.extract (i + 1) r.size))).drew) b1 9 #[.string (r.extract (i + 1) r.size)] := hb9.out
        have hsw2 : W.heap.size + 0 ≤ ((wr.setCell ⟨b1, 0, none⟩ (.string (r.extract (i + 1) r.size))).drew).heap.size := by simp [World.setCell, World.drew]; exact hsw
        clear z1
        obtain ⟨fn, tmps, assign, body, hy, hR⟩ := hY pre (r.extract 0 (i + 1)) _ hj2 hsw2 ⟨_, hp2.out⟩
        have hB3 := Lib.hid (fun W3 (hk3 : KpC K _ W3) => hk3.blk hK hB2)
        have hsw3 := Lib.hid (fun W3 (hk3 : KpC K _ W3) => Nat.le_trans hsw2 hk3.1)
        clear hB2 hB c1 hj hj2 hY
        refine (wpIn_wide (n := n + 1)).1 ?_
        gi_wp2
        refine hR.mono ?_
        rintro e W3 (⟨rfl, hJ3, hk3, -⟩ | ⟨rfl, hJx3, -⟩)
        · have b3 := hB3.out W3 hk3
          have s3 := hsw3.out W3 hk3
          clear hB3 hsw3
          gi_wp2
          go_wp2_with fail
          exact ⟨⟨pre ++ [(r.extract 0 (i + 1))], r.extract (i + 1) r.size, by omega, b3, hJ3, by omega, hp2⟩, by rw [hbl, boxLen_eq (b3.cell 0)]; exact hi2⟩
        · gi_wp2
          go_wp2_with fail
          refine bodyPost_ret (results_none rfl _ _ _) rfl ?_
          exact ⟨⟨_, rfl⟩, .inr ⟨_, trivial, hJx3⟩⟩
attribute [local go_sem] Oper.semAt_some
theorem rlines_any (s : ByteArray) (w : World) : Calls Tryz.prog 27 #[.string s] w (fun r w' => r = .returned (.func (.func 51) #[] #[.pointer (some ⟨w.heap.size, 0, none⟩)]) ∧ w' = w.alloc (.cells #[.string s] 9)) := by
  have hmf : ∀ (fn : Fn) (first cap : Array Value) (w : World), (Instr.makeFunc fn first cap).run Tryz.prog w = .ok (.func fn first cap) w := fun _ _ _ _ => rfl
  go_enter Tryz.func27, Tryz.ntmps27
  go_wp2
  go_ret
  exact ⟨rfl, rfl⟩
def numL (l : List ByteArray) : List (Nat × ByteArray) := l.zipIdx.map (fun p => (p.2 + 1, p.1))
theorem numL_snoc (l : List ByteArray) (x : ByteArray) : numL (l ++ [x]) = numL l ++ [(l.length + 1, x)] := by
  unfold numL
  rw [List.zipIdx_append, List.map_append]
  simp
theorem linesC_len : ∀ s : By, (linesC s).length ≤ s.length
  | [] => Nat.le_refl _
  | x :: r => by
    have ih := linesC_len r
    unfold linesC
    split
    · simp; omega
    · cases hs : linesC r with
      | nil => simp
      | cons a t => rw [hs] at ih; simp at ih ⊢; omega
def encL (x : Nat × ByteArray) : Array Value := #[.int .i64 (x.1 : Nat), .string x.2]
def PrL (s : ByteArray) (pre : List (Nat × ByteArray)) (x : Nat × ByteArray) : Prop := ∃ (l : List ByteArray) (y : ByteArray) (r : List By), pre = numL l ∧ x = (l.length + 1, y) ∧ bys (l ++ [y]) ++ r = linesC s.data.toList
theorem rlines_seq (b0 n : Nat) (s : ByteArray) (K : Nat → Prop) (w : World) (hK2 : K (w.heap.size + 2)) (hK3 : K (w.heap.size + 3)) (hK4 : K (w.heap.size + 4)) (hs : s.size ≤ 1000000) (hB : Blk w b0 9 #[.string s]) :
    SeqG (fun k => k = w.heap.size + 3 ∨ k = w.heap.size + 4) (n + 1) Tryz.prog 51 #[.pointer (some ⟨b0, 0, none⟩)] encL (KpC K) (fun xs => ∃ l, bys l = linesC s.data.toList ∧ xs = numL l) (fun _ => True) (PrL s) 3 w := by
  intro L J Jx W hW hsz hJ hJx hY h0
  have hBW := hB.below hW hB.lt
  have c0 := hBW.cell 0
  clear hB hW
  refine callsIn_wide.2 (calls_of_wp_dm Tryz.func51 rfl ?_)
  simp only [Tryz.ntmps51, List.size_toArray, List.length_cons, List.length_nil, Nat.reduceAdd, Nat.reduceSub, Array.replicate_succ, Array.replicate_zero, List.push_toArray, List.append_toArray, List.nil_append, List.cons_append]
  have c1 : ∀ o1 o2, ((W.alloc o1).alloc o2).cell? ⟨b0, 0, none⟩ = some (.string s) := fun o1 o2 => ((hBW.alloc o1).alloc o2).cell 0
  go_wp2_with fail
  (with_reducible refine (lines_any _ _).mono ?_)
  rintro e w' ⟨rfl, rfl⟩
  go_wp2_with fail
  have BY : Blk (((W.alloc (.cells #[.func (.yield L) #[] #[]] 126)).alloc (.cells #[.int .i64 0] 3)).alloc (.cells #[.string s] 9)) (w.heap.size + 2) 126 #[.func (.yield L) #[] #[]] := ((Blk.new W _ _ _ hsz.symm).alloc _).alloc _
  have BN : Blk (((W.alloc (.cells #[.func (.yield L) #[] #[]] 126)).alloc (.cells #[.int .i64 0] 3)).alloc (.cells #[.string s] 9)) (w.heap.size + 2 + 1) 3 #[.int .i64 0] := (Blk.new _ _ _ _ (by simp [hsz])).alloc _
  have BS : Blk (((W.alloc (.cells #[.func (.yield L) #[] #[]] 126)).alloc (.cells #[.int .i64 0] 3)).alloc (.cells #[.string s] 9)) (w.heap.size + 2 + 1 + 1) 9 #[.string s] := Blk.new _ _ _ _ (by simp [hsz])
  have hs3 : (((W.alloc (.cells #[.func (.yield L) #[] #[]] 126)).alloc (.cells #[.int .i64 0] 3)).alloc (.cells #[.string s] 9)).heap.size = w.heap.size + 5 := by simp [hsz]
  have J0 := hJ.1.alloc (.cells #[.string s] 9) (hJ.1.alloc (.cells #[.int .i64 0] 3) (hJ.1.alloc (.cells #[.func (.yield L) #[] #[]] 126) h0))
  have hll : (linesC s.data.toList).length ≤ 1000000 := Nat.le_trans (linesC_len _) (by rw [Array.length_toList]; exact hs)
  clear c0 c1 hBW h0
  generalize ((W.alloc (.cells #[.func (.yield L) #[] #[]] 126)).alloc (.cells #[.int .i64 0] 3)).alloc (.cells #[.string s] 9) = w3 at *
  refine (wpIn_wide (n := 2 + 2)).1 (wpIn_rangeFuncG 2 (gf := 85) (lb := #[.pointer (some ⟨w.heap.size + 2 + 1 + 1, 0, none⟩)]) rfl (enters_of Tryz.func85 (by kernel_rfl) rfl)
    (lines_seq (w.heap.size + 2 + 1 + 1) 2 s (fun k => k = w.heap.size + 2 + 1 + 1) rfl w3 hs BS)
    (fun k hk => by omega) KpC.trans (fun W' l ob o' _ h1 h2 _ => KpC.put W' l ob o' h1 h2) (fun _ => rfl)
    (fun pre W' => J (numL pre) W' ∧ Blk W' (w.heap.size + 2) 126 #[.func (.yield L) #[] #[]] ∧ Blk W' (w.heap.size + 2 + 1) 3 #[.int .i64 pre.length])
    (fun x a₁ pre W' => (J (numL pre) W' ∧ Blk W' (w.heap.size + 2) 126 #[.func (.yield L) #[] #[]] ∧ Blk W' (w.heap.size + 2 + 1) 3 #[.int .i64 pre.length]) ∧ a₁ = { tmps := #[.func (.yield L) #[] #[], .pointer (some ⟨b0, 0, none⟩), .pointer (some ⟨w.heap.size + 2, 0, none⟩), .pointer (some ⟨w.heap.size + 2 + 1, 0, none⟩), .string x, .string s, .func (.func 85) #[] #[.pointer (some ⟨w.heap.size + 2 + 1 + 1, 0, none⟩)], .string x, undef, undef, undef, undef, undef, undef, undef], defers := [] })
    (fun c pre W' => c = .ret ∧ Jx (numL pre) W')
    (fun pre A' B' row h hg hr => ⟨hJ.1 _ _ _ _ h.1 hg (fun r e => ⟨by have := (hr r e).1; omega, (hr r e).2⟩), h.2.1.kept hg hr, h.2.2.kept hg hr⟩)
    (fun x a pre A' B' row h hg hr => ⟨⟨hJ.1 _ _ _ _ h.1.1 hg (fun r e => ⟨by have := (hr r e).1; omega, (hr r e).2⟩), h.1.2.1.kept hg hr, h.1.2.2.kept hg hr⟩, h.2⟩)
    (fun c pre A' B' row h hg hr => ⟨h.1, hJx.1 _ _ _ _ h.2 hg (fun r e => ⟨by have := (hr r e).1; omega, (hr r e).2⟩)⟩)
    (fun pre W' p v h ht => ⟨hJ.2 _ _ _ _ h.1 (.inr (by omega)), h.2.1.far (by omega) v, h.2.2.far (by omega) v⟩)
    (fun c pre W' p v h ht => ⟨h.1, hJx.2 _ _ _ _ h.2 (.inr (by omega))⟩)
    ⟨J0, BY, BN⟩ ?assign ?body ?done ?stop)
  case assign =>
    rintro l2 pre x Wc h hszc hlen
    dsimp only
    gi_wp2
    exact ⟨KeepsFrom.refl _ _, KpC.refl _ _, h, trivial⟩
  case body =>
    rintro l2 pre x a₁ Wc ⟨⟨hj, hY2, hN2⟩, rfl⟩ hszc hlen
    have n1 := hN2.cell 0
    have n2 := hN2.frozen 0
    have y1 := hY2.cell 0
    have hlen2 : PrL s (numL pre) (pre.length + 1, x) := by obtain ⟨r, hr⟩ := hlen; exact ⟨pre, x, r, rfl, rfl, hr⟩
    have hlen3 : pre.length < (linesC s.data.toList).length := by
      obtain ⟨r, hr⟩ := hlen
      rw [← hr]
      simp [bys]
    have hw : IntKind.i64.wrap ((pre.length : Int) + 1) = (pre.length : Int) + 1 := by rw [IntKind.wrap_i64]; omega
    have hj1 : J (numL pre) (Wc.setCell ⟨w.heap.size + 2 + 1, 0, none⟩ (.int .i64 ((pre.length : Int) + 1))) := hJ.2 _ _ _ _ hj (.inl rfl)
    have hsz1 : W.heap.size + 3 ≤ (Wc.setCell ⟨w.heap.size + 2 + 1, 0, none⟩ (.int .i64 ((pre.length : Int) + 1))).heap.size := by simp [World.setCell]; omega
    have hN3 := hN2.set_ 0 (.int .i64 ((pre.length : Int) + 1))
    have hY3 : Blk (Wc.setCell ⟨w.heap.size + 2 + 1, 0, none⟩ (.int .i64 ((pre.length : Int) + 1))) (w.heap.size + 2) 126 #[.func (.yield L) #[] #[]] := hY2.far (by show _ ≠ w.heap.size + 2 + 1; omega) _
    have n3 := hN3.cell 0
    have y3 := hY3.cell 0
    have kp1 : KpC (fun k => k = w.heap.size + 2 + 1 + 1) Wc (Wc.setCell ⟨w.heap.size + 2 + 1, 0, none⟩ (.int .i64 ((pre.length : Int) + 1))) := ⟨by simp [World.setCell], fun k t cs fr hk ha => Below.heap_setCell _ _ _ _ (by show k ≠ w.heap.size + 2 + 1; omega)⟩
    have kf1 : KeepsFrom w3.heap.size Wc (Wc.setCell ⟨w.heap.size + 2 + 1, 0, none⟩ (.int .i64 ((pre.length : Int) + 1))) := (KeepsOthers.setCell _ _ _).from _
    obtain ⟨fn, tmps, assign, body, hy, hR⟩ := YieldAt.wide (hY (numL pre) (pre.length + 1, x) _ hj1 hsz1 hlen2) (L := l2) (m' := 1)
    have hy : (Instr.yield L #[.int .i64 ((pre.length : Int) + 1), .string x]).run Tryz.prog (Wc.setCell ⟨w.heap.size + 2 + 1, 0, none⟩ (.int .i64 ((pre.length : Int) + 1))) = .ok (.round L fn tmps assign body) (Wc.setCell ⟨w.heap.size + 2 + 1, 0, none⟩ (.int .i64 ((pre.length : Int) + 1))) := hy
    have kp1 := Lib.hid kp1
    have kf1 := Lib.hid kf1
    clear hY hJ hJx hj hj1 hlen hlen2
    have hE : Hid (∀ W3, KpC K (Wc.setCell ⟨w.heap.size + 2 + 1, 0, none⟩ (.int .i64 ((pre.length : Int) + 1))) W3 → Blk W3 (w.heap.size + 2) 126 #[.func (.yield L) #[] #[]] ∧ Blk W3 (w.heap.size + 2 + 1) 3 #[.int .i64 ((pre ++ [x]).length : Nat)] ∧ KpC (fun k => k = w.heap.size + 2 + 1 + 1) (Wc.setCell ⟨w.heap.size + 2 + 1, 0, none⟩ (.int .i64 ((pre.length : Int) + 1))) W3) := Lib.hid (fun W3 hk => by
      refine ⟨hk.blk hK2 hY3, ?_, hk.1, fun k t cs fr hk4 ha => hk.2 k t cs fr (by rw [hk4]; exact hK4) ha⟩
      have := hk.blk hK3 hN3
      rw [List.length_append, List.length_singleton]
      exact this)
    clear hN3 hY3 hN2 hY2
    gi_wp2
    refine hR.mono ?_
    rintro e W3 (⟨rfl, hJ3, hk3, hf3⟩ | ⟨rfl, hJx3, hf3⟩)
    · obtain ⟨g1, g2, g3⟩ := hE.out W3 hk3
      have kfA := kf1.out.trans (KeepsFrom.more hf3 (by omega))
      have kpA := kp1.out.trans g3
      rw [← numL_snoc] at hJ3
      clear hE kf1 kp1
      gi_wp2
      exact ⟨kfA, kpA, hJ3, g1, g2⟩
    · have kfA := kf1.out.trans (KeepsFrom.more hf3 (by omega))
      rw [← numL_snoc] at hJx3
      clear hE kf1 kp1
      gi_wp2
      exact ⟨kfA, rfl, hJx3⟩
  case done =>
    rintro D xs Wc hD hS ⟨hj, hY2, hN2⟩ hd
    have hj2 := hJ.1.putObj (.deferred none) hj (by omega) hd rfl
    go_wp2_with fail
    refine leavesM_mark (by simp) hd ?_
    exact ⟨.tuple #[], by simp [results, Tryz.results51, go_sem], ⟨⟨_, rfl⟩, .inl ⟨numL xs, ⟨xs, hS, rfl⟩, hj2⟩⟩⟩
  case stop =>
    rintro D c pre Wc hD _ ⟨rfl, hjx⟩ hd
    have hj2 := hJx.1.putObj (.deferred none) hjx (by omega) hd rfl
    refine wpIn_wide.2 ?_
    go_wp2_with fail
    refine leavesM_mark (by simp) hd ?_
    exact ⟨.tuple #[], by simp [results, Tryz.results51, go_sem], ⟨⟨_, rfl⟩, .inr ⟨numL pre, trivial, hj2⟩⟩⟩
end Go.Proofs.YtmbopkcmbiommaaGreatDoor
