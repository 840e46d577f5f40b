/-
  strings.Lines: what it yields.
-/
import Derived.Test.YtmbopkcmbiommaaGreatDoorMbl
import Derived.Test.YtmbopkcmbiommaaGreatDoorMbn
namespace Go.Proofs.YtmbopkcmbiommaaGreatDoor
open Go Go.RowKit

/-- Blocks of cells that are kept. -/
def KpC (K : Nat → Prop) (A B : World) : Prop := A.heap.size ≤ B.heap.size ∧ ∀ k t cs fr, K k → A.heap[k]? = some (.cells cs t fr) → B.heap[k]? = A.heap[k]?
theorem KpC.refl (K : Nat → Prop) (A : World) : KpC K A A := ⟨Nat.le_refl _, fun _ _ _ _ _ _ => rfl⟩
theorem KpC.trans {K : Nat → Prop} {A B C : World} (h : KpC K A B) (k : KpC K B C) : KpC K A C :=
  ⟨Nat.le_trans h.1 k.1, fun g t cs fr hg ha => by
    have h1 := h.2 g t cs fr hg ha
    exact (k.2 g t cs fr hg (h1.trans ha)).trans h1⟩
theorem KpC.put {K : Nat → Prop} (W : World) (l : Nat) (o o' : Obj) (hl : W.heap[l]? = some o) (ho : o.isCells = false) : KpC K W (W.putObj l o') :=
  ⟨by simp [World.putObj], fun k t cs fr _ ha => World.putObj_heap_other (fun e => by
    subst e
    rw [hl] at ha
    injection ha with ha
    subst ha
    simp [Obj.isCells] at ho)⟩
theorem KpC.blk {K : Nat → Prop} {A B : World} {g : Nat} {t : TypeId} {cs : Array Value} (h : KpC K A B) (hg : K g) (b : Blk A g t cs) : Blk B g t cs := (h.2 g _ _ _ hg b).trans b
theorem lines_any (s : ByteArray) (w : World) : Calls Tryz.prog 52 #[.string s] w (fun r w' => r = .returned (.func (.func 85) #[] #[.pointer (some ⟨w.heap.size, 0, none⟩)]) ∧ w' = w.alloc (.cells #[.string s] 9)) := by
  have hmf : ∀ (fn : Fn) (first cap : Array Value) (w : World), (Instr.makeFunc fn first cap).run Tryz.prog w = .ok (.func fn first cap) w := fun _ _ _ _ => rfl
  go_enter Tryz.func52, Tryz.ntmps52
  go_wp2
  go_ret
  exact ⟨rfl, rfl⟩
theorem linesC_one : ∀ {s : By}, s ≠ [] → (∀ x ∈ s, x ≠ 10) → linesC s = [s]
  | [], h, _ => absurd rfl h
  | x :: r, _, hx => by
    unfold linesC
    rw [if_neg (hx x (List.mem_cons_self ..))]
    cases r with
    | nil => rfl
    | cons y r => rw [linesC_one (by simp) (fun z hz => hx z (List.mem_cons_of_mem _ hz))]
/-- The next line of a text, and what is behind it. -/
theorem lines_next {s : ByteArray} (h0 : s.size ≠ 0) : (Lib.indexByte s.data.toList 10 = -1 ∧ linesC s.data.toList = [s.data.toList]) ∨
    ∃ i : Nat, Lib.indexByte s.data.toList 10 = (i : Int) ∧ i + 1 ≤ s.size ∧ linesC s.data.toList = (s.extract 0 (i + 1)).data.toList :: linesC (s.extract (i + 1) s.size).data.toList := by
  have hs : s.data.toList.length = s.size := by rw [Array.length_toList]; rfl
  have e1 : ∀ a b, (s.extract a b).data.toList = (s.data.toList.take b).drop a := fun a b => by rw [ByteArray.data_extract, Array.toList_extract, List.extract_eq_take_drop, List.drop_take]
  rcases byte_first 10 s.data.toList with ⟨h1, h2⟩ | ⟨a, b, h1, h2, h3⟩
  · exact .inl ⟨h1, linesC_one (by intro e; rw [e] at hs; simp at hs; omega) h2⟩
  · refine .inr ⟨a.length, h3, by rw [← hs, h1]; simp, ?_⟩
    rw [e1, e1, ← hs, h1, linesC_row h2]
    rw [List.take_length, List.take_length_add_append, List.drop_length_add_append]
    rfl
def boxLen (w : World) (b : Nat) : Nat := match w.cell? ⟨b, 0, none⟩ with
  | some (.string s) => s.size
  | _ => 0
theorem boxLen_eq {w : World} {b : Nat} {s : ByteArray} (h : w.cell? ⟨b, 0, none⟩ = some (.string s)) : boxLen w b = s.size := by unfold boxLen; rw [h]
set_option maxRecDepth 100000 in
set_option maxHeartbeats 4000000 in
theorem lines_seq (b1 n : Nat) (s : ByteArray) (K : Nat → Prop) (hK : K b1) (w : World) (hs : s.size ≤ 1000000) (hB : Blk w b1 9 #[.string s]) :
    SeqG (fun k => k = b1) (n + 1) Tryz.prog 85 #[.pointer (some ⟨b1, 0, none⟩)] (fun x : ByteArray => #[.string x]) (KpC K) (fun xs => bys xs = linesC s.data.toList) (fun _ => True) (fun pre x => ∃ r, bys (pre ++ [x]) ++ r = linesC s.data.toList) 0 w := by
  intro L J Jx W hW hsz hJ hJx hY h0
  have hBW := hB.below hW hB.lt
  clear hB hW hJx
  refine callsIn_of_wp Tryz.func85 rfl trivial ?_ rfl
  simp only [Tryz.ntmps85, List.size_toArray, List.length_cons, List.length_nil, Nat.reduceAdd, Nat.reduceSub, Array.replicate_succ, Array.replicate_zero, List.push_toArray, List.append_toArray, List.nil_append, List.cons_append]
  gi_wp2
  gi_loopw [] (fun wr => ∃ (pre : List ByteArray) (r : ByteArray), r.size ≤ 1000000 ∧ Blk wr b1 9 #[.string r] ∧ J pre wr ∧ W.heap.size ≤ wr.heap.size ∧ Hid (bys pre ++ linesC r.data.toList = linesC s.data.toList)) (fun wr => boxLen wr b1)
  case atStart => exact ⟨[], s, hs, hBW, h0, Nat.le_refl _, Lib.hid rfl⟩
  case round =>
    clear hBW h0
    obtain ⟨pre, r, hr, hB, hj, hsw, hp⟩ := hrel
    have c1 : wr.cell? ⟨b1, 0, none⟩ = some (.string r) := hB.cell 0
    have hbl := boxLen_eq c1
    by_cases h0 : r.size = 0
    · have hre : bys pre = linesC s.data.toList := by
        have := hp.out
        have h1 : r.data.toList = [] := List.eq_nil_of_length_eq_zero (by rw [Array.length_toList]; exact h0)
        rw [h1] at this
        simpa [linesC] using this
      clear hp hbl hY
      gi_wp2
      go_end0
      exact ⟨⟨_, rfl⟩, .inl ⟨pre, hre, hj⟩⟩
    · have i0 : (0 : Int) < (r.size : Int) := by omega
      have q1 : Hid (∀ w, Calls Tryz.prog 86 #[.string r, .int .u8 10] w (Same (.int .i64 (Lib.indexByte r.data.toList 10)) w)) := Lib.hid (fun w => index_byte r 10 w)
      have z1 := hB.frozen 0
      rcases lines_next h0 with ⟨e1, e2⟩ | ⟨i, e1, e2, e3⟩
      · have hlen : pre.length < (linesC s.data.toList).length := by
          rw [← hp.out, e2]
          simp [bys]
        have hp2 : Hid (bys (pre ++ [r]) ++ linesC (ByteArray.empty).data.toList = linesC s.data.toList) := Lib.hid (by
          rw [← hp.out, e2]
          simp [bys, linesC])
        rw [e1] at q1
        clear e1 e2 hp
        refine wpIn_wide.2 ?_
        go_upto_region 6 with (go_at_call 86; (with_reducible refine (q1.out _).mono ?_); rintro e w2 ⟨rfl, rfl⟩)
        have hj2 : J pre (wr.setCell ⟨b1, 0, none⟩ (.string ⟨#[]⟩)) := hJ.2 _ _ _ _ hj rfl
        have hB2 : Blk (wr.setCell ⟨b1, 0, none⟩ (.string ⟨#[]⟩)) b1 9 #[.string ⟨#[]⟩] := hB.set_ 0 _
        have hsw2 : W.heap.size + 0 ≤ (wr.setCell ⟨b1, 0, none⟩ (.string ⟨#[]⟩)).heap.size := by simp [World.setCell]; exact hsw
        clear z1
        obtain ⟨fn, tmps, assign, body, hy, hR⟩ := hY pre r _ hj2 hsw2 ⟨_, hp2.out⟩
        have hB3 := Lib.hid (fun W3 (hk3 : KpC K _ W3) => hk3.blk hK hB2)
        have hsw3 := Lib.hid (fun W3 (hk3 : KpC K _ W3) => Nat.le_trans hsw2 hk3.1)
        clear hB2 hB c1 hj hj2 hY
        refine (wpIn_wide (n := n + 1)).1 ?_
        gi_wp2
        refine hR.mono ?_
        rintro e W3 (⟨rfl, hJ3, hk3, -⟩ | ⟨rfl, hJx3, -⟩)
        · have b3 := hB3.out W3 hk3
          have s3 := hsw3.out W3 hk3
          clear hB3 hsw3
          gi_wp2
          go_wp2_with fail
          exact ⟨⟨pre ++ [r], ⟨#[]⟩, by decide, b3, hJ3, by omega, hp2⟩, by rw [hbl, boxLen_eq (b3.cell 0)]; show 0 < r.size; omega⟩
        · gi_wp2
          go_wp2_with fail
          refine bodyPost_ret (results_none rfl _ _ _) rfl ?_
          exact ⟨⟨_, rfl⟩, .inr ⟨_, trivial, hJx3⟩⟩
      · refine wpIn_wide.2 ?_
        have hp2 : Hid (bys (pre ++ [r.extract 0 (i + 1)]) ++ linesC (r.extract (i + 1) r.size).data.toList = linesC s.data.toList) := Lib.hid (by
          rw [← hp.out, e3]
          simp [bys])
        rw [e1] at q1
        have hi2 : (r.extract (i + 1) r.size).size < r.size := by rw [ByteArray.size_extract]; omega
        have i1 : (i : Int) + 1 ≤ (r.size : Int) := by omega
        have i2 : (0 : Int) ≤ (i : Int) + 1 := by omega
        have hw : IntKind.i64.wrap ((i : Int) + 1) = (i : Int) + 1 := by rw [IntKind.wrap_i64]; omega
        have hn1 : ((i : Int) + 1).toNat = i + 1 := by omega
        have KS : Hid (∀ w', Below wr.heap.size wr w' → w'.cell? ⟨b1, 0, none⟩ = some (.string r)) := Lib.hid (fun w' b => (hB.below b hB.lt).cell 0)
        clear e1 e3 hp
        go_upto_region 4 with (go_at_call 86; (with_reducible refine (q1.out _).mono ?_); rintro e w2 ⟨rfl, rfl⟩)
        refine wp_region_schB (f := 9) KS [(0, 2), (1, 1), (2, 1), (3, 1), (4, 2), (5, 1), (6, 1), (7, 1), (8, 0), (9, 3)] ?_
        simp only [pickS, List.getElem?_cons_zero, List.getElem?_cons_succ]
        refine wpSched_r ?_
        refine wpSched_t ?_
        refine wpSched_t ?_
        refine wpSched_t ?_
        refine wpSched_r ?_
        refine wpSched_t ?_
        refine wpSched_t ?_
        refine wpSched_t ?_
        refine wpSched_force (fun K hK => ?_)
        go_simp
        refine shut_go hK KS ?_
        clear hK K
        refine wpSched_last ?_
        first | simp only [List.map_nil] | simp only [List.map_cons, List.map_nil]
        clear KS
        have hb9 := Lib.hid (hB.set_ 0 (.string (r.extract (i + 1) r.size)))
        have hj9 := Lib.hid (hJ.2 _ _ ⟨b1, 0, none⟩ (.string (r.extract (i + 1) r.size)) (hJ.1 _ _ wr.drew none hj ⟨rfl, rfl, rfl, Nat.le_refl _, fun _ _ _ => rfl⟩ (by intro r e; cases e)) rfl)
        go_wp2_with fail
        refine NoPanic.normal ?_
        go_upto_region 6 with fail
        have hj2 : J pre ((wr.setCell ⟨b1, 0, none⟩ (.string (r.extract (i + 1) r.size))).drew) := hj9.out
        have hB2 : Blk ((wr.setCell ⟨b1, 0, none⟩ (.string (r.extract (i + 1) r.size))).drew) b1 9 #[.string (r.extract (i + 1) r.size)] := hb9.out
        have hsw2 : W.heap.size + 0 ≤ ((wr.setCell ⟨b1, 0, none⟩ (.string (r.extract (i + 1) r.size))).drew).heap.size := by simp [World.setCell, World.drew]; exact hsw
        clear z1
        obtain ⟨fn, tmps, assign, body, hy, hR⟩ := hY pre (r.extract 0 (i + 1)) _ hj2 hsw2 ⟨_, hp2.out⟩
        have hB3 := Lib.hid (fun W3 (hk3 : KpC K _ W3) => hk3.blk hK hB2)
        have hsw3 := Lib.hid (fun W3 (hk3 : KpC K _ W3) => Nat.le_trans hsw2 hk3.1)
        clear hB2 hB c1 hj hj2 hY
        refine (wpIn_wide (n := n + 1)).1 ?_
        gi_wp2
        refine hR.mono ?_
        rintro e W3 (⟨rfl, hJ3, hk3, -⟩ | ⟨rfl, hJx3, -⟩)
        · have b3 := hB3.out W3 hk3
          have s3 := hsw3.out W3 hk3
          clear hB3 hsw3
          gi_wp2
          go_wp2_with fail
          exact ⟨⟨pre ++ [(r.extract 0 (i + 1))], r.extract (i + 1) r.size, by omega, b3, hJ3, by omega, hp2⟩, by rw [hbl, boxLen_eq (b3.cell 0)]; exact hi2⟩
        · gi_wp2
          go_wp2_with fail
          refine bodyPost_ret (results_none rfl _ _ _) rfl ?_
          exact ⟨⟨_, rfl⟩, .inr ⟨_, trivial, hJx3⟩⟩
end Go.Proofs.YtmbopkcmbiommaaGreatDoor
