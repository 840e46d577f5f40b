/- Structs built of parts that are not known cell by cell. -/
import Derived.Test.YtmbopkcmbiommaaGreatDoorRae
import Derived.Test.YtmbopkcmbiommaaGreatDoorRao
import Derived.Test.YtmbopkcmbiommaaGreatDoorRaf
set_option maxRecDepth 1000000
set_option maxHeartbeats 16000000
namespace Go.Proofs.YtmbopkcmbiommaaGreatDoor
open Go Go.RowKit
theorem exec_build {P : Program} {o : Oper} {a : Act} {t : TypeId} {parts : Array (Nat × Operand)} {vals : List (Nat × Value)} {cells : Array Value} {w : World} (ho : o.op = .build t parts) (hp : parts.toList.map (fun (i, x) => (i, a.eval x)) = vals) (hb : P.built t vals = some cells) :
    (execOp a.eval o).run P w = .ok (.value (.agg cells)) w := by
  subst hp
  rw [← Array.toList_map] at hb
  unfold execOp
  rw [ho]
  simp only [Sem.run_bind, run_build w t _ cells hb, Result.andThen_ok, Sem.run_pure]
theorem wpList_buildG {P : Program} {ops : Array Oper} {rest : List Oper} {o : Oper} {a : Act} {w : World} {Q : Exit → Act → World → Prop} (hgd : Region.wanted o (yielded ops a.tmps) = true) {t : TypeId} {parts : Array (Nat × Operand)} {vals : List (Nat × Value)} {cells : Array Value} (ho : o.op = .build t parts)
    (hp : parts.toList.map (fun (i, x) => (i, a.eval x)) = vals) (hb : P.built t vals = some cells) (h : wpList P ops Q rest (a.put o.dst (.agg cells)) w) : wpList P ops Q (o :: rest) a w :=
  wpList_step fun K hK => by
    rw [if_pos hgd]
    unfold Oper.wp
    rw [exec_build ho hp hb]
    exact hK _ _ h
theorem fill_nil (place : Nat → Option (Nat × Nat)) (cells : Array Value) : Instr.fill place cells [] = some cells := rfl
theorem fill_cons {place : Nat → Option (Nat × Nat)} {cells : Array Value} {i : Nat} {v : Value} {rest : List (Nat × Value)} {off size : Nat} (hp : place i = some (off, size)) (hs : v.cells.size = size) (hc : off + size ≤ cells.size) :
    Instr.fill place cells ((i, v) :: rest) = Instr.fill place (v.cells.zipIdx.foldl (fun cs (c, j) => cs.setIfInBounds (off + j) c) cells) rest := by
  rw [Instr.fill, hp]
  simp only
  rw [if_neg]
  simp only [Bool.or_eq_true, decide_eq_true_eq, ne_eq, not_or]
  exact ⟨fun h => h hs, by omega⟩
theorem foldl_put_ (o : Nat) : ∀ (l : List Value) (s : Nat) (init : Array Value) (i : Nat), o + s + l.length ≤ init.size →
    ((l.zipIdx s).foldl (fun cs x => cs.setIfInBounds (o + x.2) x.1) init)[i]? = if o + s ≤ i ∧ i < o + s + l.length then l[i - (o + s)]? else init[i]?
  | [], s, init, i, h => by
    rw [if_neg (by simp only [List.length_nil]; omega)]; rfl
  | v :: l, s, init, i, h => by
    rw [List.zipIdx_cons, List.foldl_cons, foldl_put_ o l (s + 1) _ i (by simp at h ⊢; omega)]
    simp only [List.length_cons] at h ⊢
    by_cases h1 : o + s = i
    · subst h1
      rw [if_neg (by omega), if_pos (by omega), Array.getElem?_setIfInBounds_self_of_lt (by omega)]
      simp
    · rw [Array.getElem?_setIfInBounds_ne h1]
      by_cases h2 : o + (s + 1) ≤ i ∧ i < o + (s + 1) + l.length
      · rw [if_pos h2, if_pos (by omega)]
        rw [show i - (o + s) = (i - (o + (s + 1))) + 1 by omega]
        rfl
      · rw [if_neg h2, if_neg (by omega)]
theorem put_mid (pre old xs suf : List Value) (off : Nat) (cells : Array Value) (hc : cells = (pre ++ (old ++ suf)).toArray) (ho : off = pre.length) (h : xs.length = old.length) :
    xs.toArray.zipIdx.foldl (fun cs (c, j) => cs.setIfInBounds (off + j) c) cells = (pre ++ (xs ++ suf)).toArray := by
  subst hc; subst ho
  have e : xs.toArray.zipIdx.foldl (fun (cs : Array Value) (x : Value × Nat) => cs.setIfInBounds (pre.length + x.2) x.1) (pre ++ (old ++ suf)).toArray = (xs.zipIdx 0).foldl (fun cs x => cs.setIfInBounds (pre.length + x.2) x.1) (pre ++ (old ++ suf)).toArray := by
    rw [← Array.foldl_toList]
    simp
  refine e.trans ?_
  apply Array.ext_getElem?
  intro i
  rw [foldl_put_ pre.length xs 0 _ i (by simp; omega)]
  simp only [Nat.add_zero, List.getElem?_toArray]
  by_cases h1 : i < pre.length
  · rw [if_neg (by omega), List.getElem?_append_left h1, List.getElem?_append_left h1]
  · have e2 : ∀ ys : List Value, (pre ++ ys)[i]? = ys[i - pre.length]? := fun ys => List.getElem?_append_right (by omega)
    rw [e2, e2]
    by_cases h2 : i - pre.length < xs.length
    · rw [if_pos (by omega), List.getElem?_append_left h2]
    · rw [if_neg (by omega), List.getElem?_append_right (by omega), List.getElem?_append_right (by omega), h]
theorem run_one {P : Program} {ts e : TypeId} {z X : Array Value} {size bytes : Nat} (ht : P.underlying ts = some (.slice e)) (hi : (P.info? e).map (fun i => (i.zero, i.size, i.bytes)) = some (some (.agg z), size, bytes)) (hX : X.size = size) (h0 : 0 < size) (hb : size ≤ 16777216) (w : World) :
    (Instr.buildSlice ts 1 #[(0, .agg X)]).run P w = .ok (.slice (some ⟨w.heap.size, 0, none⟩) 1 1) (w.alloc (.cells X e)) := by
  obtain ⟨i0, hi0, hz0, hz1, hz2⟩ := info_parts hi
  have e := put_mid [] ((Array.range size).map (fun x => z[x % z.size]!)).toList X.toList [] 0 ((Array.range size).map (fun x => z[x % z.size]!)) (by rw [List.append_nil, List.nil_append, Array.toArray_toList]) rfl (by simp [hX])
  rw [List.append_nil, List.nil_append, Array.toArray_toList] at e
  simp only [Nat.zero_add] at e
  rw [show X.zipIdx.size = size by simp [hX]] at e
  have hs0 : ¬ (size = 0) := by omega
  have hn' : ¬ (16777216 < size) := by omega
  simp [Instr.buildSlice, run_underlying ht, sizeOf, typeInfo, zeroValue, hi0, hz0, hz1, hn', hs0, newRow, go_sem, hX]
  rw [e]
theorem step_one {P : Program} {ops : Array Oper} {o : Oper} {a : Act} {w w' : World} {K : Act → World → Prop} {Q : Exit → Act → World → Prop} {E : Prop} {ts : TypeId} {n : Nat} {parts : Array (Nat × Operand)} {vals : Array (Nat × Value)} {v : Value}
    (hgd : Region.wanted o (yielded ops a.tmps) = true) (ho : o.op = .buildSlice ts n parts) (hp : parts.toList.map (fun (i, x) => (i, a.eval x)) = vals.toList) (hr : (Instr.buildSlice ts n vals).run P w = .ok v w') (h : K (a.put o.dst v) w') :
    if Region.wanted o (yielded ops a.tmps) = true then Oper.wp P o a w K Q else E := by
  rw [if_pos hgd]
  have e : (parts.map fun (i, x) => (i, a.eval x)) = vals := by
    apply Array.toList_inj.1
    rw [Array.toList_map]
    exact hp
  unfold Oper.wp execOp
  rw [ho]
  simp only [Sem.run_bind, e, hr, Result.andThen_ok, Sem.run_pure]
  exact h
theorem world_info : (Tryz.prog.info? 35).map (·.size) = some 43 := by kernel_rfl
def nilWS : WS := ⟨none, none, none, none, none, none, none, none, 0, 0, 0, 0, 0, 0, 0, 0⟩
theorem wsCl_size {s : WS} {x : Wld} (h : x.seed.length = 32) : (s.cl x).toArray.size = 43 := by
  have e : (byts x.seed).length = 32 := by rw [byts_length, h]
  unfold WS.cl
  simp [e]
def nilPl : List Value := [.slice none 0 0, .slice none 0 0, .slice none 0 0]
theorem built_period (Y : List Value) (h : Y.length = 43) : Tryz.prog.built 107 [(0, .agg Y.toArray)] = some (Y ++ nilPl).toArray := by
  have e : Tryz.prog.built 107 [(0, .agg Y.toArray)] = Instr.fill (fun i => #[(0, 43), (43, 3)][i]?) (nilWS.cl zeroW ++ nilPl).toArray [(0, .agg Y.toArray)] := by kernel_rfl
  have hz : (nilWS.cl zeroW).length = 43 := by rfl
  rw [e, fill_cons (v := .agg Y.toArray) (off := 0) (size := 43) rfl (by show Y.toArray.size = 43; simpa using h) (by rw [List.size_toArray, List.length_append, hz]; omega), fill_nil]
  refine congrArg some ?_
  exact put_mid [] (nilWS.cl zeroW) Y nilPl 0 _ (by simp) rfl (by rw [hz]; exact h)
theorem post_check (s : WS) (x : Wld) (W : World) (hx : WldAt W W.heap.size s x) (hs : x.small) :
    Calls Tryz.prog 15 #[.agg (s.cl x).toArray] W (Ret (.int .i64 (postE x)) W) := by
  have hYs : (s.cl x).toArray.size = 43 := wsCl_size hs.seed
  have hbu := built_period _ (wsCl_length (s := s) (x := x) hs.seed)
  have BY := (Blk.new W 35 (s.cl x).toArray _ rfl).alloc (.cells #[.int .i64 0] 38)
  have LL := load_blk BY Tryz.underlying35 rfl (by rw [hYs]; exact world_info)
  have B1 := Blk.new (W.alloc (.cells (s.cl x).toArray 35)) 38 #[.int .i64 0] (W.heap.size + 1) (by simp)
  have hb := bAl (bAl (bRefl W) (.cells (s.cl x).toArray 35)) (.cells #[.int .i64 0] 38)
  have q : Hid (∀ w1 : World, Below W.heap.size W w1 → Calls Tryz.prog 38 #[.pointer (some ⟨w1.heap.size, 0, none⟩)] (w1.alloc (.cells (s.cl x ++ nilPl).toArray 107)) (EndE (postE x) (w1.alloc (.cells (s.cl x ++ nilPl).toArray 107)))) := Lib.hid (fun w1 b =>
    per_check w1.heap.size s x _ (Blk.new w1 _ _ _ rfl) ((hx.below (bAl b _)).more (bAl b _).size) hs)
  generalize postE x = E at *
  generalize (s.cl x ++ nilPl).toArray = Z at *
  generalize (s.cl x).toArray = Y at *
  clear BY hYs hx
  go_enter_defers Tryz.func15, Tryz.ntmps15
  go_upto_region 2 with fail
  generalize (W.alloc (.cells Y 35)).alloc (.cells #[.int .i64 0] 38) = w1 at *
  apply wp_region_lit
  refine wpList_loadG (by rfl) (by rfl) (by rfl) LL ?_
  simp only [Act.put]
  refine wpList_buildG (by rfl) (by rfl) (by rfl) hbu ?_
  simp only [Act.put]
  have hbp := bAl hb (.cells Z 107)
  replace B1 := B1.alloc (.cells Z 107)
  have qq := Lib.hid (q.out w1 hb)
  clear LL hbu q
  go_wp2_with fail
  refine qq.out.mono ?_
  clear qq
  generalize w1.alloc (.cells Z 107) = w2 at *
  rintro r w4 ⟨b4, hr⟩
  have B4 := B1.below b4 B1.lt
  have hc : w4.cell? ⟨W.heap.size + 1, 0, none⟩ = some (.int .i64 0) := B4.cell 0
  have hz : w4.frozen? ⟨W.heap.size + 1, 0, none⟩ = false := B4.frozen 0
  have hc2 : ∀ u, (w4.setCell ⟨W.heap.size + 1, 0, none⟩ u).cell? ⟨W.heap.size + 1, 0, none⟩ = some u := fun u => World.cell?_setCell_same _ _ _ hc
  have hb2 : Hid (∀ u, Below W.heap.size W (w4.setCell ⟨W.heap.size + 1, 0, none⟩ u)) := Lib.hid (fun u => bSet (bCall hbp b4) (show W.heap.size ≤ W.heap.size + 1 by omega) u)
  rcases hr with ⟨h0, rfl⟩ | ⟨h0, rfl⟩
  · replace h0 := Lib.hid h0
    go_wp2_with fail
    refine door_idle _ _ (.int .i64 0) (by simp [results, Tryz.results15, go_sem, hc2]) ⟨by rw [h0.out], hb2.out _⟩
  · refine door_panic _ E 0 _ (.int .i64 E) hc hz (by simp [results, Tryz.results15, go_sem, hc2]) ⟨rfl, hb2.out _⟩
end Go.Proofs.YtmbopkcmbiommaaGreatDoor
