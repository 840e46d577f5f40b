/-
  post.Check; walked.
-/
import Derived.Test.YtmbopkcmbiommaaGreatDoorMap
import Derived.Test.YtmbopkcmbiommaaGreatDoorMaf
namespace Go.Proofs.YtmbopkcmbiommaaGreatDoor
open Go Go.RowKit

theorem world_info : (Tryz.prog.info? 35).map (·.size) = some 43 := by kernel_rfl
def nilWS : WS := ⟨none, none, none, none, none, none, none, none, 0, 0, 0, 0, 0, 0, 0, 0⟩
theorem wsCl_size {s : WS} {x : Wld} (h : x.seed.length = 32) : (s.cl x).toArray.size = 43 := by
  have e : (byts x.seed).length = 32 := by rw [byts_length, h]
  unfold WS.cl
  simp [e]
def nilPl : List Value := [.slice none 0 0, .slice none 0 0, .slice none 0 0]
set_option maxRecDepth 100000 in
theorem built_period (Y : List Value) (h : Y.length = 43) : Tryz.prog.built 107 [(0, .agg Y.toArray)] = some (Y ++ nilPl).toArray := by
  have e : Tryz.prog.built 107 [(0, .agg Y.toArray)] = Instr.fill (fun i => #[(0, 43), (43, 3)][i]?) (nilWS.cl zeroW ++ nilPl).toArray [(0, .agg Y.toArray)] := by kernel_rfl
  have hz : (nilWS.cl zeroW).length = 43 := by rfl
  rw [e, fill_cons (v := .agg Y.toArray) (off := 0) (size := 43) rfl (by show Y.toArray.size = 43; simpa using h) (by rw [List.size_toArray, List.length_append, hz]; omega), fill_nil]
  refine congrArg some ?_
  exact put_mid [] (nilWS.cl zeroW) Y nilPl 0 _ (by simp) rfl (by rw [hz]; exact h)
set_option maxRecDepth 100000 in
set_option maxHeartbeats 4000000 in
theorem post_check (s : WS) (x : Wld) (W : World) (hx : WldAt W W.heap.size s x) (hs : x.small) :
    Calls Tryz.prog 15 #[.agg (s.cl x).toArray] W (Ret (.int .i64 (postE x)) W) := by
  have hYs : (s.cl x).toArray.size = 43 := wsCl_size hs.seed
  have hbu := built_period _ (wsCl_length (s := s) (x := x) hs.seed)
  have BY := (Blk.new W 35 (s.cl x).toArray _ rfl).alloc (.cells #[.int .i64 0] 38)
  have LL := load_blk BY Tryz.underlying35 rfl (by rw [hYs]; exact world_info)
  have B1 := Blk.new (W.alloc (.cells (s.cl x).toArray 35)) 38 #[.int .i64 0] (W.heap.size + 1) (by simp)
  have hb := bAl (bAl (bRefl W) (.cells (s.cl x).toArray 35)) (.cells #[.int .i64 0] 38)
  have q : Hid (∀ w1 : World, Below W.heap.size W w1 → Calls Tryz.prog 38 #[.pointer (some ⟨w1.heap.size, 0, none⟩)] (w1.alloc (.cells (s.cl x ++ nilPl).toArray 107)) (EndE (postE x) (w1.alloc (.cells (s.cl x ++ nilPl).toArray 107)))) := Lib.hid (fun w1 b =>
    per_check w1.heap.size s x _ (Blk.new w1 _ _ _ rfl) ((hx.below (bAl b _)).more (bAl b _).size) hs)
  generalize postE x = E at *
  generalize (s.cl x ++ nilPl).toArray = Z at *
  generalize (s.cl x).toArray = Y at *
  clear BY hYs hx
  go_enter_defers Tryz.func15, Tryz.ntmps15
  go_upto_region 2 with fail
  generalize (W.alloc (.cells Y 35)).alloc (.cells #[.int .i64 0] 38) = w1 at *
  apply wp_region_lit
  refine wpList_loadG (by rfl) (by rfl) (by rfl) LL ?_
  simp only [Act.put]
  refine wpList_buildG (by rfl) (by rfl) (by rfl) hbu ?_
  simp only [Act.put]
  have hbp := bAl hb (.cells Z 107)
  replace B1 := B1.alloc (.cells Z 107)
  have qq := Lib.hid (q.out w1 hb)
  clear LL hbu q
  go_wp2_with fail
  refine qq.out.mono ?_
  clear qq
  generalize w1.alloc (.cells Z 107) = w2 at *
  rintro r w4 ⟨b4, hr⟩
  have B4 := B1.below b4 B1.lt
  have hc : w4.cell? ⟨W.heap.size + 1, 0, none⟩ = some (.int .i64 0) := B4.cell 0
  have hz : w4.frozen? ⟨W.heap.size + 1, 0, none⟩ = false := B4.frozen 0
  have hc2 : ∀ u, (w4.setCell ⟨W.heap.size + 1, 0, none⟩ u).cell? ⟨W.heap.size + 1, 0, none⟩ = some u := fun u => World.cell?_setCell_same _ _ _ hc
  have hb2 : Hid (∀ u, Below W.heap.size W (w4.setCell ⟨W.heap.size + 1, 0, none⟩ u)) := Lib.hid (fun u => bSet (bCall hbp b4) (show W.heap.size ≤ W.heap.size + 1 by omega) u)
  rcases hr with ⟨h0, rfl⟩ | ⟨h0, rfl⟩
  · replace h0 := Lib.hid h0
    go_wp2_with fail
    refine door_idle _ _ (.int .i64 0) (by simp [results, Tryz.results15, go_sem, hc2]) ⟨by rw [h0.out], hb2.out _⟩
  · refine door_panic _ E 0 _ (.int .i64 E) hc hz (by simp [results, Tryz.results15, go_sem, hc2]) ⟨rfl, hb2.out _⟩
end Go.Proofs.YtmbopkcmbiommaaGreatDoor

/-
  reports: caught (recover), want; walked.
-/
namespace Go.Proofs.YtmbopkcmbiommaaGreatDoor
open Go.RowKit

/-- What a report that is wrong panics with. -/
def PanW : Ending := .panicked [{ v := .iface 151 (.agg #[]), recovered := false }]
theorem want_yes (w : World) : Calls Tryz.prog 55 #[.bool true] w (Same (.tuple #[]) w) := by
  go_enter Tryz.func55, Tryz.ntmps55
  go_wp2
  exact bodyPost_ret (results_none rfl _ _ _) rfl ⟨rfl, rfl⟩
theorem want_no (w : World) : Calls Tryz.prog 55 #[.bool false] w (fun r w' => r = PanW ∧ w = w') := by
  go_enter Tryz.func55, Tryz.ntmps55
  go_wp2
  exact ⟨rfl, rfl, rfl⟩
theorem assert_wrong (w : World) : (Instr.typeAssert (.iface 151 (.agg #[])) 20 151 true).run Tryz.prog w = .ok (.tuple #[.agg #[], .bool true]) w := by kernel_rfl
set_option maxHeartbeats 400000 in
theorem rep_panic (b : Nat) (old : Bool) (older : List PanicEntry) (w : World) (B : Blk w b 4 #[.bool old]) :
    CallsD Tryz.prog 42 #[.pointer (some ⟨b, 0, none⟩)] (.panicking ({ v := .iface 151 (.agg #[]), recovered := false } :: older)) w fun r u' w' =>
      r = .returned (.tuple #[]) ∧ u' = .panicking ({ v := .iface 151 (.agg #[]), recovered := true } :: older) ∧ w' = (w.alloc (.cells #[] 151)).setCell ⟨b, 0, none⟩ (.bool false) := by
  have hta := assert_wrong
  have hc := (B.alloc (.cells #[] 151)).cell 0
  have hz := (B.alloc (.cells #[] 151)).frozen 0
  refine callsD_of_wpS Tryz.func42 rfl fun c₀ cs hu => ?_
  simp only [Tryz.ntmps42, List.size_toArray, List.length_cons, List.length_nil, Nat.reduceAdd, Nat.reduceSub, Array.replicate_succ,
     Array.replicate_zero, List.push_toArray, List.append_toArray, List.nil_append, List.cons_append]
  apply wpS_seq
  apply wpS_region
  simp [wpOpsS, go_sem, recoverD, hu, Exit.thenS]
  refine wpS_of_wp ?_
  go_wp2
  exact ⟨rfl, _, rfl, .tuple #[], by simp [results, Tryz.results42], rfl, rfl, rfl⟩
set_option maxHeartbeats 400000 in
theorem rep_idle (p : Addr) (w : World) :
    CallsD Tryz.prog 42 #[.pointer (some p)] .returning w fun r u' w' =>
      r = .returned (.tuple #[]) ∧ u' = .returning ∧ w' = w := by
  refine callsD_of_wpS Tryz.func42 rfl fun c₀ cs hu => ?_
  simp only [Tryz.ntmps42, List.size_toArray, List.length_cons, List.length_nil, Nat.reduceAdd, Nat.reduceSub, Array.replicate_succ,
     Array.replicate_zero, List.push_toArray, List.append_toArray, List.nil_append, List.cons_append]
  apply wpS_seq
  apply wpS_region
  simp [wpOpsS, go_sem, recoverD, hu, Exit.thenS]
  refine wpS_of_wp ?_
  go_wp2
  exact ⟨rfl, .returning, by cases c₀; simp_all, .tuple #[], by simp [results, Tryz.results42], rfl, rfl, rfl⟩
/-- The door behind which caught waits: the function returns. -/
theorem rdoor_idle {fn : Func} {tmps : Array Value} {R : Ending → World → Prop} (p : Addr) (w : World) (v : Value)
    (hr : (results fn tmps).run Tryz.prog w = .ok v w) (h : R (.returned v) w) :
    Leaves Tryz.prog fn tmps R [{ target := .fn (.func 42) #[], args := #[.pointer (some p)] }] .returning w := by
  refine leaves_cons (f := 42) (args := #[.pointer (some p)]) (by simp) (by simp [go_sem]) ?_
  refine (rep_idle p w).mono ?_
  rintro r u' w' ⟨rfl, rfl, rfl⟩
  exact ⟨v, hr, h⟩
/-- The function has said that the report is wrong. -/
theorem rdoor_panic {fn : Func} {tmps : Array Value} {R : Ending → World → Prop} (b : Nat) (old : Bool) (w : World) (v : Value) (B : Blk w b 4 #[.bool old])
    (hr : (results fn tmps).run Tryz.prog ((w.alloc (.cells #[] 151)).setCell ⟨b, 0, none⟩ (.bool false)) = .ok v ((w.alloc (.cells #[] 151)).setCell ⟨b, 0, none⟩ (.bool false))) (h : R (.returned v) ((w.alloc (.cells #[] 151)).setCell ⟨b, 0, none⟩ (.bool false))) :
    Leaves Tryz.prog fn tmps R [{ target := .fn (.func 42) #[], args := #[.pointer (some ⟨b, 0, none⟩)] }] (.panicking [{ v := .iface 151 (.agg #[]), recovered := false }]) w := by
  refine leaves_cons (f := 42) (args := #[.pointer (some ⟨b, 0, none⟩)]) (by simp) (by simp [go_sem]) ?_
  refine (rep_panic b old [] w B).mono ?_
  rintro r u' w' ⟨rfl, rfl, rfl⟩
  exact ⟨v, hr, h⟩
end Go.Proofs.YtmbopkcmbiommaaGreatDoor
