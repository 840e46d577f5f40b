/- Loads and stores of long rows, for a seat without digests. -/
import Derived.Test.YtmbopkcmbiommaaGreatDoorRac
import Derived.Deep.MidRow
import Derived.Laws.CopyRow
import Derived.Test.YtmbopkcmbiommaaGreatDoorRad
set_option maxRecDepth 1000000
set_option maxHeartbeats 16000000
namespace Go.Proofs.YtmbopkcmbiommaaGreatDoor
open Go Go.RowKit
def byts (l : List Nat) : List Value := l.map fun n : Nat => Value.int .u8 (n : Int)
theorem byts_length (l : List Nat) : (byts l).length = l.length := by simp [byts]
theorem byts_at {l : List Nat} {k x : Nat} (h : l[k]? = some x) : (byts l)[k]? = some (.int .u8 x) := by simp [byts, h]
def okB (l : List Nat) : Prop := ∀ x ∈ l, x < 256
theorem byts_oneCell {l : List Nat} : ∀ u ∈ byts l, u.oneCell' = true := by
  intro v hv
  obtain ⟨x, _, rfl⟩ := List.mem_map.1 hv
  rfl
theorem exec_load {P : Program} {o : Oper} {a : Act} {ty : TypeId} {x : Operand} {q v : Value} {w : World} (ho : o.op = .load ty x) (hx : a.eval x = q) (h : (Instr.loadAt ty q).run P w = .ok v w) : (execOp a.eval o).run P w = .ok (.value v) w := by
  unfold execOp
  rw [ho]
  simp only [Sem.run_bind, hx, h, Result.andThen_ok, Sem.run_pure]
theorem load_blk {w : World} {g : Nat} {t ty : TypeId} {cs : Array Value} {d : TypeDesc} (h : Blk w g t cs) (hu : Tryz.prog.underlying ty = some d) (hd : d.isRow = true) (hi : (Tryz.prog.info? ty).map (·.size) = some cs.size) :
    (Instr.loadAt ty (.pointer (some ⟨g, 0, none⟩))).run Tryz.prog w = .ok (.agg cs) w := by
  have := run_loadAt_mid (P := Tryz.prog) w g 0 ty cs.toList d (fun j v hj => by rw [Nat.zero_add, h.cell]; simpa using hj) hu hd (by rw [Array.length_toList]; exact hi)
  rwa [Array.toArray_toList] at this
theorem setRow_alloc (w : World) (cur cs : Array Value) (t : TypeId) : (w.alloc (.cells cur t)).setRow w.heap.size cs = w.alloc (.cells cs t) := by
  have h : ((w.heap.push (.cells cur t)).modify w.heap.size fun o => match o with | .cells _ t fr => .cells cs t fr | o => o) = w.heap.push (.cells cs t) := by
    apply Array.ext_getElem?
    intro i
    rw [Array.getElem?_modify, Array.getElem?_push, Array.getElem?_push]
    by_cases hi : i = w.heap.size
    · subst hi; simp
    · have hi' : ¬ w.heap.size = i := fun e => hi e.symm
      simp [hi, hi']
  unfold World.setRow World.alloc
  simp only [World.mk.injEq, and_true]
  exact h
def Rl.cl (x : Rl) : List Value := [.int .i64 x.first, .int .i64 x.until_, .int .i64 x.every]
def Gp.cl (x : Gp) : List Value := [.int .i64 x.from_, .int .i64 x.until_]
def Tie.cl (x : Tie) : List Value := [.int .i64 x.from_, .int .i64 x.extra]
def Ent.cl (x : Ent) : List Value := [.int .i64 x.no, .int .i64 x.kind, .int .i64 x.a, .int .i64 x.b, .int .i64 x.from_, .int .i64 x.until_, .int .i64 x.known, .int .i64 x.gone]
def Slp.cl (x : Slp) : List Value := [.int .i64 x.run, .int .i64 x.leg, .int .i64 x.kind, .int .i64 x.at_]
def Odr.cl (x : Odr) (v : Value) : List Value := [.int .i64 x.from_, .int .i64 x.person, .int .i64 x.dest, .int .i64 x.cls, .int .i64 x.after, .int .i64 x.by_, .int .i64 x.crowd, .int .i64 x.pay, v, .bool x.back, .int .i64 x.els]
structure LS where
  a0 : Option Addr
  a1 : Option Addr
  a2 : Option Addr
  a3 : Option Addr
  c0 : Nat
  c1 : Nat
  c2 : Nat
  c3 : Nat
def LS.cl (s : LS) (x : Lin) : List Value := [.slice s.a0 x.offs.length s.c0, .slice s.a1 x.legs.length s.c1, .int .i64 x.cls, .int .i64 x.room, .slice s.a2 x.rules.length s.c2, .slice s.a3 x.off.length s.c3]
structure LinAt (w : World) (B : Nat) (s : LS) (x : Lin) : Prop where
  r0 : Rd w B 1 s.a0 x.offs.length (ints x.offs)
  r1 : Rd w B 1 s.a1 x.legs.length (ints x.legs)
  r2 : Rd w B 3 s.a2 x.rules.length (x.rules.flatMap Rl.cl)
  r3 : Rd w B 2 s.a3 x.off.length (x.off.flatMap Gp.cl)
structure WS where
  al : Option Addr
  ab : Option Addr
  ag : Option Addr
  at_ : Option Addr
  ao : Option Addr
  ae : Option Addr
  as_ : Option Addr
  af : Option Addr
  cl_ : Nat
  cb : Nat
  cg : Nat
  ct : Nat
  co : Nat
  ce : Nat
  cs : Nat
  cf : Nat
def WS.cl (s : WS) (x : Wld) : List Value :=
  [.int .i64 x.offs, .slice s.al x.lines.length s.cl_, .slice s.ab x.base.length s.cb, .slice s.ag x.leg.length s.cg, .slice s.at_ x.tiers.length s.ct, .slice s.ao x.orders.length s.co, .int .i64 x.people, .slice s.ae x.ents.length s.ce, .int .i64 x.covers, .slice s.as_ x.secs.length s.cs] ++ (byts x.seed ++ [.slice s.af x.faults.length s.cf])
def linsCl (ls : List LS) (l : List Lin) : List Value := (ls.zip l).flatMap (fun p => p.1.cl p.2)
def odrsCl (l : List Odr) (vs : List Value) : List Value := (l.zip vs).flatMap (fun p => p.1.cl p.2)
structure WldAt (w : World) (B : Nat) (s : WS) (x : Wld) : Prop where
  rl : ∃ ls : List LS, ls.length = x.lines.length ∧ Rd w B 6 s.al x.lines.length (linsCl ls x.lines) ∧ ∀ (k : Nat) (y : Lin), x.lines[k]? = some y → ∃ q, ls[k]? = some q ∧ LinAt w B q y
  rb : Rd w B 1 s.ab x.base.length (ints x.base)
  rg : Rd w B 1 s.ag x.leg.length (ints x.leg)
  rt : Rd w B 2 s.at_ x.tiers.length (x.tiers.flatMap Tie.cl)
  ro : ∃ vs : List Value, vs.length = x.orders.length ∧ Rd w B 11 s.ao x.orders.length (odrsCl x.orders vs) ∧ ∀ (k : Nat) (y : Odr), x.orders[k]? = some y → ∃ A c, vs[k]? = some (Value.slice A y.ag.length c) ∧ Rd w B 1 A y.ag.length (ints y.ag)
  re : Rd w B 8 s.ae x.ents.length (x.ents.flatMap Ent.cl)
  rs : Rd w B 1 s.as_ x.secs.length (ints x.secs)
  rf : Rd w B 4 s.af x.faults.length (x.faults.flatMap Slp.cl)
section
variable {w w' : World} {B B' : Nat} {s : WS} {x : Wld} {q : LS} {y : Lin}
theorem LinAt.below (h : LinAt w B q y) (b : Below B w w') : LinAt w' B q y := ⟨h.r0.below b, h.r1.below b, h.r2.below b, h.r3.below b⟩
theorem LinAt.more (h : LinAt w B q y) (b : B ≤ B') : LinAt w B' q y := ⟨h.r0.more b, h.r1.more b, h.r2.more b, h.r3.more b⟩
theorem WldAt.below (h : WldAt w B s x) (b : Below B w w') : WldAt w' B s x := by
  obtain ⟨⟨ls, l1, l2, l3⟩, rb, rg, rt, ⟨vs, o1, o2, o3⟩, re, rs, rf⟩ := h
  exact ⟨⟨ls, l1, l2.below b, fun k y hy => by obtain ⟨q, e, r⟩ := l3 k y hy; exact ⟨q, e, r.below b⟩⟩, rb.below b, rg.below b, rt.below b, ⟨vs, o1, o2.below b, fun k y hy => by obtain ⟨A, c, e, r⟩ := o3 k y hy; exact ⟨A, c, e, r.below b⟩⟩, re.below b, rs.below b, rf.below b⟩
theorem WldAt.more (h : WldAt w B s x) (b : B ≤ B') : WldAt w B' s x := by
  obtain ⟨⟨ls, l1, l2, l3⟩, rb, rg, rt, ⟨vs, o1, o2, o3⟩, re, rs, rf⟩ := h
  exact ⟨⟨ls, l1, l2.more b, fun k y hy => by obtain ⟨q, e, r⟩ := l3 k y hy; exact ⟨q, e, r.more b⟩⟩, rb.more b, rg.more b, rt.more b, ⟨vs, o1, o2.more b, fun k y hy => by obtain ⟨A, c, e, r⟩ := o3 k y hy; exact ⟨A, c, e, r.more b⟩⟩, re.more b, rs.more b, rf.more b⟩
end
end Go.Proofs.YtmbopkcmbiommaaGreatDoor
