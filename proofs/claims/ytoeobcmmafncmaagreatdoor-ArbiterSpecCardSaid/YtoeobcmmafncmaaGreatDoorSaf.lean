/- The group in plain words: what is an element, products, powers, numbers. No program here. -/
import Derived.Test.YtoeobcmmafncmaaGreatDoorSaa
import Derived.Test.YtoeobcmmafncmaaGreatDoorSae
import Derived.Outline
import Derived.WalkMore
import Derived.RangeFuncFrom
import Derived.RangeFuncBox
import Derived.RangeFuncLeaves
import Derived.Shelf.Abstract
import Derived.OwnWalkIn
import Derived.TacticsInMore
import Derived.LoopNIn
import Derived.LoopIn
import Derived.BigFrameIn
set_option maxRecDepth 1000000
set_option maxHeartbeats 16000000
namespace Go.Proofs.YtoeobcmmafncmaaGreatDoor
open Go.RowKit
def validN (x:Nat):Bool:=powP x Qn==1
def validB (x:Int):Bool:=decide (1≤x)&&(decide (x<2147483579)&&validN x.toNat)
theorem validB_iff (x:Int):validB x=true↔1≤x∧x<2147483579∧powP x.toNat Qn=1:=by
 unfold validB validN;simp
theorem validB_low {x:Int} (h:x<1):validB x=false:=by unfold validB;rw [decide_eq_false (by omega)];rfl
theorem validB_high {x:Int} (h:2147483579≤x):validB x=false:=by unfold validB;rw [decide_eq_false (p:=x<2147483579) (by omega)];simp
theorem validB_mid {x:Nat} (h0:0<x) (h1:x<2147483579):validB (x:Int)=jac x Pn:=by
 rw [jac_euler h0 h1]
 unfold validB validN
 rw [decide_eq_true (by omega),decide_eq_true (by omega),Int.toNat_natCast]
 simp only [Bool.true_and]
 by_cases h:powP x Qn=1
 ·rw [h];rfl
 ·rw [beq_eq_false_iff_ne.2 h,decide_eq_false h]
def JacRel (x0:Nat) (x n:Nat) (sq:Bool):Prop:=0<x∧n % 2=1∧x<n∧n≤2147483579∧Nat.Coprime n x∧jac x0 Pn=(sq==jac x n)
theorem JacRel.start {x:Nat} (h0:0<x) (h1:x<2147483579):JacRel x x 2147483579 true :=
 ⟨h0,by decide,h1,Nat.le_refl _,Pn_prime h0 h1,by show jac x Pn=(true==jac x Pn);simp⟩
theorem JacRel.half {x0 y n:Nat} {sq:Bool} (h:JacRel x0 (2*y) n sq):JacRel x0 y n (sq == !(n % 8==3||n % 8==5)):=by
 obtain ⟨h1,h2,h3,h4,h5,h6⟩:=h
 refine ⟨by omega,h2,by omega,h4,coprime_half h5,?_⟩
 rw [h6,jac_half h2 h5]
 generalize jac y n=a
 generalize (n % 8==3||n % 8==5)=b
 cases sq <;> cases a <;> cases b <;> rfl
theorem JacRel.swap {x0 x n:Nat} {sq:Bool} (h:JacRel x0 x n sq) (hx:x % 2=1) (h1:1<x):JacRel x0 (n % x) x (sq == !(x % 4==3&&n % 4==3)):=by
 obtain ⟨_,h2,h3,h4,h5,h6⟩:=h
 have hc:Nat.Coprime x (n % x):=by
  have:Nat.gcd x (n % x)=1:=by rw [Nat.gcd_comm,←Nat.gcd_rec,Nat.gcd_comm];exact h5
  exact this
 refine ⟨?_,hx,Nat.mod_lt _ (by omega),by omega,hc,?_⟩
 ·rcases Nat.eq_zero_or_pos (n % x) with h0 | h0
  ·rw [h0] at hc
   have:x=1:=by simpa [Nat.Coprime] using hc
   omega
  ·exact h0
 ·rw [h6,jac_swap h2 hx h5]
  generalize jac (n % x) x=a
  generalize (x % 4==3&&n % 4==3)=b
  cases sq <;> cases a <;> cases b <;> rfl
theorem JacRel.done {x0 n:Nat} {sq:Bool} (h:JacRel x0 1 n sq):jac x0 Pn=sq:=by
 rw [h.2.2.2.2.2,jac_one];cases sq <;> rfl
theorem eq_nt (a b:Bool):(a == !(true||b))=!a:=by cases a <;> cases b <;> rfl
theorem eq_ft (a:Bool):(a == !(false||true))=!a:=by cases a <;> rfl
theorem eq_ff (a:Bool):(a == !(false||false))=a:=by cases a <;> rfl
theorem eq_tt2 (a:Bool):(a == !(true&&true))=!a:=by cases a <;> rfl
theorem eq_tf2 (a:Bool):(a == !(true&&false))=a:=by cases a <;> rfl
theorem eq_f2 (a b:Bool):(a == !(false&&b))=a:=by cases a <;> cases b <;> rfl
theorem group_valid (x:Int) (w:World):Calls Tryz.prog 43 #[.int .i64 x] w (Same (.bool (validB x)) w):=by
 by_cases h0:x<1
 ·have hv:=Lib.hid (validB_low h0)
  go_enter Tryz.func43,Tryz.ntmps43
  go_wp2;go_step3;go_wp2
  rw [Exit.noGoto_ret]
  go_ret
  exact ⟨ret_bool hv.out.symm,rfl⟩
 by_cases h1:2147483579≤x
 ·have hv:=Lib.hid (validB_high h1)
  go_enter Tryz.func43,Tryz.ntmps43
  go_wp2;go_step3;go_wp2
  rw [Exit.noGoto_ret]
  go_ret
  exact ⟨ret_bool hv.out.symm,rfl⟩
 obtain ⟨x0,rfl⟩:=Int.eq_ofNat_of_zero_le (show 0≤x by omega)
 have hx0:0<x0:=by omega
 have hx1:x0<2147483579:=by omega
 have hv:=Lib.hid (validB_mid hx0 hx1)
 have hs:=Lib.hid (JacRel.start hx0 hx1)
 clear h0 h1
 go_enter Tryz.func43,Tryz.ntmps43
 go_wp2;go_step3;go_wp2;go_step3;go_wp2
 go_loop [0,3,4] (fun a b c=>∃ (x n:Nat) (sq:Bool),a = .int .i64 x∧b = .int .i64 n∧c = .bool sq∧Hid (JacRel x0 x n sq)) (fun _ b _=>(intOf b).toNat)
 case atStart=>exact ⟨_,_,_,rfl,rfl,rfl,hs⟩
 case round =>
  clear hs
  obtain ⟨x,n,sq,rfl,rfl,rfl,hj⟩:=hrel
  have g:=hj.out
  have hx0:=g.1
  have hxn:=g.2.2.1
  have hnP:=g.2.2.2.1
  clear g
  by_cases hx:1<x
  ·have hx':((x:Int)==1)=false:=by simp;omega
   go_wp2
   go_loop [0,4] (fun a c=>∃ (y:Nat) (sq:Bool),a = .int .i64 y∧c = .bool sq∧y≤x∧Hid (JacRel x0 y n sq)) (fun a _=>(intOf a).toNat)
   case atStart=>exact ⟨_,_,rfl,rfl,Nat.le_refl _,hj⟩
   case round =>
    clear hj hx' hx0
    obtain ⟨y,sq2,rfl,rfl,hyx,hj⟩:=hrel
    have g:=hj.out
    have hy0:=g.1
    have hyn:=g.2.2.1
    clear g
    by_cases hev:y % 2=0
    ·obtain ⟨z,rfl⟩:∃ z,y=2*z:=⟨y / 2,by omega⟩
     have hh:=Lib.hid hj.out.half
     have he:(((2*z:Nat):Int) % 2==0)=true:=by simp
     clear hj hev
     by_cases h3:n % 8=3
     ·have h3':((n:Int) % 8==3)=true:=by simp;omega
      have h3n:(n % 8==3)=true:=by simp [h3]
      rw [h3n,eq_nt] at hh
      clear h3 h3n
      go_wp2
      exact ⟨⟨z,_,rfl,rfl,by omega,hh⟩,by simp [intOf];omega⟩
     ·have h3':((n:Int) % 8==3)=false:=by simp;omega
      have h3n:(n % 8==3)=false:=by simp [h3]
      rw [h3n] at hh
      clear h3 h3n
      by_cases h5:n % 8=5
      ·have h5':((n:Int) % 8==5)=true:=by simp;omega
       have h5n:(n % 8==5)=true:=by simp [h5]
       rw [h5n,eq_ft] at hh
       clear h5 h5n
       go_wp2
       exact ⟨⟨z,_,rfl,rfl,by omega,hh⟩,by simp [intOf];omega⟩
      ·have h5':((n:Int) % 8==5)=false:=by simp;omega
       have h5n:(n % 8==5)=false:=by simp [h5]
       rw [h5n,eq_ff] at hh
       clear h5 h5n
       go_wp2
       exact ⟨⟨z,_,rfl,rfl,by omega,hh⟩,by simp [intOf];omega⟩
    ·have hev':y % 2=1:=by omega
     have he:(((y:Nat):Int) % 2==0)=false:=by simp;omega
     clear hev
     by_cases hy1:y=1
     ·subst hy1
      have hd:=Lib.hid hj.out.done
      go_wp2
      try rw [Exit.noGoto_ret]
      go_ret
      exact ⟨ret_bool (by rw [hv.out,hd.out]),rfl⟩
     ·have hy2:1<y:=by omega
      have hh:=Lib.hid (hj.out.swap hev' hy2)
      have hy3:((y:Int)==1)=false:=by simp;omega
      clear hj hy1
      by_cases h3:y % 4=3
      ·have h3':((y:Int) % 4==3)=true:=by simp;omega
       have h3n:(y % 4==3)=true:=by simp [h3]
       rw [h3n] at hh
       by_cases h4:n % 4=3
       ·have h4':((n:Int) % 4==3)=true:=by simp;omega
        have h4n:(n % 4==3)=true:=by simp [h4]
        rw [h4n,eq_tt2] at hh
        clear h3 h4 h3n h4n
        go_wp2
        exact ⟨⟨n % y,y,_,by go_num,rfl,rfl,hh⟩,by simp [intOf];omega⟩
       ·have h4':((n:Int) % 4==3)=false:=by simp;omega
        have h4n:(n % 4==3)=false:=by simp [h4]
        rw [h4n,eq_tf2] at hh
        clear h3 h4 h3n h4n
        go_wp2
        exact ⟨⟨n % y,y,_,by go_num,rfl,rfl,hh⟩,by simp [intOf];omega⟩
      ·have h3':((y:Int) % 4==3)=false:=by simp;omega
       have h3n:(y % 4==3)=false:=by simp [h3]
       rw [h3n,eq_f2] at hh
       clear h3 h3n
       go_wp2
       exact ⟨⟨n % y,y,_,by go_num,rfl,rfl,hh⟩,by simp [intOf];omega⟩
  ·obtain rfl:x=1:=by omega
   have hd:=Lib.hid hj.out.done
   go_wp2
   go_ret
   exact ⟨ret_bool (by rw [hv.out,hd.out]),rfl⟩
def LeavesM (P:Program) (fn:Func) (tmps:Array Value) (R:Ending→World→Prop):List Deferred→FrameMode→World→Prop
 | [],u,w=>Leaves P fn tmps R [] u w
 | d::ds,u,w=>u ≠ .run ∧
   ((∃ r w', d.target = .collected r ∧ (Instr.takeDeferred r).run P w = .ok [] w' ∧ LeavesM P fn tmps R ds u w') ∨
    (∃ fv cap f args, d.target = .fn fv cap ∧ (invoke d.target d.args).run P w = .ok (.enter f args) w ∧
     CallsD P f args u w fun
      | .returned _,u',w'=>LeavesM P fn tmps R ds (settle u') w'
      | .panicked chain,u',w'=>LeavesM P fn tmps R ds (raised u' chain) w'
      | .outgrown,_,w'=>R .outgrown w'))
theorem leavesM_steps {P:Program} {fn:Func} {tmps:Array Value} {R:Ending→World→Prop} : ∀ (ds:List Deferred) (u:FrameMode) (w:World) (fr:Frame)
  (cs:List Frame),fr.mode=u→fr.defers=ds→fr.tmps=tmps→P.funcs[fr.fn]?=some fn→fr.kind = .normal→LeavesM P fn tmps R ds u w →
  ∃ e w' fr',R e w'∧Comes P (lone fr cs w) (lone fr' cs w') e∧fr'.fn=fr.fn∧fr'.leaving P w' e:=by
 intro ds
 induction ds with
 | nil=>exact fun u w fr cs hu hd ht hf hk h=>leaves_steps [] u w fr cs hu hd ht hf hk h
 | cons d ds ih =>
  intro u w fr cs hu hd ht hf hk h
  obtain ⟨hrun,h⟩:=h
  rcases h with ⟨r,w',htar,htake,hrest⟩ | ⟨fv,cap,f,args,htar,hinv,hcall⟩
  ·have h1:=step_collected (cs:=cs) (hu▸hrun) hd htar htake
   obtain ⟨e',w'',fr',hR',hs',hfn',hl'⟩:=ih u w' { fr with defers:=[]++ds } cs hu rfl ht hf hk hrest
   exact ⟨e',w'',fr',hR',Comes.of_steps (.one h1) hs',hfn',hl'⟩
  ·have h1:=step_defer (cs:=cs) (hu▸hrun) hd htar hinv
   obtain ⟨e,u',w',frX,hR,hsteps,hkX,hgo⟩:=hcall { fr with defers:=ds } cs hu
   cases e with
   | outgrown=>exact ⟨.outgrown,w',fr,hR,Outgrown.of_steps (.one h1) hsteps,rfl,trivial⟩
   | returned v =>
    have h2:=step_going_returned (c:={ { fr with defers:=ds } with mode:=u' }) (cs:=cs) hkX hgo
    obtain ⟨e',w'',fr',hR',hs',hfn',hl'⟩:=ih (settle u') w' { { { fr with defers:=ds } with mode:=u' } with mode:=settle u' } cs rfl rfl ht hf hk hR
    exact ⟨e',w'',fr',hR',Comes.of_steps (.head h1 (Steps.trans hsteps (.one h2))) hs',hfn',hl'⟩
   | panicked chain =>
    have h2:=step_going_panicked (c:={ { fr with defers:=ds } with mode:=u' }) (cs:=cs) hgo
    obtain ⟨e',w'',fr',hR',hs',hfn',hl'⟩:=ih (raised u' chain) w' { { { fr with defers:=ds } with mode:=u' } with mode:=raised u' chain } cs rfl rfl ht hf hk hR
    exact ⟨e',w'',fr',hR',Comes.of_steps (.head h1 (Steps.trans hsteps (.one h2))) hs',hfn',hl'⟩
def bodyPostDM (P:Program) (fn:Func) (R:Ending→World→Prop):Exit→Act→World→Prop
 | .normal,a,w | .ret,a,w=>LeavesM P fn a.tmps R a.defers .returning w
 | .panic chain,a,w=>LeavesM P fn a.tmps R a.defers (.panicking chain) w
 | .outgrown,_,w=>R .outgrown w
 | _,_,_=>False
theorem calls_of_wp_dm {P:Program} {f:FuncId} {fn:Func} {c:Code} {args:Array Value} {w:World} {R:Ending→World→Prop}
  (hf:P.funcs[f]?=some fn) (hb:fn.body=some c)
  (h:c.wp P (bodyPostDM P fn R) { tmps:=args++Array.replicate (fn.ntmps - args.size) undef,defers:=[] } w):Calls P f args w R:=by
 intro cs
 let b:Frame:={ (default:Frame) with fn:=f,kind := .normal }
 have henter:Frame.enter P f args .normal =
   b.at { tmps:=args++Array.replicate (fn.ntmps - args.size) undef,defers:=[] } [.code c]:=by
  simp [Frame.enter,Frame.at,hf,hb,b]
 obtain ⟨e,a',w',hq,harr⟩:=h b [] cs
 rw [←henter] at harr
 cases e with
 | normal =>
  obtain ⟨e',w'',fr',hR,hs,hfn,hl⟩:=leavesM_steps a'.defers .returning w' { b.at a' [] with mode := .returning } cs rfl rfl rfl hf rfl hq
  exact ⟨e',w'',fr',hR,Comes.of_steps (Steps.trans harr (.one step_end)) hs,hfn,hl⟩
 | ret =>
  obtain ⟨todo,hs₀⟩:=harr
  obtain ⟨e',w'',fr',hR,hs,hfn,hl⟩:=leavesM_steps a'.defers .returning w' { b.at a' todo with mode := .returning } cs rfl rfl rfl hf rfl hq
  exact ⟨e',w'',fr',hR,Comes.of_steps hs₀ hs,hfn,hl⟩
 | panic chain =>
  obtain ⟨todo,hs₀⟩:=harr
  obtain ⟨e',w'',fr',hR,hs,hfn,hl⟩:=leavesM_steps a'.defers (.panicking chain) w' { b.at a' todo with mode := .panicking chain } cs rfl rfl rfl hf rfl hq
  exact ⟨e',w'',fr',hR,Comes.of_steps hs₀ hs,hfn,hl⟩
 | exit id=>exact hq.elim
 | goto l=>exact hq.elim
 | outgrown=>exact ⟨.outgrown,w',b,hq,harr.resolve_left (by simp [b]),rfl,trivial⟩
structure Keeps (S:Nat→Prop) (A B:World):Prop where
 size:A.heap.size≤B.heap.size
 same:∀ k,S k→B.heap[k]?=A.heap[k]?
section
variable {S:Nat→Prop} {A B C:World}
theorem Keeps.refl (S:Nat→Prop) (A:World):Keeps S A A:=⟨Nat.le_refl _,fun _ _=>rfl⟩
theorem Keeps.trans (h:Keeps S A B) (k:Keeps S B C):Keeps S A C:=⟨Nat.le_trans h.size k.size,fun i hi=>(k.same i hi).trans (h.same i hi)⟩
theorem Keeps.cell (h:Keeps S A B) {p:Addr} (hp:S p.block):B.cell? p=A.cell? p:=World.cell?_of_block (w:=A) (h.same _ hp)
theorem Keeps.of_below {n:Nat} (h:Below n A B) (hS:∀ k,S k→k<n):Keeps S A B:=⟨h.size,fun k hk=>h.block k (hS k hk)⟩
theorem Keeps.setCell (h:Keeps S A B) {p:Addr} (hp:¬S p.block) (u:Value):Keeps S A (B.setCell p u) :=
 h.trans ⟨by simp [World.setCell],fun k hk=>Below.heap_setCell _ _ _ _ (fun e=>by subst e;exact hp hk)⟩
theorem Keeps.alloc (h:Keeps S A B) (hS:∀ k,S k→k<B.heap.size) (o:Obj):Keeps S A (B.alloc o) :=
 h.trans ⟨by simp,fun k hk=>Below.heap_alloc _ _ _ (hS k hk)⟩
theorem Keeps.put {w:World} (hS:∀ k,S k→k<w.heap.size) (W:World) (l:Nat) (o o':Obj) (hl:w.heap.size≤l) (_:W.heap[l]?=some o) (_:o.isCells=false) (_:o.isWalk=false):Keeps S W (W.putObj l o') :=
 ⟨by simp,fun k hk=>World.putObj_heap_other (by have:=hS k hk;omega)⟩
theorem Rd.keeps {B' sz n:Nat} {a:Option Addr} {xs:List Value} (h:Rd A B' sz a n xs) (hk:Keeps S A B) (hS:∀ k,k<B'→S k):Rd B B' sz a n xs:=h.keep fun _ hp=>hk.cell (hS _ hp)
end
theorem Blk.kept {W W':World} {g:Nat} {t:TypeId} {cs:Array Value} {row:Option Nat} {B:Nat} (h:Blk W g t cs) (hg:W.grownBy W' row) (hr:∀ r,row=some r→B≤r∧∃ o:Obj,W.heap[r]?=some o∧o.isCells=false):Blk W' g t cs :=
 (grownBy_keeps_cells hg (fun r e=>(hr r e).2) h rfl).trans h
theorem Blk.put {W:World} {g D:Nat} {t:TypeId} {cs:Array Value} (h:Blk W g t cs) {o o':Obj} (hD:W.heap[D]?=some o) (ho:o.isCells=false):Blk (W.putObj D o') g t cs :=
 (World.putObj_heap_other (by intro e;subst e;unfold Blk at h;rw [h] at hD;cases hD;cases ho)).trans h
theorem bGrown {a W W':World} {row:Option Nat} {B:Nat} (h:Below a.heap.size a W) (hg:W.grownBy W' row) (hB:a.heap.size≤B) (hr:∀ r,row=some r→B≤r∧∃ o:Obj,W.heap[r]?=some o∧o.isCells=false):Below a.heap.size a W' :=
 h.grown hg h.size (fun k e=>Nat.le_trans hB (hr k e).1)
theorem leavesM_mark {P:Program} {fn:Func} {tmps:Array Value} {R:Ending→World→Prop} {D:Nat} {ds:List Deferred} {u:FrameMode} {w:World}
  (hu:u ≠ .run) (hD:w.heap[D]?=some (.deferred (some []))) (h:LeavesM P fn tmps R ds u (w.putObj D (.deferred none))) :
  LeavesM P fn tmps R ({ target := .collected D,args:=#[] }::ds) u w :=
 ⟨hu,.inl ⟨D,_,rfl,run_takeDeferred hD,h⟩⟩
theorem bPut {a w:World} (h:Below a.heap.size a w) {D:Nat} (hD:a.heap.size≤D) (o:Obj):Below a.heap.size a (w.putObj D o) :=
 h.grown (grownBy_putObj' w D o) h.size (fun k e=>by cases e;exact hD)
def mulV (a b:Int):Int:=if validB a=true then (if validB b=true then a*b % 2147483579 else 0) else 0
def mulE (a b:Int):Int:=if validB a=true then (if validB b=true then 0 else 90) else 90
theorem mulV_yes {a b:Int} (ha:validB a=true) (hb:validB b=true):mulV a b=a*b % 2147483579∧mulE a b=0:=by unfold mulV mulE;rw [if_pos ha,if_pos ha,if_pos hb,if_pos hb];exact ⟨rfl,rfl⟩
theorem mulV_no1 {a b:Int} (ha:¬validB a=true):mulV a b=0∧mulE a b=90:=by unfold mulV mulE;rw [if_neg ha,if_neg ha];exact ⟨rfl,rfl⟩
theorem mulV_no2 {a b:Int} (hb:¬validB b=true):mulV a b=0∧mulE a b=90:=by
 unfold mulV mulE;rw [if_neg hb,if_neg hb];constructor <;> split <;> rfl
theorem ret_ii {k e k' e':Int} (h:k=k') (h':e=e'):Ending.returned (.tuple #[.int .i64 k,.int .i64 e]) = .returned (.tuple #[.int .i64 k',.int .i64 e']):=by rw [h,h']
theorem mul_rng {a b:Int} (ha:0≤a) (hb:0≤b) (ha2:a<2147483579) (hb2:b<2147483579):0≤a*b∧a*b≤4611685743549480100:=by
 refine ⟨Int.mul_nonneg ha hb,?_⟩
 have h:a*b≤2147483578*2147483578:=Int.mul_le_mul (by omega) (by omega) hb (by omega)
 omega
theorem validB_rng {a:Int} (h:validB a=true):1≤a∧a<2147483579:=by
 have:=(validB_iff a).1 h
 exact ⟨this.1,this.2.1⟩
theorem group_mul (a b:Int) (w:World):Calls Tryz.prog 55 #[.int .i64 a,.int .i64 b] w (Same (.tuple #[.int .i64 (mulV a b),.int .i64 (mulE a b)]) w):=by
 cases ha:validB a
 ·have hr:=Lib.hid (mulV_no1 (a:=a) (b:=b) (by simp [ha]))
  have q1:=group_valid a w
  rw [ha] at q1
  clear ha
  go_enter Tryz.func55,Tryz.ntmps55
  go_wp2_with fail
  refine q1.mono ?_
  rintro e w' ⟨rfl,rfl⟩
  go_wp2_with fail
  go_ret2
  exact ⟨ret_ii hr.out.1.symm hr.out.2.symm,rfl⟩
 ·cases hb:validB b
  ·have hr:=Lib.hid (mulV_no2 (a:=a) (b:=b) (by simp [hb]))
   have q1:=group_valid a w
   have q2:=group_valid b w
   rw [ha] at q1
   rw [hb] at q2
   clear ha hb
   go_enter Tryz.func55,Tryz.ntmps55
   go_wp2_with fail
   refine q1.mono ?_
   rintro e w' ⟨rfl,rfl⟩
   go_wp2_with fail
   refine q2.mono ?_
   rintro e w' ⟨rfl,rfl⟩
   go_wp2_with fail
   go_ret2
   exact ⟨ret_ii hr.out.1.symm hr.out.2.symm,rfl⟩
  ·have hr:=Lib.hid (mulV_yes ha hb)
   have q1:=group_valid a w
   have q2:=group_valid b w
   obtain ⟨a1,a2⟩:=validB_rng ha
   obtain ⟨b1,b2⟩:=validB_rng hb
   obtain ⟨m1,m2⟩:=mul_rng (show 0≤a by omega) (show 0≤b by omega) a2 b2
   rw [ha] at q1
   rw [hb] at q2
   clear ha hb
   go_enter Tryz.func55,Tryz.ntmps55
   go_wp2_with fail
   refine q1.mono ?_
   rintro e w' ⟨rfl,rfl⟩
   go_wp2_with fail
   refine q2.mono ?_
   rintro e w' ⟨rfl,rfl⟩
   go_wp2_with fail
   go_ret2
   exact ⟨ret_ii hr.out.1.symm hr.out.2.symm,rfl⟩
def elemV (n:Int):Int:=if 1≤n∧n≤1073741789 then (if validB n=true then n else 2147483579 - n) else 0
def elemE (n:Int):Int:=if 1≤n∧n≤1073741789 then 0 else 1
def numV (x:Int):Int:=if validB x=true then (if x≤2147483579 - x then x else 2147483579 - x) else 0
def numE (x:Int):Int:=if validB x=true then 0 else 90
theorem group_element (n:Int) (w:World):Calls Tryz.prog 44 #[.int .i64 n] w (Same (.tuple #[.int .i64 (elemV n),.int .i64 (elemE n)]) w):=by
 by_cases h:1≤n∧n≤1073741789
 ·have he:Hid (elemE n=0):=if_pos h
  have hv:Hid (elemV n=if validB n=true then n else 2147483579 - n):=if_pos h
  obtain ⟨h1,h2⟩:=h
  have q1:=group_valid n w
  cases hb:validB n
  ·rw [hb] at q1
   have hv2:Hid (elemV n=2147483579 - n):=by show _=_;rw [hv.out,hb];rfl
   clear hb hv
   go_enter Tryz.func44,Tryz.ntmps44
   go_wp2_with fail
   refine q1.mono ?_
   rintro e w' ⟨rfl,rfl⟩
   go_wp2_with fail
   go_ret2
   exact ⟨ret_ii hv2.out.symm he.out.symm,rfl⟩
  ·rw [hb] at q1
   have hv2:Hid (elemV n=n):=by show _=_;rw [hv.out,hb];rfl
   clear hb hv
   go_enter Tryz.func44,Tryz.ntmps44
   go_wp2_with fail
   refine q1.mono ?_
   rintro e w' ⟨rfl,rfl⟩
   go_wp2_with fail
   go_ret2
   exact ⟨ret_ii hv2.out.symm he.out.symm,rfl⟩
 ·have he:Hid (elemE n=1):=if_neg h
  have hv:Hid (elemV n=0):=if_neg h
  have h':n<1∨(1≤n∧1073741789<n):=by omega
  clear h
  rcases h' with h | ⟨h,h1⟩
  all_goals
   go_enter Tryz.func44,Tryz.ntmps44
   go_wp2_with fail
   go_ret2
   exact ⟨ret_ii hv.out.symm he.out.symm,rfl⟩
end Go.Proofs.YtoeobcmmafncmaaGreatDoor
