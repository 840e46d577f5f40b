/- A range over an iterator that writes nothing: the loop's state is a list of blocks, known whole, and a word on what has been yielded. -/
import Derived.Test.YthbibbkbaphpkaaGreatDoorMad
import Derived.RangeFuncCalls
set_option maxHeartbeats 16000000
set_option maxRecDepth 1000000
namespace Go.Proofs.YthbibbkbaphpkaaGreatDoor
open _root_.Go.Proofs.Tryz
section
open Go.RowKit
theorem inR {n:Nat} {P:Program} {f:FuncId} {args:Array Value} {w:World} {R:Ending→World→Prop} (L:Nat) (h:Calls P f args w R):CallsIn (Fence.wide.inRound L) n P f args w R:=(callsIn_wide.2 h).inRound L
def Blks (W:World):List (Nat×TypeId×Array Value)→Prop
 | []=>True
 | x::l=>Blk W x.1 x.2.1 x.2.2∧Blks W l
theorem Blks.kept {W W':World} {row:Option Nat} {B:Nat} (hg:W.grownBy W' row) (hr:∀ r,row=some r→B≤r∧∃ o:Obj,W.heap[r]?=some o∧o.isCells=false):∀ {l:List (Nat×TypeId×Array Value)},Blks W l→Blks W' l
 | [],_=>trivial
 | _::_,h=>⟨h.1.kept hg hr,Blks.kept hg hr h.2⟩
theorem Blks.put {W:World} {D:Nat} {o o':Obj} (hD:W.heap[D]?=some o) (ho:o.isCells=false):∀ {l:List (Nat×TypeId×Array Value)},Blks W l→Blks (W.putObj D o') l
 | [],_=>trivial
 | _::_,h=>⟨h.1.put hD ho,Blks.put hD ho h.2⟩
def tK {α:Type} (K:Nat→Prop) (base:World) (bl:List α→List (Nat×TypeId×Array Value)) (R:List α→Prop) (bx:Code→List α→List (Nat×TypeId×Array Value)) (Rx:Code→List α→Prop) (xs:List α) (W:World):Exit→Act→World→Prop
 | .normal,_,W'=>KeepsOthers W W'∧Keeps K W W'∧Below base.heap.size base W'∧Blks W' (bl xs)∧R xs
 | .ret,_,W'=>KeepsOthers W W'∧Below base.heap.size base W'∧Blks W' (bx .ret xs)∧Rx .ret xs
 | .exit id,_,W'=>KeepsOthers W W'∧Below base.heap.size base W'∧Blks W' (bx (.exit id) xs)∧Rx (.exit id) xs
 | .goto t,_,W'=>KeepsOthers W W'∧Below base.heap.size base W'∧Blks W' (bx (.goto t) xs)∧Rx (.goto t) xs
 | .panic _,_,_=>False
 | .outgrown,_,_=>False
theorem XU {P:Program} {α:Type} {g:Operand} {ps:Array Tmp} {assign body:Code} {Q:Exit→Act→World→Prop} {a:Act} {w:World} (n:Nat)
  {gf:Nat} {lb:Array Value} (hg:a.eval g = .func (.func gf) #[] lb) (eg:∀ args w,(callFunc gf args).run P w = .ok (.enter gf args) w)
  {encs:α→Array Value} {S Sp:List α→Prop} {N:Nat} (K:Nat→Prop) (hseq:GX (fun _=>False) (n+1) P gf lb encs (Keeps K) S Sp N w) (hK:∀ k,K k→k<w.heap.size) (hps:∀ x,(encs x).size=ps.size)
  (base:World) (hb:Below base.heap.size base w) (bl:List α→List (Nat×TypeId×Array Value)) (R:List α→Prop) (bx:Code→List α→List (Nat×TypeId×Array Value)) (Rx:Code→List α→Prop)
  (h0:Blks w (bl [])) (hR0:R [])
  (hround:∀ (l:Nat) (pre:List α) (x:α) (W:World),pre.length<N →
   assign.wpIn (Fence.wide.inRound l) n P (Exit.then (fun a₁ W₁=>W=W₁∧∀ (L:Nat) (W2:World),Below base.heap.size base W2→Blks W2 (bl pre)→R pre→body.wpIn (Fence.wide.inRound L) n P (tK K base bl R bx Rx (pre++[x]) W2) a₁ W2) (fun _ _ _=>False)) { tmps:=(ps.zip (encs x)).foldl (fun t (p,v)=>t.setIfInBounds p v) a.tmps,defers:=[] } W)
  (hdone:∀ (D:Nat) (xs:List α) (W:World),base.heap.size≤D→S xs→Below base.heap.size base W→Blks W (bl xs)→R xs→W.heap[D]?=some (.deferred (some []))→Q .normal { a with defers:={ target := .collected D,args:=#[] }::a.defers } W)
  (hstop:∀ (D:Nat) (c:Code) (pre:List α) (W:World),base.heap.size≤D→Sp pre→Below base.heap.size base W→Blks W (bx c pre)→Rx c pre→W.heap[D]?=some (.deferred (some []))→c.wp P Q { a with defers:={ target := .collected D,args:=#[] }::a.defers } W) :
  (Code.rangeFunc g ps assign body).wp P Q a w:=by
 refine jX n hg eg (S:=S) (Sp:=Sp) (N:=N) (w0:=w) (T:=fun _=>False) hseq (fun _ h=>h.elim) Keeps.trans (Keeps.put hK) (aj _) hps
  (fun pre W'=>Below base.heap.size base W'∧Blks W' (bl pre)∧R pre)
  (fun x a₁ pre W'=>(Below base.heap.size base W'∧Blks W' (bl pre)∧R pre)∧∀ (L:Nat) (W2:World),Below base.heap.size base W2→Blks W2 (bl pre)→R pre→body.wpIn (Fence.wide.inRound L) n P (tK K base bl R bx Rx (pre++[x]) W2) a₁ W2)
  (fun c pre W'=>Below base.heap.size base W'∧Blks W' (bx c pre)∧Rx c pre)
  (fun pre A' B' row h hg hr=>⟨gz h.1 hg hb.size hr,Blks.kept hg hr h.2.1,h.2.2⟩)
  (fun x a pre A' B' row h hg hr=>⟨⟨gz h.1.1 hg hb.size hr,Blks.kept hg hr h.1.2.1,h.1.2.2⟩,h.2⟩)
  (fun c pre A' B' row h hg hr=>⟨gz h.1 hg hb.size hr,Blks.kept hg hr h.2.1,h.2.2⟩)
  (fun _ _ _ _ _ ht=>ht.elim)
  (fun _ _ _ _ _ _ ht=>ht.elim)
  ⟨hb,h0,hR0⟩ ?_ ?_ ?_ ?_
 ·intro l pre x W hI hlen
  refine wpIn_mono (hround l pre x W hlen) ?_;intro e a' w' hp;cases e with
  | normal =>
   obtain ⟨rfl,hp⟩:=hp;exact ⟨KeepsOthers.refl _,Keeps.refl _ _,hI,hp⟩
  | _=>exact hp
 ·intro l pre x a₁ W hI hlen
  refine wpIn_mono (hI.2 l W hI.1.1 hI.1.2.1 hI.1.2.2) ?_;intro e a' w' hp;cases e with
  | normal=>exact ⟨hp.1,hp.2.1,hp.2.2.1,hp.2.2.2.1,hp.2.2.2.2⟩
  | ret=>exact ⟨hp.1,hp.2.1,hp.2.2.1,hp.2.2.2⟩
  | exit id=>exact ⟨hp.1,hp.2.1,hp.2.2.1,hp.2.2.2⟩
  | goto t=>exact ⟨hp.1,hp.2.1,hp.2.2.1,hp.2.2.2⟩
  | panic ch=>exact hp.elim
  | outgrown=>exact hp.elim
 ·intro D xs W hD hS hI hd
  exact hdone D xs W (aaj hb.size hD) hS hI.1 hI.2.1 hI.2.2 hd
 ·intro D c pre W hD hS hI hd
  exact hstop D c pre W (aaj hb.size hD) hS hI.1 hI.2.1 hI.2.2 hd
theorem Keeps.grown {S:Nat→Prop} {A B:World} {s:Nat} (hg:A.grownBy B (some s)) (hS:∀ k,S k→k<A.heap.size∧k≠s):Keeps S A B :=
 ⟨hg.size,fun k hk=>hg.block k (hS k hk).1 (by intro e;injection e with e;exact (hS k hk).2 e)⟩
theorem Blk.grown {A B:World} {s g:Nat} {t:TypeId} {cs:Array Value} (h:Blk A g t cs) (hg:A.grownBy B (some s)) (hne:g≠s):Blk B g t cs :=
 (hg.block g h.lt (by intro e;injection e with e;exact hne e)).trans h
theorem KeepsOthers.grown {A B:World} {s:Nat} {t:TypeId} {cs:Array Value} (hg:A.grownBy B (some s)) (h:Blk A s t cs):KeepsOthers A B :=
 KeepsOthers.of_grownBy hg (fun j o e ho=>by cases e;unfold Blk at h;rw [h] at ho;cases ho;rfl)
theorem UG {a A B:World} {s:Nat} (h:Below a.heap.size a A) (hg:A.grownBy B (some s)) (hs:a.heap.size≤s):Below a.heap.size a B :=
 h.grown hg h.size (fun k e=>by cases e;exact hs)
theorem fC {A w1:World} (b:Below A.heap.size A w1) (s o:Nat) (v:Value):A.grownBy (w1.setCell ⟨s,o,none⟩ v) (some s):=by
 refine ⟨b.os,b.tape,b.output,aaj b.size (by simp [World.setCell]),fun i hi hne=>?_⟩;rw [Below.heap_setCell _ _ _ _ (by intro e;exact hne (by rw [e]))];exact b.block i hi
theorem grownBy_below {A w1:World} (b:Below A.heap.size A w1) (row:Option Nat):A.grownBy w1 row:=⟨b.os,b.tape,b.output,b.size,fun i hi _=>b.block i hi⟩
theorem KeepsOthers.below {A B:World} (b:Below A.heap.size A B):KeepsOthers A B:=KeepsOthers.of_grownBy (grownBy_below b none) (fun _ _ e _=>by cases e)
theorem grownBy_set {A B:World} {s:Nat} (h:A.grownBy B (some s)) (o:Nat) (v:Value):A.grownBy (B.setCell ⟨s,o,none⟩ v) (some s):=by
 refine ⟨h.os,h.tape,h.output,aaj h.size (by simp [World.setCell]),fun i hi hne=>?_⟩;rw [Below.heap_setCell _ _ _ _ (by intro e;exact hne (by rw [e]))];exact h.block i hi hne
end
section
open Go Go.RowKit
def NoOut (Q:Exit→Act→World→Prop):Exit→Act→World→Prop
 | .panic _,_,_=>False
 | .outgrown,_,_=>False
 | e,a,w=>Q e a w
theorem NoOut.normal {Q:Exit→Act→World→Prop} {a:Act} {w:World} (h:Q .normal a w):NoOut Q .normal a w:=h
theorem NoOut.imp {Q:Exit→Act→World→Prop} : ∀ (e:Exit) (a:Act) (w:World),NoOut Q e a w→Q e a w:=fun e a w h=>by
 cases e <;> first | exact h | exact (h:False).elim
theorem JM {Q:Exit→Act→World→Prop} (h:LetsOut (NoOut Q)):False:=by
 obtain ⟨a,w,h⟩:=h;exact h
def qC (ops:Array Oper):Bool:=ops.all fun o=>match o.op with | .defer _=>false | _=>true
theorem ET {ops:Array Oper} (h:qC ops=true) {i:Nat} {o:Oper} (ho:ops[i]?=some o):∀ c,o.op ≠ .defer c:=by
 intro c e;unfold qC at h;rw [abC] at h
 have:=h o (Array.mem_of_getElem? ho)
 rw [e] at this;cases this
section
variable {P:Program} {L n:Nat} {Q:Exit→Act→World→Prop}
theorem JO {o:Oper} {a:Act} {w:World} {K K':Act→World→Prop} (hnd:∀ c,o.op ≠ .defer c) (hK:∀ a w,K a w→K' a w) (h:o.wp P a w K (NoOut Q)):o.wpIn (Fence.wide.inRound L) n P a w K' (NoOut Q):=by
 refine ⟨fun _ _=>trivial,?_⟩;rw [show (Fence.wide.inRound L).round=some L from rfl,Oper.semAt_some _ _ _ hnd];unfold Oper.wp at h
 revert h
 generalize (execOp a.eval o).run P w=r;intro h;cases r with
 | ok x w' =>
  cases x with
  | value v=>exact hK _ _ h
  | skip=>exact hK _ _ h
  | defer d=>exact hK _ _ h
  | enter f args =>
   refine ⟨fun hd=>(by cases hd),CallsIn.inRound L (callsIn_wide.2 (Calls.mono h ?_))⟩;intro e w'' hp;cases e with
   | returned v=>exact hK _ _ hp
   | panicked ch=>exact hp
   | outgrown=>exact hp
  | row row args =>
   refine ⟨fun hd=>(by cases hd),fun c cs _=>?_⟩;obtain ⟨v,w'',hr,hs⟩:=h c cs;exact ⟨v,w'',hK _ _ hr,stepsIn_wide.2 hs⟩
  | _=>exact h.elim
 | halt x w' =>
  cases x with
  | panic v=>exact h
  | _=>exact h.elim
theorem oG {ops:Array Oper} (hnd:qC ops=true):∀ (l:List Nat) (a:Act) (w:World),wpOps P ops (NoOut Q) l a w→wpOpsIn (Fence.wide.inRound L) n P ops (NoOut Q) l a w
 | [],_,_,h=>h
 | i::l,a,w,h=>by
  simp only [wpOps] at h;simp only [wpOpsIn];cases ho:ops[i]? with
  | none=>simp only [ho] at h ⊢;exact oG hnd l a w h
  | some o =>
   simp only [ho] at h ⊢
   split at h
   ·rename_i hw
    rw [if_pos hw];rcases h with h | h
    ·exact JO (ET hnd ho) (fun a w h=>oG hnd l a w h) h
    ·exact (JM h.2).elim
   ·rename_i hw
    rw [if_neg hw];exact ⟨fun _ _=>trivial,oG hnd l _ w h⟩
theorem wpIn_region_any' {id:Nat} {ops:Array Oper} {a:Act} {w:World} (hnd:qC ops=true) (hm:P.follows .mixedOrders=true)
  (h:wpAny P .any ops (NoOut Q) ops.size (Array.replicate ops.size false) a w.drew):(Code.region id ops true).wpIn (Fence.wide.inRound L) n P Q a w:=by
 refine Go.wpIn_mono (wpIn_region_draw (Q:=NoOut Q) fun t=>oG hnd _ _ _ ?_) NoOut.imp;simp only [Region.schedule,hm,Bool.true_or,if_true];exact wpAny_sound ops.size t _ a _ h
theorem yc {id:Nat} {l:List Oper} {a:Act} {w:World} {n:Nat} (S:World→Prop) (f k:Nat) (m:List Nat) (hm:P.follows .mixedOrders=true) (hB:(tJ .any l.toArray f k m&&qC l.toArray)=true)
  (hS:S w.drew)
  (h:gY P l.toArray S (fun a'=>jy P l.toArray (NoOut Q) S k (jf m l) a' w.drew) (ku m l) a):(Code.region id l.toArray true).wpIn (Fence.wide.inRound L) n P Q a w:=by
 simp only [tJ,aal,decide_eq_true_eq] at hB;obtain ⟨⟨⟨⟨h1,h2⟩,h3⟩,h4⟩,h5⟩:=hB;have hl:m.length=l.length:=by simpa using h2
 refine wpIn_region_any' h5 hm ?_
 have:=pR (md := .any) (f:=f) (Q:=NoOut Q) h1 (fun _ _ _ _ _ h=>h) hS (ry m) m l 0 _ a hl (fun j _=>by simp) h3 h (fun a' h'=>rD m k l 0 _ a' w.drew hl (fun j _=>by simp) h4 h')
 have:=jF _ _ _ _ this
 rw [ww,h2] at this;exact this
end
theorem EU {P:Program} {ops:Array Oper} {S:World→Prop} {K:Act→Prop} {b:Bool} {o:Oper} {l:List (Bool×Oper)} {a:Act} (hw:Region.wanted o (yielded ops a.tmps)=false)
  (h:gY P ops S K l (a.put o.dst undef)):gY P ops S K ((b,o)::l) a:=⟨undef,.inr ⟨hw,rfl⟩,h⟩
theorem AZ {P:Program} {α:Type} {g:Operand} {ps:Array Tmp} {assign body:Code} {Q:Exit→Act→World→Prop} {a:Act} {w:World} (n:Nat)
  {gf:Nat} {lb:Array Value} (hg:a.eval g = .func (.func gf) #[] lb) (eg:∀ args w,(callFunc gf args).run P w = .ok (.enter gf args) w)
  {encs:α→Array Value} {S Sp:List α→Prop} {N:Nat} (K:Nat→Prop) (hseq:GX (fun _=>False) (n+1) P gf lb encs (Keeps K) S Sp N w) (hK:∀ k,K k→k<w.heap.size) (hps:∀ x,(encs x).size=ps.size)
  (base:World) (hb:Below base.heap.size base w) (bl:List α→List (Nat×TypeId×Array Value)) (R:List α→Prop) (bx:Code→List α→List (Nat×TypeId×Array Value)) (Rx:Code→List α→Prop)
  (h0:Blks w (bl [])) (hR0:R [])
  (hround:∀ (l:Nat) (pre:List α) (x:α) (W:World),pre.length<N→Below base.heap.size base W→Blks W (bl pre)→R pre →
   assign.wpIn (Fence.wide.inRound l) n P (Exit.then (fun a₁ W₁=>∃ nb:List (Nat×TypeId×Array Value),KeepsOthers W W₁∧Keeps K W W₁∧Below base.heap.size base W₁∧Blks W₁ (nb++bl pre) ∧
    ∀ (L:Nat) (W2:World),Below base.heap.size base W2→Blks W2 (nb++bl pre)→body.wpIn (Fence.wide.inRound L) n P (tK K base bl R bx Rx (pre++[x]) W2) a₁ W2) (fun _ _ _=>False)) { tmps:=(ps.zip (encs x)).foldl (fun t (p,v)=>t.setIfInBounds p v) a.tmps,defers:=[] } W)
  (hdone:∀ (D:Nat) (xs:List α) (W:World),base.heap.size≤D→S xs→Below base.heap.size base W→Blks W (bl xs)→R xs→W.heap[D]?=some (.deferred (some []))→Q .normal { a with defers:={ target := .collected D,args:=#[] }::a.defers } W)
  (hstop:∀ (D:Nat) (c:Code) (pre:List α) (W:World),base.heap.size≤D→Sp pre→Below base.heap.size base W→Blks W (bx c pre)→Rx c pre→W.heap[D]?=some (.deferred (some []))→c.wp P Q { a with defers:={ target := .collected D,args:=#[] }::a.defers } W) :
  (Code.rangeFunc g ps assign body).wp P Q a w:=by
 refine jX n hg eg (S:=S) (Sp:=Sp) (N:=N) (w0:=w) (T:=fun _=>False) hseq (fun _ h=>h.elim) Keeps.trans (Keeps.put hK) (aj _) hps
  (fun pre W'=>Below base.heap.size base W'∧Blks W' (bl pre)∧R pre)
  (fun x a₁ pre W'=>∃ nb:List (Nat×TypeId×Array Value),Below base.heap.size base W'∧Blks W' (nb++bl pre) ∧
   ∀ (L:Nat) (W2:World),Below base.heap.size base W2→Blks W2 (nb++bl pre)→body.wpIn (Fence.wide.inRound L) n P (tK K base bl R bx Rx (pre++[x]) W2) a₁ W2)
  (fun c pre W'=>Below base.heap.size base W'∧Blks W' (bx c pre)∧Rx c pre)
  (fun pre A' B' row h hg hr=>⟨gz h.1 hg hb.size hr,Blks.kept hg hr h.2.1,h.2.2⟩)
  (fun x a pre A' B' row h hg hr=>by
   obtain ⟨nb,h1,h2,h3⟩:=h;exact ⟨nb,gz h1 hg hb.size hr,Blks.kept hg hr h2,h3⟩)
  (fun c pre A' B' row h hg hr=>⟨gz h.1 hg hb.size hr,Blks.kept hg hr h.2.1,h.2.2⟩)
  (fun _ _ _ _ _ ht=>ht.elim)
  (fun _ _ _ _ _ _ ht=>ht.elim)
  ⟨hb,h0,hR0⟩ ?_ ?_ ?_ ?_
 ·intro l pre x W hI hlen
  refine Go.wpIn_mono (hround l pre x W hlen hI.1 hI.2.1 hI.2.2) ?_;intro e a' w' hp;cases e with
  | normal =>
   obtain ⟨nb,h1,h2,h3,h4,h5⟩:=hp;exact ⟨h1,h2,nb,h3,h4,h5⟩
  | _=>exact hp
 ·intro l pre x a₁ W hI hlen
  obtain ⟨nb,h1,h2,h3⟩:=hI;refine Go.wpIn_mono (h3 l W h1 h2) ?_;intro e a' w' hp;cases e with
  | normal=>exact ⟨hp.1,hp.2.1,hp.2.2.1,hp.2.2.2.1,hp.2.2.2.2⟩
  | ret=>exact ⟨hp.1,hp.2.1,hp.2.2.1,hp.2.2.2⟩
  | exit id=>exact ⟨hp.1,hp.2.1,hp.2.2.1,hp.2.2.2⟩
  | goto t=>exact ⟨hp.1,hp.2.1,hp.2.2.1,hp.2.2.2⟩
  | panic ch=>exact hp.elim
  | outgrown=>exact hp.elim
 ·intro D xs W hD hS hI hd
  exact hdone D xs W (aaj hb.size hD) hS hI.1 hI.2.1 hI.2.2 hd
 ·intro D c pre W hD hS hI hd
  exact hstop D c pre W (aaj hb.size hD) hS hI.1 hI.2.1 hI.2.2 hd
section
variable {P:Program} {ops:Array Oper} {Q:Exit→Act→World→Prop} {S:World→Prop} {K:Act→Prop} {o:Oper} {l:List (Bool×Oper)} {a a':Act} {w w0:World} {v:Value}
theorem aU (h:gY P ops S K l a') (hw:Region.wanted o (yielded ops a.tmps)=true:=by rfl)
  (hv:∀ w,(execOp a.eval o).run P w = .ok (.value v) w:=by intro w;go_simp;try with_reducible rfl)
  (ht:a.put o.dst v=a':=by (try simp only [Act.put,aaf,aai,aah]) <;> with_reducible rfl):gY P ops S K ((false,o)::l) a:=by
 subst ht;exact wB hw (fun w _=>hv w) h
theorem aT (h:gY P ops S K l a') (hw:Region.wanted o (yielded ops a.tmps)=true:=by rfl)
  (hv:∀ w,S w→(execOp a.eval o).run P w = .ok (.value v) w:=by intro w hSw;go_simp;try with_reducible rfl)
  (ht:a.put o.dst v=a':=by (try simp only [Act.put,aaf,aai,aah]) <;> with_reducible rfl):gY P ops S K ((true,o)::l) a:=by
 subst ht;exact wB hw hv h
theorem OM {b:Bool} (h:gY P ops S K l a') (hw:Region.wanted o (yielded ops a.tmps)=false:=by rfl)
  (ht:a.put o.dst undef=a':=by (try simp only [Act.put,aaf,aai,aah]) <;> with_reducible rfl):gY P ops S K ((b,o)::l) a:=by
 subst ht;exact EU hw h
theorem lS {X:Act→World→Prop} {K:Act→World→Prop} {b:Act} (hK:Shut (∀ a w,S w→(S w→X a w)→K a w)) (KS:Hid (∀ w',Below w0.heap.size w0 w'→S w')) (h:X a' w) (ht:b=a':=by (try simp only [Act.put,aaf,aai,aah]) <;> with_reducible rfl)
  (hb:Below w0.heap.size w0 w:=by (repeat (first | with_reducible assumption | with_reducible exact aj _ | with_reducible refine bDr ?_ | with_reducible refine bAl ?_ _))):K b w:=by
 subst ht;exact hK.out _ _ (KS.out _ hb) (fun _=>h)
theorem kF {id f n:Nat} {l:List Oper} (KS:Hid (∀ w',Below w0.heap.size w0 w'→S w')) (m:List Nat)
  (h:gY P l.toArray S (fun a'=>jy P l.toArray (NoPanic Q) S n (jf m l) a' w.drew) (ku m l) a)
  (hm:P.follows .mixedOrders=true:=by kernel_rfl) (hB:tJ .any l.toArray f n m=true:=by kernel_rfl)
  (hb:Below w0.heap.size w0 w.drew:=by (repeat (first | with_reducible assumption | with_reducible exact aj _ | with_reducible refine bDr ?_ | with_reducible refine bAl ?_ _))):(Code.region id l.toArray true).wp P Q a w :=
 kX S f n m hm hB (KS.out _ hb) h
theorem fD {L id f k n:Nat} {l:List Oper} (KS:Hid (∀ w',Below w0.heap.size w0 w'→S w')) (m:List Nat)
  (h:gY P l.toArray S (fun a'=>jy P l.toArray (NoOut Q) S k (jf m l) a' w.drew) (ku m l) a)
  (hm:P.follows .mixedOrders=true:=by kernel_rfl) (hB:(tJ .any l.toArray f k m&&qC l.toArray)=true:=by kernel_rfl)
  (hb:Below w0.heap.size w0 w.drew:=by (repeat (first | with_reducible assumption | with_reducible exact aj _ | with_reducible refine bDr ?_ | with_reducible refine bAl ?_ _))):(Code.region id l.toArray true).wpIn (Fence.wide.inRound L) n P Q a w :=
 yc S f k m hm hB (KS.out _ hb) h
end
end
section
open Go.RowKit
def XE (s o:Nat) (a b:Int) (W:World):Ending→World→Prop:=fun e w' =>
 e = .returned (.tuple #[])∧∃ w1,Below W.heap.size W w1∧w'=(w1.setCell ⟨s,o,none⟩ (.int .i64 a)).setCell ⟨s,o+1,none⟩ (.int .i64 b)
theorem JP (W:World) (i:Int) (nb s o:Nat) (n a b:Int) (hn:1≤n∧n<1073741789) (hb:inP b)
  (c1:W.cell? ⟨nb,0,none⟩=some (.int .i64 n)) (c2:W.cell? ⟨s,o,none⟩=some (.int .i64 a)) (c3:W.cell? ⟨s,o+1,none⟩=some (.int .i64 b)) (f3:W.frozen? ⟨s,o+1,none⟩=false)
  (h1:nb<W.heap.size) (h2:s<W.heap.size) :
  Calls prog 124 #[.int .i64 i,.pointer (some ⟨s,o,none⟩),.pointer (some ⟨nb,0,none⟩)] W
   (fun e w'=>e = .returned (.tuple #[])∧∃ w1,Below W.heap.size W w1∧w'=w1.setCell ⟨s,o+1,none⟩ (.int .i64 (fU [b,aJ a (-n)]))):=by
 obtain ⟨n1,n2⟩:=hn;have hneg:Hid (IntKind.i64.wrap (-n) = -n):=by show _=_;rw [IntKind.wrap_i64];omega
 go_enter func124,ntmps124;go_wp2_with fail;refine kX (fun w'=>w'.cell? ⟨nb,0,none⟩=some (.int .i64 n)∧w'.cell? ⟨s,o,none⟩=some (.int .i64 a)∧w'.cell? ⟨s,o+1,none⟩=some (.int .i64 b)) 16 5 [1,1,1,1,2,1,1,1,2,2,1,0,0,0,0,0,0] (by kernel_rfl) (by kernel_rfl) (by exact (fun B=>⟨(Below.cell B h1).trans c1,(Below.cell B h2).trans c2,(Below.cell B h2).trans c3⟩:Below W.heap.size W _→_) (by repeat (first | exact B1 | exact aj _ | refine bAl ?_ _ | refine bDr ?_))) ?_;simp only [ku,jf]
 iterate 4 refine aU ?_
 refine aT ?_
 iterate 3 refine aU ?_
 iterate 2 refine aT ?_
 refine aU ?_;refine dK ?_
 iterate 5 (refine dn (fun K hK=>?_);go_simp;(first | (go_at_call 125;(with_reducible refine (x9 b (aJ a (-n)) _ hb (vY _ _)).mono ?_);rintro e w' ⟨rfl,rfl⟩) | (go_at_call 126;(try rw [hneg.out]);(with_reducible refine (AV a (-n) _).mono ?_);rintro e w1 ⟨rfl,b1⟩;have B1:Below W.heap.size W w1:=ah (by repeat (first | exact aj _ | refine bAl ?_ _ | refine bDr ?_)) b1) | skip);refine hK.out _ _ (by exact (fun B=>⟨(Below.cell B h1).trans c1,(Below.cell B h2).trans c2,(Below.cell B h2).trans c3⟩:Below W.heap.size W _→_) (by repeat (first | exact B1 | exact aj _ | refine bAl ?_ _ | refine bDr ?_))) (fun hHeld=>?_);clear hHeld hK K;try simp only [Act.put,aaf,aai,aah])
 refine dA ?_;have B2:=bAl B1 (.cells #[.int .i64 b,.int .i64 (aJ a (-n))] 3);have k3:=(Below.cell B2 h2).trans c3;have z3:=(Below.frozen B2 h2).trans f3;generalize w1.alloc (.cells #[.int .i64 b,.int .i64 (aJ a (-n))] 3)=w2 at *;go_wp2_with fail;refine NoPanic.normal ?_;go_wp2_with fail;exact ⟨rfl,.tuple #[],by simp [results,results124,go_sem],rfl,w2,B2,rfl⟩
theorem cell_far {w:World} {b1 b2 o1 o2:Nat} {v u:Value} (h:w.cell? ⟨b1,o1,none⟩=some v) (hne:o2≠o1):(w.setCell ⟨b2,o2,none⟩ u).cell? ⟨b1,o1,none⟩=some v :=
 (World.cell?_setCell_other _ _ _ _ (by intro e;injection e with e1 e2;exact hne e2)).trans h
theorem more1 (W:World) (i:Int) (j kb rb s o:Nat) (key r a b:Int) (hi:i=0∧j=0∨i=1∧j=1∨i=2∧j=2) (ha:inP a) (hb:inP b)
  (c1:W.cell? ⟨kb,0,none⟩=some (.int .i64 key)) (c4:W.cell? ⟨rb,j,none⟩=some (.int .i64 r)) (c2:W.cell? ⟨s,o,none⟩=some (.int .i64 a)) (c3:W.cell? ⟨s,o+1,none⟩=some (.int .i64 b))
  (f2:W.frozen? ⟨s,o,none⟩=false) (f3:W.frozen? ⟨s,o+1,none⟩=false) (h1:kb<W.heap.size) (h4:rb<W.heap.size) (h2:s<W.heap.size) :
  Calls prog 198 #[.int .i64 i,.pointer (some ⟨s,o,none⟩),.pointer (some ⟨rb,0,none⟩),.pointer (some ⟨kb,0,none⟩)] W
   (XE s o (fU [a,aJ 4 r]) (fU [b,aJ key r]) W):=by
 rcases hi with ⟨rfl,rfl⟩ | ⟨rfl,rfl⟩ | ⟨rfl,rfl⟩
 all_goals
  go_enter func198,ntmps198;go_wp2_with fail;refine kX (fun w'=>w'.cell? ⟨kb,0,none⟩=some (.int .i64 key)∧w'.cell? ⟨rb,_,none⟩=some (.int .i64 r)∧w'.cell? ⟨s,o,none⟩=some (.int .i64 a)∧w'.cell? ⟨s,o+1,none⟩=some (.int .i64 b)) 25 8 [1,1,1,1,1,2,1,1,2,0,0,0,1,1,1,2,2,1,1,2,0,0,0,0,0,0,0,0,0] (by kernel_rfl) (by kernel_rfl) (by exact (fun B=>⟨(Below.cell B h1).trans c1,(Below.cell B h4).trans c4,(Below.cell B h2).trans c2,(Below.cell B h2).trans c3⟩:Below W.heap.size W _→_) (by repeat (first | exact B2 | exact B1 | exact aj _ | refine bAl ?_ _ | refine bDr ?_))) ?_;simp only [ku,jf]
  iterate 5 refine aU ?_
  refine aT ?_
  iterate 2 refine aU ?_
  refine aT ?_
  iterate 3 refine aU ?_
  iterate 2 refine aT ?_
  iterate 2 refine aU ?_
  refine aT ?_;refine dK ?_
  iterate 8 (refine dn (fun K hK=>?_);go_simp;(first | (go_at_call 125;(with_reducible refine (x9 b (aJ key r) _ hb (vY _ _)).mono ?_);rintro e w' ⟨rfl,rfl⟩) | (go_at_call 125;(with_reducible refine (x9 a (aJ 4 r) _ ha (vY _ _)).mono ?_);rintro e w' ⟨rfl,rfl⟩) | (go_at_call 126;(with_reducible refine (AV 4 r _).mono ?_);rintro e w1 ⟨rfl,b1⟩;have B1:Below W.heap.size W w1:=ah (by repeat (first | exact aj _ | refine bAl ?_ _ | refine bDr ?_)) b1) | (go_at_call 126;(with_reducible refine (AV key r _).mono ?_);rintro e w2 ⟨rfl,b2⟩;have B2:Below W.heap.size W w2:=ah (by repeat (first | exact B1 | exact aj _ | refine bAl ?_ _ | refine bDr ?_)) b2) | skip);refine hK.out _ _ (by exact (fun B=>⟨(Below.cell B h1).trans c1,(Below.cell B h4).trans c4,(Below.cell B h2).trans c2,(Below.cell B h2).trans c3⟩:Below W.heap.size W _→_) (by repeat (first | exact B2 | exact B1 | exact aj _ | refine bAl ?_ _ | refine bDr ?_))) (fun hHeld=>?_);clear hHeld hK K;try simp only [Act.put,aaf,aai,aah])
  refine dA ?_;have B3:=bAl B2 (.cells #[.int .i64 b,.int .i64 (aJ key r)] 3);have k2:=(Below.cell B3 h2).trans c2;have z2:=(Below.frozen B3 h2).trans f2;have k3:=(Below.cell B3 h2).trans c3;have z3:=(Below.frozen B3 h2).trans f3;generalize w2.alloc (.cells #[.int .i64 b,.int .i64 (aJ key r)] 3)=w3 at *;have k3':=cell_far (b2:=s) (u := .int .i64 (fU [a,aJ 4 r])) k3 (show o≠o+1 by omega);go_wp2_with fail;refine NoPanic.normal ?_;go_wp2_with fail;exact ⟨rfl,.tuple #[],by simp [results,results198,go_sem],rfl,w3,B3,rfl⟩
theorem rE (s:Nat) (w:World) :
  Calls prog 127 #[.pointer (some ⟨s,0,none⟩)] w fun r w' =>
   r = .returned (.func (.func 197) #[] #[.pointer (some ⟨w.heap.size,0,none⟩)])∧w'=w.alloc (.cells #[.pointer (some ⟨s,0,none⟩)] 185):=by
 have hmf:∀ (fn:Fn) (first cap:Array Value) (w:World),(Instr.makeFunc fn first cap).run prog w = .ok (.func fn first cap) w:=fun _ _ _ _=>rfl;go_enter func127,ntmps127;go_wp2
 go_ret;exact ⟨rfl,rfl⟩
def QL (s:Nat) (k:Fin 3):Array Value:=#[.int .i64 (k.val:Nat),.pointer (some ⟨s,2*k.val,none⟩)]
theorem EW (L bp s:Nat) (S:Nat→Prop) (hbp:S bp) (J Jx:List (Fin 3)→World→Prop) (W:World)
  (hY:∀ pre x W1,J pre W1→pre.length<3→YieldAt Fence.wide (2+1 - 1) prog L (QL s x) W1 fun e W' =>
   (e = .returned (.bool true)∧J (pre++[x]) W'∧Keeps S W1 W')∨(e = .returned (.bool false)∧Jx (pre++[x]) W'))
  (hB:Blk W bp 185 #[.pointer (some ⟨s,0,none⟩)]) (h0:J [] W) :
  CallsIn Fence.wide (2+1) prog 197 #[.func (.yield L) #[] #[],.pointer (some ⟨bp,0,none⟩)] W fun e W'=>(∃ v,e = .returned v) ∧
   ((∃ ys,ys=[0,1,2]∧J ys W')∨(∃ pre,pre.length≤3∧Jx pre W')):=by
 refine callsIn_of_wp func197 rfl trivial ?_ rfl;simp only [ntmps197,aae,aas,List.length_nil,Nat.reduceAdd,Nat.reduceSub,aaV,aaW,aaX,aaY,aaJ,aaN]
 gi_wp2
 gi_loopw [4] (fun i wr=>∃ (k:Int) (pre:List (Fin 3)),i = .int .i64 k∧Blk wr bp 185 #[.pointer (some ⟨s,0,none⟩)]∧J pre wr∧(k=0∧pre=[]∨k=1∧pre=[0]∨k=2∧pre=[0,1]∨k=3∧pre=[0,1,2])) (fun i _=>3 - (intOf i).toNat)
 case atStart=>exact ⟨0,[],rfl,hB,h0,.inl ⟨rfl,rfl⟩⟩
 case round =>
  clear hB h0;obtain ⟨k,pre,rfl,hB,hJ,hk⟩:=hrel;have c1:wr.cell? ⟨bp,0,none⟩=some (.pointer (some ⟨s,0,none⟩)):=hB.cell 0;rcases hk with ⟨rfl,rfl⟩ | ⟨rfl,rfl⟩ | ⟨rfl,rfl⟩ | ⟨rfl,rfl⟩
  ·obtain ⟨fn,tmps,assign,body,hy,hR⟩:=hY [] 0 wr hJ (by simp)
   replace hy:(Instr.yield L #[.int .i64 0,.pointer (some ⟨s,0,none⟩)]).run prog wr = .ok (.round L fn tmps assign body) wr:=hy
   gi_wp2
   refine hR.mono ?_;rintro e W3 (⟨rfl,hJ3,hk3⟩ | ⟨rfl,hJx3⟩)
   ·have hB3:Blk W3 bp 185 #[.pointer (some ⟨s,0,none⟩)]:=(hk3.same _ hbp).trans hB
    clear hB c1
    gi_wp2
    exact ⟨⟨1,_,rfl,hB3,hJ3,.inr (.inl ⟨rfl,rfl⟩)⟩,by simp [intOf]⟩
   ·gi_wp2
    refine bodyPost_ret (results_none rfl _ _ _) rfl ?_;exact ⟨⟨_,rfl⟩,.inr ⟨_,by simp,hJx3⟩⟩
  ·obtain ⟨fn,tmps,assign,body,hy,hR⟩:=hY [0] 1 wr hJ (by simp)
   replace hy:(Instr.yield L #[.int .i64 1,.pointer (some ⟨s,2,none⟩)]).run prog wr = .ok (.round L fn tmps assign body) wr:=hy
   gi_wp2
   refine hR.mono ?_;rintro e W3 (⟨rfl,hJ3,hk3⟩ | ⟨rfl,hJx3⟩)
   ·have hB3:Blk W3 bp 185 #[.pointer (some ⟨s,0,none⟩)]:=(hk3.same _ hbp).trans hB
    clear hB c1
    gi_wp2
    exact ⟨⟨2,_,rfl,hB3,hJ3,.inr (.inr (.inl ⟨rfl,rfl⟩))⟩,by simp [intOf]⟩
   ·gi_wp2
    refine bodyPost_ret (results_none rfl _ _ _) rfl ?_;exact ⟨⟨_,rfl⟩,.inr ⟨_,by simp,hJx3⟩⟩
  ·obtain ⟨fn,tmps,assign,body,hy,hR⟩:=hY [0,1] 2 wr hJ (by simp)
   replace hy:(Instr.yield L #[.int .i64 2,.pointer (some ⟨s,4,none⟩)]).run prog wr = .ok (.round L fn tmps assign body) wr:=hy
   gi_wp2
   refine hR.mono ?_;rintro e W3 (⟨rfl,hJ3,hk3⟩ | ⟨rfl,hJx3⟩)
   ·have hB3:Blk W3 bp 185 #[.pointer (some ⟨s,0,none⟩)]:=(hk3.same _ hbp).trans hB
    clear hB c1
    gi_wp2
    exact ⟨⟨3,_,rfl,hB3,hJ3,.inr (.inr (.inr ⟨rfl,rfl⟩))⟩,by simp [intOf]⟩
   ·gi_wp2
    refine bodyPost_ret (results_none rfl _ _ _) rfl ?_;exact ⟨⟨_,rfl⟩,.inr ⟨_,by simp,hJx3⟩⟩
  ·gi_wp2
   go_end0;exact ⟨⟨_,rfl⟩,.inl ⟨_,rfl,hJ⟩⟩
theorem oQ (bp s:Nat) (S:Nat→Prop) (hbp:S bp) (w:World) (hB:Blk w bp 185 #[.pointer (some ⟨s,0,none⟩)]) :
  GX (fun _=>False) (2+1) prog 197 #[.pointer (some ⟨bp,0,none⟩)] (QL s) (Keeps S) (fun ys=>ys=[0,1,2]) (fun pre=>pre.length≤3) 3 w:=by
 intro L J Jx W hW _ _ hY h0;exact EW L bp s S hbp J Jx W hY (hB.below hW hB.lt) h0
attribute [local go_sem] Oper.semAt_some
structure Ltr where
 a0:Int
 b0:Int
 a1:Int
 b1:Int
 a2:Int
 b2:Int
def Ltr.cells (x:Ltr):Array Value:=#[.int .i64 x.a0,.int .i64 x.b0,.int .i64 x.a1,.int .i64 x.b1,.int .i64 x.a2,.int .i64 x.b2]
def Ltr.goodAt (x:Ltr) (k:Fin 3):Bool:=match k with | 0=>aA x.a0&&aA x.b0 | 1=>aA x.a1&&aA x.b1 | 2=>aA x.a2&&aA x.b2
def Ltr.good (x:Ltr):Bool:=aA x.a0&&aA x.b0&&(aA x.a1&&aA x.b1)&&(aA x.a2&&aA x.b2)
theorem Ltr.at_ (x:Ltr) (k:Fin 3):∃ a b,x.cells[2*k.val]?=some (.int .i64 a)∧x.cells[2*k.val+1]?=some (.int .i64 b)∧x.goodAt k=(aA a&&aA b):=by
 match k with
 | 0=>exact ⟨_,_,rfl,rfl,rfl⟩
 | 1=>exact ⟨_,_,rfl,rfl,rfl⟩
 | 2=>exact ⟨_,_,rfl,rfl,rfl⟩
theorem Ltr.good_eq (x:Ltr):x.good=(x.goodAt 0&&x.goodAt 1&&x.goodAt 2):=rfl
theorem Ltr.good_of (x:Ltr) (h:∀ k,x.goodAt k=true):x.good=true:=by rw [x.good_eq,h,h,h];rfl
theorem Ltr.bad_of (x:Ltr) (k:Fin 3) (h:x.goodAt k=false):x.good=false:=by
 rw [x.good_eq]
 match k,h with
 | 0,h=>rw [h];rfl
 | 1,h=>rw [h];simp
 | 2,h=>rw [h];simp
def Ltr.err (x:Ltr):Int:=if x.good=true then 0 else 100
theorem rF (x:Ltr) (W:World) :
  Calls prog 122 #[.agg #[.int .i64 x.a0,.int .i64 x.b0,.int .i64 x.a1,.int .i64 x.b1,.int .i64 x.a2,.int .i64 x.b2]] W (Ret (.int .i64 x.err) W):=by
 refine dQ func122 rfl ?_;simp only [ntmps122,aae,aas,List.length_nil,Nat.reduceAdd,Nat.reduceSub,aaV,aaW,aaX,aaY,aaJ,aaN];go_wp2_with fail;refine (rE _ _).mono ?_;rintro e w' ⟨rfl,rfl⟩;go_wp2_with fail;have BL:Blk (((W.alloc (.cells x.cells 63)).alloc (.cells #[.int .i64 0] 42)).alloc (.cells #[.pointer (some ⟨W.heap.size,0,none⟩)] 185)) W.heap.size 63 x.cells:=((Blk.new W _ _ _ rfl).alloc _).alloc _;have BE:Blk (((W.alloc (.cells x.cells 63)).alloc (.cells #[.int .i64 0] 42)).alloc (.cells #[.pointer (some ⟨W.heap.size,0,none⟩)] 185)) (W.heap.size+1) 42 #[.int .i64 0]:=(Blk.new _ _ _ _ (by simp)).alloc _;have BP:Blk (((W.alloc (.cells x.cells 63)).alloc (.cells #[.int .i64 0] 42)).alloc (.cells #[.pointer (some ⟨W.heap.size,0,none⟩)] 185)) (W.heap.size+1+1) 185 #[.pointer (some ⟨W.heap.size,0,none⟩)]:=Blk.new _ _ _ _ (by simp);have hb:Below W.heap.size W (((W.alloc (.cells x.cells 63)).alloc (.cells #[.int .i64 0] 42)).alloc (.cells #[.pointer (some ⟨W.heap.size,0,none⟩)] 185)):=bAl (bAl (bAl (aj W) _) _) _;have hw:(((W.alloc (.cells x.cells 63)).alloc (.cells #[.int .i64 0] 42)).alloc (.cells #[.pointer (some ⟨W.heap.size,0,none⟩)] 185)).heap.size=W.heap.size+1+1+1:=by simp
 change Code.wp _ _ _ _ (((W.alloc (.cells x.cells 63)).alloc (.cells #[.int .i64 0] 42)).alloc (.cells #[.pointer (some ⟨W.heap.size,0,none⟩)] 185));generalize (((W.alloc (.cells x.cells 63)).alloc (.cells #[.int .i64 0] 42)).alloc (.cells #[.pointer (some ⟨W.heap.size,0,none⟩)] 185))=w3 at *
 refine jX 2 (gf:=197) (lb:=#[.pointer (some ⟨W.heap.size+1+1,0,none⟩)]) rfl (enters_of func197 (by kernel_rfl) rfl)
  (S:=fun ys=>ys=[0,1,2]) (Sp:=fun pre=>pre.length≤3) (N:=3) (w0:=w3)
  (oQ (W.heap.size+1+1) W.heap.size (fun k=>k=W.heap.size+1+1) rfl w3 BP)
  (fun k hk=>hk.elim)
  Keeps.trans (Keeps.put (fun k hk=>by omega)) (aj _) (fun _=>rfl)
  (fun pre W'=>Blk W' W.heap.size 63 x.cells∧Blk W' (W.heap.size+1) 42 #[.int .i64 0]∧Below W.heap.size W W'∧Hid (∀ k∈pre,x.goodAt k=true))
  (fun k a₁ pre W'=>(Blk W' W.heap.size 63 x.cells∧Blk W' (W.heap.size+1) 42 #[.int .i64 0]∧Below W.heap.size W W'∧Hid (∀ k∈pre,x.goodAt k=true))∧a₁={ tmps:=#[.agg #[.int .i64 x.a0,.int .i64 x.b0,.int .i64 x.a1,.int .i64 x.b1,.int .i64 x.a2,.int .i64 x.b2],.pointer (some ⟨W.heap.size,0,none⟩),.pointer (some ⟨W.heap.size+1,0,none⟩),undef,.pointer (some ⟨W.heap.size,2*k.val,none⟩),.func (.func 197) #[] #[.pointer (some ⟨W.heap.size+1+1,0,none⟩)],.int .i64 (k.val:Nat),.pointer (some ⟨W.heap.size,2*k.val,none⟩),undef,undef,undef,undef,undef,undef,undef,undef,undef,undef,undef,undef,undef,undef],defers:=[] })
  (fun c pre W'=>c = .ret∧Blk W' (W.heap.size+1) 42 #[.int .i64 100]∧Below W.heap.size W W'∧Hid (x.good=false))
  (fun pre A' B' row h hg hr=>⟨h.1.kept hg hr,h.2.1.kept hg hr,gz h.2.2.1 hg hb.size hr,h.2.2.2⟩)
  (fun k a pre A' B' row h hg hr=>⟨⟨h.1.1.kept hg hr,h.1.2.1.kept hg hr,gz h.1.2.2.1 hg hb.size hr,h.1.2.2.2⟩,h.2⟩)
  (fun c pre A' B' row h hg hr=>⟨h.1,h.2.1.kept hg hr,gz h.2.2.1 hg hb.size hr,h.2.2.2⟩)
  (fun _ _ _ _ _ ht=>ht.elim)
  (fun _ _ _ _ _ _ ht=>ht.elim)
  ⟨BL,BE,hb,aab (fun k hk=>by cases hk)⟩ ?assign ?body ?done ?stop
 case assign =>
  rintro L pre k Wc h hlen;dsimp only [QL]
  gi_wp2
  exact ⟨KeepsOthers.refl _,Keeps.refl _ _,h,trivial⟩
 case body =>
  rintro L pre k a₁ Wc ⟨⟨hL,hE,hbc,hg⟩,rfl⟩ hlen;obtain ⟨a,b,ha,hb',hgd⟩:=x.at_ k;have d1:Wc.cell? ⟨W.heap.size,2*k.val,none⟩=some (.int .i64 a):=(hL.cell _).trans ha;have d2:Wc.cell? ⟨W.heap.size,2*k.val+1,none⟩=some (.int .i64 b):=(hL.cell _).trans hb';have z1:Wc.cell? ⟨W.heap.size+1,0,none⟩=some (.int .i64 0):=hE.cell 0;have z2:=hE.frozen 0;have hGd:=aab hgd;clear ha hb' hgd;have q1:=bU a Wc;have q2:=bU b Wc;cases h1:aA a
  ·have hbad:Hid (x.good=false):=by show _=_;exact x.bad_of k (by rw [hGd.out,h1];rfl)
   rw [h1] at q1;clear h1 q2
   gi_wp2
   refine ⟨trivial,?_⟩;refine (inR L q1).mono ?_;rintro e w' ⟨rfl,rfl⟩;clear q1
   gi_wp2
   refine ⟨trivial,?_⟩
   gi_wp2
   exact ⟨KeepsOthers.setCell _ _ _,rfl,hE.set_ 0 _,zQ7 hbc (by show W.heap.size≤W.heap.size+1;omega) _,hbad⟩
  ·cases h2:aA b
   ·have hbad:Hid (x.good=false):=by show _=_;exact x.bad_of k (by rw [hGd.out,h1,h2];rfl)
    rw [h1] at q1;rw [h2] at q2;clear h1 h2
    gi_wp2
    refine ⟨trivial,?_⟩;refine (inR L q1).mono ?_;rintro e w' ⟨rfl,rfl⟩;clear q1
    gi_wp2
    refine ⟨trivial,?_⟩;refine (inR L q2).mono ?_;rintro e w' ⟨rfl,rfl⟩;clear q2
    gi_wp2
    exact ⟨KeepsOthers.setCell _ _ _,rfl,hE.set_ 0 _,zQ7 hbc (by show W.heap.size≤W.heap.size+1;omega) _,hbad⟩
   ·have hok:Hid (∀ j∈pre++[k],x.goodAt j=true):=by
     intro j hj;rcases aaL.1 hj with hj | hj
     ·exact hg.out j hj
     ·obtain rfl:j=k:=by simpa using hj
      rw [hGd.out,h1,h2];rfl
    rw [h1] at q1;rw [h2] at q2;clear h1 h2
    gi_wp2
    refine ⟨trivial,?_⟩;refine (inR L q1).mono ?_;rintro e w' ⟨rfl,rfl⟩;clear q1
    gi_wp2
    refine ⟨trivial,?_⟩;refine (inR L q2).mono ?_;rintro e w' ⟨rfl,rfl⟩;clear q2
    gi_wp2
    exact ⟨KeepsOthers.refl _,Keeps.refl _ _,hL,hE,hbc,hok⟩
 case done =>
  rintro D xs Wc hD hp ⟨hL,hE,hbc,hg⟩ hd
  have herr:Hid (x.err=0):=by
   show _=_
   have:x.good=true:=x.good_of (fun k=>hg.out k (by subst hp;match k with | 0=>simp | 1=>simp | 2=>simp))
   unfold Ltr.err;rw [this];rfl
  have z1:Wc.cell? ⟨W.heap.size+1,0,none⟩=some (.int .i64 0):=hE.cell 0;have z2:=hE.frozen 0;have hD':W.heap.size≤D:=by omega
  have hdd:(Wc.setCell ⟨W.heap.size+1,0,none⟩ (.int .i64 0)).heap[D]?=some (.deferred (some [])):=by
   rw [Below.heap_setCell _ _ _ _ (by intro e;subst e;unfold Blk at hE;rw [hE] at hd;cases hd)];exact hd
  have hE2:=(hE.set_ 0 (.int .i64 0)).put (o' := .deferred none) hdd rfl;go_wp2_with fail;refine cZ (by simp) hdd ?_;have e1:=hE2.cell 0;exact ⟨.int .i64 0,by simp [results,results122,go_sem,e1],eX herr.out.symm,uQ (zQ7 hbc (by show W.heap.size≤W.heap.size+1;omega) _) hD' _⟩
 case stop =>
  rintro D c' pre Wc hD _ ⟨rfl,hE,hbc,hbad⟩ hd;have herr:Hid (x.err=100):=by show _=_;unfold Ltr.err;rw [hbad.out];rfl
  have hD':W.heap.size≤D:=by omega
  have hE2:=hE.put (o' := .deferred none) hd rfl;go_wp2_with fail;refine cZ (by simp) hd ?_;have e1:=hE2.cell 0;exact ⟨.int .i64 100,by simp [results,results122,go_sem,e1],eX herr.out.symm,uQ hbc hD' _⟩
end
section
open Go.RowKit
def vN (a:Nat):Prop:=0<a∧a<Pn∧eu a Qn=1
theorem wC {a:Int} (h:aA a=true):∃ n:Nat,a=n∧vN n:=by
 obtain ⟨h1,h2,h3⟩:=(lH a).1 h;obtain ⟨n,rfl⟩:=abB (show 0≤a by omega);exact ⟨n,rfl,by omega,by unfold Pn;omega,by simpa using h3⟩
theorem G8 {n:Nat} (h:vN n):aA (n:Int)=true:=by
 obtain ⟨h1,h2,h3⟩:=h;unfold Pn at h2;exact (lH _).2 ⟨by omega,by omega,by simpa using h3⟩
theorem DZ {a m n:Nat} (h:vN a) (e:m % Qn=n % Qn):eu a m=eu a n:=by
 have key:∀ k,eu a k=eu a (k % Qn):=fun k=>by
  conv=>lhs;rw [←Nat.div_add_mod k Qn]
  rw [GN,pI,h.2.2,rq,Nat.one_mul];exact aaR (EP _ _)
 rw [key m,key n,e]
theorem QM (m n:Int):jY (m+n) % Qn=(jY m+jY n) % Qn:=by
 unfold jY Qn;omega
theorem QN (m n:Int):jY (m*n) % Qn=(jY m*jY n) % Qn:=by
 unfold jY Qn
 have h:((m*n % 1073741789).toNat:Int) % 1073741789=((m % 1073741789).toNat * (n % 1073741789).toNat:Nat) % 1073741789:=by
  rw [Int.natCast_mul,Int.toNat_of_nonneg (Int.emod_nonneg _ (by omega)),Int.toNat_of_nonneg (Int.emod_nonneg _ (by omega)),Int.toNat_of_nonneg (Int.emod_nonneg _ (by omega)),abz _ (Int.dvd_refl _),Int.mul_emod]
 omega
theorem jg {a:Nat} (h:vN a) (n:Int):aJ (a:Int) n=(eu a (jY n):Nat):=by
 unfold aJ;rw [if_pos (G8 h),aba]
theorem D5 {n:Nat} (h:0<n):eu 0 n=0:=by unfold eu;rw [Nat.zero_pow h];rfl
theorem emm (a b:Int):a % 2147483579*b % 2147483579=a*b % 2147483579:=by rw [Int.mul_emod,abz _ (Int.dvd_refl _),←Int.mul_emod]
theorem QO {a:Nat} (h:vN a) (n:Nat):vN (eu a n):=by
 refine ⟨?_,EP _ _,?_⟩
 ·rcases aa7 (eu a n) with h0 | h0
  ·have h1:eu (eu a n) Qn=1:=by rw [←pI,abg,pI,h.2.2,rq]
   rw [h0] at h1
   have:eu 0 Qn=0:=D5 (by decide)
   omega
  ·exact h0
 ·rw [←pI,abg,pI,h.2.2,rq]
theorem QP {a b:Nat} (ha:vN a) (hb:vN b):vN (a*b % Pn):=by
 have h1:eu (a*b % Pn) Qn=1:=by rw [uP,ha.2.2,hb.2.2];rfl
 refine ⟨?_,aaC _ (by decide),h1⟩;rcases aa7 (a*b % Pn) with h0 | h0
 ·rw [h0] at h1
  have:eu 0 Qn=0:=D5 (by decide)
  omega
 ·exact h0
theorem V4:((Pn:Nat):Int)=2147483579:=rfl
theorem aX {a:Int} (h:aA a=true) (n:Int):aA (aJ a n)=true:=by
 obtain ⟨x,rfl,hx⟩:=wC h;rw [jg hx];exact G8 (QO hx _)
theorem OO {a b:Int} (ha:aA a=true) (hb:aA b=true):aA (a*b % 2147483579)=true:=by
 obtain ⟨x,rfl,hx⟩:=wC ha;obtain ⟨y,rfl,hy⟩:=wC hb;rw [←V4,←Int.natCast_mul,←Int.natCast_emod];exact G8 (QP hx hy)
theorem G9 {a:Int} (h:aA a=true) (m n:Int):aJ a (m+n)=aJ a m*aJ a n % 2147483579:=by
 obtain ⟨x,rfl,hx⟩:=wC h;rw [jg hx,jg hx,jg hx,DZ hx (QM m n),GN];simp [Pn]
theorem nR {a:Int} (h:aA a=true) (m n:Int):aJ (aJ a m) n=aJ a (m*n):=by
 obtain ⟨x,rfl,hx⟩:=wC h;rw [jg hx,jg hx,jg (QO hx _),DZ hx (QN m n),pI]
theorem OQ {a:Int} {m n:Int} (e:m % 1073741789=n % 1073741789):aJ a m=aJ a n:=by
 unfold aJ jY;rw [e]
theorem JQ {a b:Int} (ha:aA a=true) (hb:aA b=true) (n:Int):aJ (a*b % 2147483579) n=aJ a n*aJ b n % 2147483579:=by
 obtain ⟨x,rfl,hx⟩:=wC ha;obtain ⟨y,rfl,hy⟩:=wC hb
 have:((x:Int)*y % 2147483579)=((x*y % Pn:Nat):Int):=by simp [Pn]
 rw [this,jg (QP hx hy),jg hx,jg hy,uP];simp [Pn]
theorem D6 {a:Int} (h:aA a=true):aJ a 0=1:=by
 obtain ⟨x,rfl,hx⟩:=wC h;rw [jg hx];rfl
theorem Hf {a:Int} (h:aA a=true):aJ a 1=a:=by
 obtain ⟨x,rfl,hx⟩:=wC h;rw [jg hx]
 have:jY 1=1:=rfl
 rw [this,QD x hx.2.1]
theorem Hg {a:Int} (h:aA a=true):a*aJ a (-1) % 2147483579=1:=by
 have h1:=G9 h 1 (-1);rw [Hf h] at h1;rw [←h1];exact D6 h
theorem nz:aA 1=true:=by
 rw [lH];exact ⟨by omega,by omega,rq _⟩
theorem aV:aA 4=true:=by
 rw [lH];refine ⟨by omega,by omega,?_⟩;show eu 4 Qn=1;rw [xU (by decide)];decide +kernel
theorem wE {a b:Int} (ha:aA a=true) (hb:aA b=true):oz a b=a*b % 2147483579:=(GV ha hb).1
theorem QQ {a:Int} (h:aA a=true):a % 2147483579=a:=by
 obtain ⟨h1,h2⟩:=iy h;exact Int.emod_eq_of_lt (by omega) h2
theorem JR (a b:Int):fU [a,b]=a*b % 2147483579:=by
 show 1*a % 2147483579*b % 2147483579=_;rw [Int.one_mul,emm]
theorem QR {a b:Int} (ha:aA a=true) (hb:aA b=true):iF [a,b]=a*b % 2147483579:=by
 unfold iF;simp only [List.foldl];rw [wE nz ha,Int.one_mul,QQ ha,wE ha hb]
theorem JS {a x y:Int} (ha:aA a=true) (hx:aA x=true) (hy:aA y=true) (h:x*a % 2147483579=y*a % 2147483579):x=y:=by
 have h1:(x*a % 2147483579)*aJ a (-1) % 2147483579=(y*a % 2147483579)*aJ a (-1) % 2147483579:=by rw [h]
 have key:∀ z,(z*a % 2147483579)*aJ a (-1) % 2147483579=z % 2147483579:=fun z=>by
  rw [emm,Int.mul_assoc,Int.mul_emod,Hg ha,Int.mul_one,abz _ (Int.dvd_refl _)]
 rw [key,key,QQ hx,QQ hy] at h1;exact h1
attribute [local go_sem] Oper.semAt_some
def Ltr.agg (x:Ltr):Value := .agg #[.int .i64 x.a0,.int .i64 x.b0,.int .i64 x.a1,.int .i64 x.b1,.int .i64 x.a2,.int .i64 x.b2]
def aB:Ltr:=⟨0,0,0,0,0,0⟩
theorem Blk.six {w:World} {b:Nat} {t:TypeId} {v0 v1 v2 v3 v4 v5:Value} (h:Blk w b t #[v0,v1,v2,v3,v4,v5]) :
  w.cell? ⟨b,0,none⟩=some v0∧w.cell? ⟨b,1,none⟩=some v1∧w.cell? ⟨b,2,none⟩=some v2∧w.cell? ⟨b,3,none⟩=some v3∧w.cell? ⟨b,4,none⟩=some v4∧w.cell? ⟨b,5,none⟩=some v5 :=
 ⟨h.cell 0,h.cell 1,h.cell 2,h.cell 3,h.cell 4,h.cell 5⟩
theorem Blk.six_free {w:World} {b:Nat} {t:TypeId} {cs:Array Value} (h:Blk w b t cs) :
  w.frozen? ⟨b,0,none⟩=false∧w.frozen? ⟨b,1,none⟩=false∧w.frozen? ⟨b,2,none⟩=false∧w.frozen? ⟨b,3,none⟩=false∧w.frozen? ⟨b,4,none⟩=false∧w.frozen? ⟨b,5,none⟩=false :=
 ⟨h.frozen 0,h.frozen 1,h.frozen 2,h.frozen 3,h.frozen 4,h.frozen 5⟩
def set6 (w:World) (b:Nat) (v0 v1 v2 v3 v4 v5:Value):World :=
 (((((w.setCell ⟨b,0,none⟩ v0).setCell ⟨b,1,none⟩ v1).setCell ⟨b,2,none⟩ v2).setCell ⟨b,3,none⟩ v3).setCell ⟨b,4,none⟩ v4).setCell ⟨b,5,none⟩ v5
theorem Blk.set6 {w:World} {b:Nat} {t:TypeId} {u0 u1 u2 u3 u4 u5:Value} (h:Blk w b t #[u0,u1,u2,u3,u4,u5]) (v0 v1 v2 v3 v4 v5:Value):Blk (Proofs.YthbibbkbaphpkaaGreatDoor.set6 w b v0 v1 v2 v3 v4 v5) b t #[v0,v1,v2,v3,v4,v5]:=by
 have:=(((((h.set_ 0 v0).set_ 1 v1).set_ 2 v2).set_ 3 v3).set_ 4 v4).set_ 5 v5
 unfold Proofs.YthbibbkbaphpkaaGreatDoor.set6;simpa using this
theorem mG {a w:World} (h:Below a.heap.size a w) {b:Nat} (hb:a.heap.size≤b) (v0 v1 v2 v3 v4 v5:Value):Below a.heap.size a (set6 w b v0 v1 v2 v3 v4 v5) :=
 zQ7 (zQ7 (zQ7 (zQ7 (zQ7 (zQ7 h (p:=⟨b,0,none⟩) hb _) (p:=⟨b,1,none⟩) hb _) (p:=⟨b,2,none⟩) hb _) (p:=⟨b,3,none⟩) hb _) (p:=⟨b,4,none⟩) hb _) (p:=⟨b,5,none⟩) hb _
theorem pU {w:World} {b D:Nat} (hne:b≠D) (v0 v1 v2 v3 v4 v5:Value):(set6 w b v0 v1 v2 v3 v4 v5).heap[D]?=w.heap[D]?:=by
 unfold set6
 iterate 6 rw [Below.heap_setCell _ _ _ _ (fun e=>hne e.symm)]
theorem tN {w:World} {b D:Nat} {t:TypeId} {cs:Array Value} (h:Blk w b t cs) {o:Obj} (hd:w.heap[D]?=some o) (ho:o.isCells=false):b≠D:=by
 intro e;subst e;unfold Blk at h;rw [h] at hd;cases hd;cases ho
def QS (fid:Nat) (caps:Array Value) (base:World) (G:Ltr→Prop) (upd:Ltr→Fin 3→Ltr):Prop :=
 ∀ (k:Fin 3) (y:Ltr) (s:Nat) (Wc:World),Below base.heap.size base Wc→base.heap.size≤s→G y→Blk Wc s 63 y.cells →
  Calls prog fid (#[.int .i64 (k.val:Nat),.pointer (some ⟨s,2*k.val,none⟩)]++caps) Wc (fun e w'=>e = .returned (.tuple #[])∧Wc.grownBy w' (some s)∧Blk w' s 63 (upd y k).cells)
theorem A8 (upd:Ltr→Fin 3→Ltr) (G:Ltr→Prop) (hG:∀ y k,G y→G (upd y k)) (x:Ltr) (hx:G x) (fid:Nat) (hfid:fid=124∨fid=198) (caps:Array Value) (nb:Nat) (W:World)
  (hB:Blk W nb 181 #[.func (.func fid) #[] caps]) (hf:QS fid caps W G upd) :
  Calls prog 123 #[x.agg,.slice (some ⟨nb,0,none⟩) 1 1] W (Ret (upd (upd (upd x 0) 1) 2).agg W):=by
 refine dQ func123 rfl ?_;unfold Ltr.agg;simp only [ntmps123,aae,aas,List.length_nil,Nat.reduceAdd,Nat.reduceSub,aaV,aaW,aaX,aaY,aaJ,aaN];go_wp2_with fail;refine (rE _ _).mono ?_;rintro e w' ⟨rfl,rfl⟩;go_wp2_with fail;have BL:Blk ((((W.alloc (.cells x.cells 63)).alloc (.cells #[.slice (some ⟨nb,0,none⟩) 1 1] 247)).alloc (.cells aB.cells 63)).alloc (.cells #[.pointer (some ⟨W.heap.size,0,none⟩)] 185)) W.heap.size 63 x.cells:=(((Blk.new W _ _ _ rfl).alloc _).alloc _).alloc _;have BS:Blk ((((W.alloc (.cells x.cells 63)).alloc (.cells #[.slice (some ⟨nb,0,none⟩) 1 1] 247)).alloc (.cells aB.cells 63)).alloc (.cells #[.pointer (some ⟨W.heap.size,0,none⟩)] 185)) (W.heap.size+1) 247 #[.slice (some ⟨nb,0,none⟩) 1 1]:=((Blk.new _ _ _ _ (by simp)).alloc _).alloc _;have BR:Blk ((((W.alloc (.cells x.cells 63)).alloc (.cells #[.slice (some ⟨nb,0,none⟩) 1 1] 247)).alloc (.cells aB.cells 63)).alloc (.cells #[.pointer (some ⟨W.heap.size,0,none⟩)] 185)) (W.heap.size+1+1) 63 aB.cells:=(Blk.new _ _ _ _ (by simp)).alloc _;have BP:Blk ((((W.alloc (.cells x.cells 63)).alloc (.cells #[.slice (some ⟨nb,0,none⟩) 1 1] 247)).alloc (.cells aB.cells 63)).alloc (.cells #[.pointer (some ⟨W.heap.size,0,none⟩)] 185)) (W.heap.size+1+1+1) 185 #[.pointer (some ⟨W.heap.size,0,none⟩)]:=Blk.new _ _ _ _ (by simp);have BN:Blk ((((W.alloc (.cells x.cells 63)).alloc (.cells #[.slice (some ⟨nb,0,none⟩) 1 1] 247)).alloc (.cells aB.cells 63)).alloc (.cells #[.pointer (some ⟨W.heap.size,0,none⟩)] 185)) nb 181 #[.func (.func fid) #[] caps]:=(((hB.alloc _).alloc _).alloc _).alloc _
 have hb:Below W.heap.size W ((((W.alloc (.cells x.cells 63)).alloc (.cells #[.slice (some ⟨nb,0,none⟩) 1 1] 247)).alloc (.cells aB.cells 63)).alloc (.cells #[.pointer (some ⟨W.heap.size,0,none⟩)] 185)):=bAl (bAl (bAl (bAl (aj W) _) _) _) _;change Code.wp _ _ _ _ ((((W.alloc (.cells x.cells 63)).alloc (.cells #[.slice (some ⟨nb,0,none⟩) 1 1] 247)).alloc (.cells aB.cells 63)).alloc (.cells #[.pointer (some ⟨W.heap.size,0,none⟩)] 185));generalize ((((W.alloc (.cells x.cells 63)).alloc (.cells #[.slice (some ⟨nb,0,none⟩) 1 1] 247)).alloc (.cells aB.cells 63)).alloc (.cells #[.pointer (some ⟨W.heap.size,0,none⟩)] 185))=w3 at *;have hnb:=hB.lt;have hz3:=BP.lt;clear hB
 refine XU 2 (gf:=197) (lb:=#[.pointer (some ⟨W.heap.size+1+1+1,0,none⟩)]) rfl (enters_of func197 (by kernel_rfl) rfl)
  (fun k=>k=W.heap.size+1+1+1) (oQ (W.heap.size+1+1+1) W.heap.size (fun k=>k=W.heap.size+1+1+1) rfl w3 BP) (fun k hk=>by omega) (fun _=>rfl) W hb
  (fun pre=>[(W.heap.size,63,(pre.foldl upd x).cells),(W.heap.size+1,247,#[.slice (some ⟨nb,0,none⟩) 1 1]),(W.heap.size+1+1,63,aB.cells),(nb,181,#[.func (.func fid) #[] caps]),(W.heap.size+1+1+1,185,#[.pointer (some ⟨W.heap.size,0,none⟩)])])
  (fun pre=>G (pre.foldl upd x)) (fun _ _=>[]) (fun _ _=>False) ⟨BL,BS,BR,BN,BP,trivial⟩ hx ?round ?done ?stop
 case stop=>exact fun _ _ _ _ _ _ _ _ h=>h.elim
 case round =>
  rintro l pre k W0 hlen;clear BL BS BR BP BN hb;dsimp only [QL]
  gi_wp2
  refine ⟨trivial,fun L Wc hbc hBl hGp=>?_⟩;obtain ⟨c1,c2,c3,c4,c5,_⟩:=hBl;dsimp only at c1 c2 c3 c4 c5;have c1':=c1;have d1:Wc.cell? ⟨W.heap.size+1,0,none⟩=some (.slice (some ⟨nb,0,none⟩) 1 1):=c2.cell 0;have d2:Wc.cell? ⟨nb,0,none⟩=some (.func (.func fid) #[] caps):=c4.cell 0
  gi_wp2
  gi_loopw [14] (fun i wr=>∃ (m:Int),i = .int .i64 m∧(m=0∧wr=Wc∨m=1∧Wc.grownBy wr (some W.heap.size)∧Blk wr W.heap.size 63 (upd (pre.foldl upd x) k).cells)) (fun i _=>1 - (intOf i).toNat)
  case atStart=>exact ⟨0,rfl,.inl ⟨rfl,rfl⟩⟩
  case round =>
   obtain ⟨m,rfl,(⟨rfl,rfl⟩ | ⟨rfl,hgr,hbk⟩)⟩:=hrel
   ·have q:=hf k (pre.foldl upd x) W.heap.size _ hbc (aad _) hGp c1
    generalize hy:upd (List.foldl upd x pre) k=y at *;generalize List.foldl upd x pre=y0 at *;clear hy;rcases hfid with rfl | rfl
    all_goals
     gi_wp2_with fail
     refine ⟨trivial,?_⟩;refine (inR L q).mono ?_;rintro e w' ⟨rfl,hg,hbk⟩;clear q
     gi_wp2_with fail
     exact ⟨⟨1,rfl,.inr ⟨rfl,hg,hbk⟩⟩,by simp [intOf]⟩
   ·clear c1 d1 d2
    gi_wp2
    have hfold:(pre++[k]).foldl upd x=upd (pre.foldl upd x) k:=(by simp);have hc5:=c5.lt;refine ⟨KeepsOthers.grown hgr c1',Keeps.grown hgr (fun j hj=>⟨by omega,by omega⟩),UG hbc hgr (aad _),⟨?_,c2.grown hgr (by show W.heap.size+1≠W.heap.size;omega),c3.grown hgr (by show W.heap.size+1+1≠W.heap.size;omega),c4.grown hgr (by show nb≠W.heap.size;omega),c5.grown hgr (by show W.heap.size+1+1+1≠W.heap.size;omega),trivial⟩,?_⟩
    ·show Blk _ _ _ ((pre++[k]).foldl upd x).cells
     rw [hfold];exact hbk
    ·show G ((pre++[k]).foldl upd x)
     rw [hfold];exact hG _ _ hGp
 case done =>
  rintro D xs Wc hD rfl hbc ⟨c1,c2,c3,c4,c5,_⟩ hGp hd;change Blk Wc W.heap.size _ (upd (upd (upd x 0) 1) 2).cells at c1;dsimp only at c3;clear hGp BL BS BR BP BN hb c2 c4 c5 hf hG hx;generalize upd (upd (upd x 0) 1) 2=y at *;obtain ⟨k0,k1,k2,k3,k4,k5⟩:=Blk.six (v0 := .int .i64 y.a0) (v1 := .int .i64 y.b0) (v2 := .int .i64 y.a1) (v3 := .int .i64 y.b1) (v4 := .int .i64 y.a2) (v5 := .int .i64 y.b2) c1;obtain ⟨m0,m1,m2,m3,m4,m5⟩:=Blk.six (v0 := .int .i64 0) (v1 := .int .i64 0) (v2 := .int .i64 0) (v3 := .int .i64 0) (v4 := .int .i64 0) (v5 := .int .i64 0) c3;obtain ⟨z0,z1,z2,z3,z4,z5⟩:=c3.six_free;have c6:=Blk.set6 (u0 := .int .i64 0) (u1 := .int .i64 0) (u2 := .int .i64 0) (u3 := .int .i64 0) (u4 := .int .i64 0) (u5 := .int .i64 0) c3 (.int .i64 y.a0) (.int .i64 y.b0) (.int .i64 y.a1) (.int .i64 y.b1) (.int .i64 y.a2) (.int .i64 y.b2);have hb6:=mG (b:=W.heap.size+1+1) hbc (by omega) (.int .i64 y.a0) (.int .i64 y.b0) (.int .i64 y.a1) (.int .i64 y.b1) (.int .i64 y.a2) (.int .i64 y.b2);have hd6:=(pU (tN c3 hd rfl) (.int .i64 y.a0) (.int .i64 y.b0) (.int .i64 y.a1) (.int .i64 y.b1) (.int .i64 y.a2) (.int .i64 y.b2)).trans hd;have c7:=c6.put (o' := .deferred none) hd6 rfl;go_wp2_with fail;change gV _ _ _ _ _ _ (set6 Wc (W.heap.size+1+1) (.int .i64 y.a0) (.int .i64 y.b0) (.int .i64 y.a1) (.int .i64 y.b1) (.int .i64 y.a2) (.int .i64 y.b2));refine cZ (by simp) hd6 ?_;obtain ⟨e0,e1,e2,e3,e4,e5⟩:=c7.six;exact ⟨.agg #[.int .i64 y.a0,.int .i64 y.b0,.int .i64 y.a1,.int .i64 y.b1,.int .i64 y.a2,.int .i64 y.b2],by simp [results,results123,go_sem,e0,e1,e2,e3,e4,e5],rfl,uQ hb6 hD _⟩
end
end Go.Proofs.YthbibbkbaphpkaaGreatDoor
