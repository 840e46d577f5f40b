/- A range over an iterator that makes blocks of its own: what is kept are cells; and a range whose loop variables lie in new blocks. -/
import Derived.Test.YtgkpomdegomgiaaGreatDoorMai
import Derived.Test.YtgkpomdegomgiaaGreatDoorMat
import Derived.Test.YtgkpomdegomgiaaGreatDoorMau
set_option maxRecDepth 1000000
set_option maxHeartbeats 16000000
namespace Go.Proofs.YtgkpomdegomgiaaGreatDoor
open Go Go.RowKit
def KeepsC (K:Nat→Prop) (A B:World):Prop:=A.heap.size≤B.heap.size∧∀ k t cs fr,K k→A.heap[k]?=some (.cells cs t fr)→B.heap[k]?=A.heap[k]?
theorem KeepsC.refl (K:Nat→Prop) (A:World):KeepsC K A A:=⟨Nat.le_refl _,fun _ _ _ _ _ _=>rfl⟩
theorem KeepsC.trans {K:Nat→Prop} {A B C:World} (h:KeepsC K A B) (k:KeepsC K B C):KeepsC K A C :=
  ⟨Nat.le_trans h.1 k.1,fun i t cs fr hi hc=>by
    have e:=h.2 i t cs fr hi hc
    exact (k.2 i t cs fr hi (e.trans hc)).trans e⟩
theorem KeepsC.put {K:Nat→Prop} (W:World) (l:Nat) (o o':Obj) (hl:W.heap[l]?=some o) (ho:o.isCells=false):KeepsC K W (W.putObj l o') :=
  ⟨by simp,fun k t cs fr _ hc=>by
    refine World.putObj_heap_other ?_
    intro e;subst e;rw [hl] at hc;cases hc;cases ho⟩
theorem KeepsC.below {K:Nat→Prop} {A B:World} (h:Below A.heap.size A B):KeepsC K A B :=
  ⟨h.size,fun k _ _ _ _ hc=>h.block k (Array.getElem?_eq_some_iff.1 hc).1⟩
theorem KeepsC.set_ {K:Nat→Prop} {A B:World} (h:KeepsC K A B) {p:Addr} (hp:¬K p.block) (v:Value):KeepsC K A (B.setCell p v) :=
  ⟨Nat.le_trans h.1 (by simp [World.setCell]),fun k t cs fr hk hc=>(Below.heap_setCell _ _ _ _ (by intro e;exact hp (e▸hk))).trans (h.2 k t cs fr hk hc)⟩
theorem KeepsC.blk {K:Nat→Prop} {A B:World} {g:Nat} {t:TypeId} {cs:Array Value} (h:KeepsC K A B) (hg:K g) (b:Blk A g t cs):Blk B g t cs:=(h.2 g _ _ _ hg b).trans b
theorem KeepsC.cell {K:Nat→Prop} {A B:World} (h:KeepsC K A B) {p:Addr} (hp:K p.block) {v:Value} (hv:A.cell? p=some v):B.cell? p=some v:=by
  have hh:∃ t cs fr,A.heap[p.block]?=some (.cells cs t fr):=by
    unfold World.cell? at hv
    cases ho:A.heap[p.block]? with
    | none=>rw [ho] at hv;simp at hv
    | some o =>
      cases o with
      | cells cs t fr=>exact ⟨_,_,_,rfl⟩
      | _=>rw [ho] at hv;simp at hv
  obtain ⟨t,cs,fr,hc⟩:=hh
  have e:=h.2 _ _ _ _ hp hc
  unfold World.cell? at hv ⊢
  rw [e];exact hv
theorem KeepsC.rd {K:Nat→Prop} {A B:World} {B0 sz n:Nat} {S:Option Addr} {xs:List Value} (h:KeepsC K A B) (hB:∀ k,k<B0→K k) (r:Rd A B0 sz S n xs):Rd B B0 sz S n xs :=
  ⟨r.1,fun hn=>by
    obtain ⟨b,off,e,hb,hc⟩:=r.2 hn
    exact ⟨b,off,e,hb,fun j u hu=>h.cell (p:=⟨b,off+j,none⟩) (hB _ hb) (hc j u hu)⟩⟩
def RoundC {α:Type} (K:Nat→Prop) (base:World) (bl:List α→List (Nat×TypeId×Array Value)) (R:List α→Prop) (bx:Code→List α→List (Nat×TypeId×Array Value)) (Rx:Code→List α→Prop) (xs:List α) (W:World):Exit→Act→World→Prop
  | .normal,_,W'=>KeepsOthers W W'∧KeepsC K W W'∧Below base.heap.size base W'∧Blks W' (bl xs)∧R xs
  | .ret,_,W'=>KeepsOthers W W'∧Below base.heap.size base W'∧Blks W' (bx .ret xs)∧Rx .ret xs
  | .exit id,_,W'=>KeepsOthers W W'∧Below base.heap.size base W'∧Blks W' (bx (.exit id) xs)∧Rx (.exit id) xs
  | .goto t,_,W'=>KeepsOthers W W'∧Below base.heap.size base W'∧Blks W' (bx (.goto t) xs)∧Rx (.goto t) xs
  | .panic _,_,_=>False
  | .outgrown,_,_=>False
theorem wp_rangeC {P:Program} {α:Type} {g:Operand} {ps:Array Tmp} {assign body:Code} {Q:Exit→Act→World→Prop} {a:Act} {w:World} (n:Nat)
    {gf:Nat} {lb:Array Value} (hg:a.eval g = .func (.func gf) #[] lb) (eg:∀ args w,(callFunc gf args).run P w = .ok (.enter gf args) w)
    {encs:α→Array Value} {S Sp:List α→Prop} {N:Nat} (K:Nat→Prop) (hseq:SeqT (fun _=>False) (n+1) P gf lb encs (KeepsC K) S Sp N w) (hps:∀ x,(encs x).size=ps.size)
    (base:World) (hb:Below base.heap.size base w) (bl:List α→List (Nat×TypeId×Array Value)) (R:List α→Prop) (bx:Code→List α→List (Nat×TypeId×Array Value)) (Rx:Code→List α→Prop)
    (h0:Blks w (bl [])) (hR0:R [])
    (hround:∀ (l:Nat) (pre:List α) (x:α) (W:World),pre.length<N→Below base.heap.size base W→Blks W (bl pre)→R pre →
      assign.wpIn (Fence.wide.inRound l) n P (Exit.then (fun a₁ W₁=>∃ nb:List (Nat×TypeId×Array Value),KeepsOthers W W₁∧KeepsC K W W₁∧Below base.heap.size base W₁∧Blks W₁ (nb++bl pre) ∧
        ∀ (L:Nat) (W2:World),Below base.heap.size base W2→Blks W2 (nb++bl pre)→body.wpIn (Fence.wide.inRound L) n P (RoundC K base bl R bx Rx (pre++[x]) W2) a₁ W2) (fun _ _ _=>False)) { tmps:=(ps.zip (encs x)).foldl (fun t (p,v)=>t.setIfInBounds p v) a.tmps,defers:=[] } W)
    (hdone:∀ (D:Nat) (xs:List α) (W:World),base.heap.size≤D→S xs→Below base.heap.size base W→Blks W (bl xs)→R xs→W.heap[D]?=some (.deferred (some []))→Q .normal { a with defers:={ target := .collected D,args:=#[] }::a.defers } W)
    (hstop:∀ (D:Nat) (c:Code) (pre:List α) (W:World),base.heap.size≤D→Sp pre→Below base.heap.size base W→Blks W (bx c pre)→Rx c pre→W.heap[D]?=some (.deferred (some []))→c.wp P Q { a with defers:={ target := .collected D,args:=#[] }::a.defers } W) :
    (Code.rangeFunc g ps assign body).wp P Q a w:=by
  refine wp_rangeFuncT n hg eg (S:=S) (Sp:=Sp) (N:=N) (w0:=w) (T:=fun _=>False) hseq (fun _ h=>h.elim) KeepsC.trans (fun W l o o' _ hl ho _=>KeepsC.put W l o o' hl ho) (bRefl _) hps
    (fun pre W'=>Below base.heap.size base W'∧Blks W' (bl pre)∧R pre)
    (fun x a₁ pre W'=>∃ nb:List (Nat×TypeId×Array Value),Below base.heap.size base W'∧Blks W' (nb++bl pre) ∧
      ∀ (L:Nat) (W2:World),Below base.heap.size base W2→Blks W2 (nb++bl pre)→body.wpIn (Fence.wide.inRound L) n P (RoundC K base bl R bx Rx (pre++[x]) W2) a₁ W2)
    (fun c pre W'=>Below base.heap.size base W'∧Blks W' (bx c pre)∧Rx c pre)
    (fun pre A' B' row h hg hr=>⟨bGrown h.1 hg hb.size hr,Blks.kept hg hr h.2.1,h.2.2⟩)
    (fun x a pre A' B' row h hg hr=>by
      obtain ⟨nb,h1,h2,h3⟩:=h
      exact ⟨nb,bGrown h1 hg hb.size hr,Blks.kept hg hr h2,h3⟩)
    (fun c pre A' B' row h hg hr=>⟨bGrown h.1 hg hb.size hr,Blks.kept hg hr h.2.1,h.2.2⟩)
    (fun _ _ _ _ _ ht=>ht.elim)
    (fun _ _ _ _ _ _ ht=>ht.elim)
    ⟨hb,h0,hR0⟩ ?_ ?_ ?_ ?_
  · intro l pre x W hI hlen
    refine Go.wpIn_mono (hround l pre x W hlen hI.1 hI.2.1 hI.2.2) ?_
    intro e a' w' hp
    cases e with
    | normal =>
      obtain ⟨nb,h1,h2,h3,h4,h5⟩:=hp
      exact ⟨h1,h2,nb,h3,h4,h5⟩
    | _=>exact hp
  · intro l pre x a₁ W hI hlen
    obtain ⟨nb,h1,h2,h3⟩:=hI
    refine Go.wpIn_mono (h3 l W h1 h2) ?_
    intro e a' w' hp
    cases e with
    | normal=>exact ⟨hp.1,hp.2.1,hp.2.2.1,hp.2.2.2.1,hp.2.2.2.2⟩
    | ret=>exact ⟨hp.1,hp.2.1,hp.2.2.1,hp.2.2.2⟩
    | exit id=>exact ⟨hp.1,hp.2.1,hp.2.2.1,hp.2.2.2⟩
    | goto t=>exact ⟨hp.1,hp.2.1,hp.2.2.1,hp.2.2.2⟩
    | panic ch=>exact hp.elim
    | outgrown=>exact hp.elim
  · intro D xs W hD hS hI hd
    exact hdone D xs W (Nat.le_trans hb.size hD) hS hI.1 hI.2.1 hI.2.2 hd
  · intro D c pre W hD hS hI hd
    exact hstop D c pre W (Nat.le_trans hb.size hD) hS hI.1 hI.2.1 hI.2.2 hd
theorem wp_rangeCM {P:Program} {α:Type} {g:Operand} {ps:Array Tmp} {assign body:Code} {Q:Exit→Act→World→Prop} {a:Act} {w:World} (n:Nat)
    {gf:Nat} {lb:Array Value} (hg:a.eval g = .func (.func gf) #[] lb) (eg:∀ args w,(callFunc gf args).run P w = .ok (.enter gf args) w)
    {encs:α→Array Value} {S Sp:List α→Prop} {N:Nat} (K:Nat→Prop) (hseq:SeqT (fun _=>False) (n+1) P gf lb encs (KeepsC K) S Sp N w) (hps:∀ x,(encs x).size=ps.size)
    (base:World) (hb:Below base.heap.size base w) (bl:List α→List (Nat×TypeId×Array Value)) (R:List α→Prop) (bx:Code→List α→List (Nat×TypeId×Array Value)) (Rx:Code→List α→Prop)
    (D0:Nat) (o0:Obj) (hm0:w.heap[D0]?=some o0) (hc0:o0.isCells=false)
    (h0:Blks w (bl [])) (hR0:R [])
    (hround:∀ (l:Nat) (pre:List α) (x:α) (W:World),pre.length<N→Below base.heap.size base W→Blks W (bl pre)→R pre →
      assign.wpIn (Fence.wide.inRound l) n P (Exit.then (fun a₁ W₁=>∃ nb:List (Nat×TypeId×Array Value),KeepsOthers W W₁∧KeepsC K W W₁∧Below base.heap.size base W₁∧Blks W₁ (nb++bl pre) ∧
        ∀ (L:Nat) (W2:World),Below base.heap.size base W2→Blks W2 (nb++bl pre)→body.wpIn (Fence.wide.inRound L) n P (RoundC K base bl R bx Rx (pre++[x]) W2) a₁ W2) (fun _ _ _=>False)) { tmps:=(ps.zip (encs x)).foldl (fun t (p,v)=>t.setIfInBounds p v) a.tmps,defers:=[] } W)
    (hdone:∀ (D:Nat) (xs:List α) (W:World),base.heap.size≤D→S xs→Below base.heap.size base W→Blks W (bl xs)→R xs→W.heap[D]?=some (.deferred (some []))→W.heap[D0]?=some o0→D0<D→Q .normal { a with defers:={ target := .collected D,args:=#[] }::a.defers } W)
    (hstop:∀ (D:Nat) (c:Code) (pre:List α) (W:World),base.heap.size≤D→Sp pre→Below base.heap.size base W→Blks W (bx c pre)→Rx c pre→W.heap[D]?=some (.deferred (some []))→W.heap[D0]?=some o0→D0<D→c.wp P Q { a with defers:={ target := .collected D,args:=#[] }::a.defers } W) :
    (Code.rangeFunc g ps assign body).wp P Q a w:=by
  have hl0:D0<w.heap.size:=(Array.getElem?_eq_some_iff.1 hm0).1
  have hgm:∀ {A' B':World} {row:Option Nat},A'.heap[D0]?=some o0→A'.grownBy B' row→(∀ r,row=some r→w.heap.size≤r∧∃ o:Obj,A'.heap[r]?=some o∧o.isCells=false)→B'.heap[D0]?=some o0:=fun hm hg hr =>
    (hg.block D0 (Array.getElem?_eq_some_iff.1 hm).1 (fun e=>by have:=(hr D0 e.symm).1;omega)).trans hm
  refine wp_rangeFuncT n hg eg (S:=S) (Sp:=Sp) (N:=N) (w0:=w) (T:=fun _=>False) hseq (fun _ h=>h.elim) KeepsC.trans (fun W l o o' _ hl ho _=>KeepsC.put W l o o' hl ho) (bRefl _) hps
    (fun pre W'=>(Below base.heap.size base W'∧Blks W' (bl pre)∧R pre)∧W'.heap[D0]?=some o0)
    (fun x a₁ pre W'=>(∃ nb:List (Nat×TypeId×Array Value),Below base.heap.size base W'∧Blks W' (nb++bl pre) ∧
      ∀ (L:Nat) (W2:World),Below base.heap.size base W2→Blks W2 (nb++bl pre)→body.wpIn (Fence.wide.inRound L) n P (RoundC K base bl R bx Rx (pre++[x]) W2) a₁ W2)∧W'.heap[D0]?=some o0)
    (fun c pre W'=>(Below base.heap.size base W'∧Blks W' (bx c pre)∧Rx c pre)∧W'.heap[D0]?=some o0)
    (fun pre A' B' row h hg hr=>⟨⟨bGrown h.1.1 hg hb.size hr,Blks.kept hg hr h.1.2.1,h.1.2.2⟩,hgm h.2 hg hr⟩)
    (fun x a pre A' B' row h hg hr=>by
      obtain ⟨⟨nb,h1,h2,h3⟩,h4⟩:=h
      exact ⟨⟨nb,bGrown h1 hg hb.size hr,Blks.kept hg hr h2,h3⟩,hgm h4 hg hr⟩)
    (fun c pre A' B' row h hg hr=>⟨⟨bGrown h.1.1 hg hb.size hr,Blks.kept hg hr h.1.2.1,h.1.2.2⟩,hgm h.2 hg hr⟩)
    (fun _ _ _ _ _ ht=>ht.elim)
    (fun _ _ _ _ _ _ ht=>ht.elim)
    ⟨⟨hb,h0,hR0⟩,hm0⟩ ?_ ?_ ?_ ?_
  · intro l pre x W hI hlen
    refine Go.wpIn_mono (hround l pre x W hlen hI.1.1 hI.1.2.1 hI.1.2.2) ?_
    intro e a' w' hp
    cases e with
    | normal =>
      obtain ⟨nb,h1,h2,h3,h4,h5⟩:=hp
      exact ⟨h1,h2,⟨nb,h3,h4,h5⟩,h1.same _ _ hI.2 hc0⟩
    | _=>exact hp
  · intro l pre x a₁ W hI hlen
    obtain ⟨⟨nb,h1,h2,h3⟩,h4⟩:=hI
    refine Go.wpIn_mono (h3 l W h1 h2) ?_
    intro e a' w' hp
    cases e with
    | normal=>exact ⟨hp.1,hp.2.1,⟨hp.2.2.1,hp.2.2.2.1,hp.2.2.2.2⟩,hp.1.same _ _ h4 hc0⟩
    | ret=>exact ⟨hp.1,⟨hp.2.1,hp.2.2.1,hp.2.2.2⟩,hp.1.same _ _ h4 hc0⟩
    | exit id=>exact ⟨hp.1,⟨hp.2.1,hp.2.2.1,hp.2.2.2⟩,hp.1.same _ _ h4 hc0⟩
    | goto t=>exact ⟨hp.1,⟨hp.2.1,hp.2.2.1,hp.2.2.2⟩,hp.1.same _ _ h4 hc0⟩
    | panic ch=>exact hp.elim
    | outgrown=>exact hp.elim
  · intro D xs W hD hS hI hd
    exact hdone D xs W (Nat.le_trans hb.size hD) hS hI.1.1 hI.1.2.1 hI.1.2.2 hd hI.2 (by omega)
  · intro D c pre W hD hS hI hd
    exact hstop D c pre W (Nat.le_trans hb.size hD) hS hI.1.1 hI.1.2.1 hI.1.2.2 hd hI.2 (by omega)
end Go.Proofs.YtgkpomdegomgiaaGreatDoor
namespace Go.Proofs.YtgkpomdegomgiaaGreatDoor
open Go.RowKit
attribute [local go_sem] Oper.semAt_some
theorem offices_any (cs:Array Value) (v:Value) (w:World) (hv:∃ A n c,v = .slice A n c) :
    Calls Tryz.prog 31 #[.agg cs,v] w fun r w' =>
      r = .returned (.func (.func 68) #[] #[.pointer (some ⟨w.heap.size,0,none⟩),.pointer (some ⟨w.heap.size+1,0,none⟩)])∧w'=(w.alloc (.cells cs 33)).alloc (.cells #[v] 22):=by
  have hmf:∀ (fn:Fn) (first cap:Array Value) (w:World),(Instr.makeFunc fn first cap).run Tryz.prog w = .ok (.func fn first cap) w:=fun _ _ _ _=>rfl
  obtain ⟨A,n,c,rfl⟩:=hv
  go_enter Tryz.func31,Tryz.ntmps31
  go_wp2
  go_ret
  exact ⟨rfl,rfl⟩
def upto (n k:Nat):List (Fin n):=(List.finRange n).take k
theorem upto_zero (n:Nat):upto n 0=[]:=by simp [upto]
theorem upto_succ {n k:Nat} (h:k<n):upto n k++[⟨k,h⟩]=upto n (k+1):=by
  unfold upto
  rw [List.take_succ_eq_append_getElem (by simpa using h)]
  simp
theorem upto_length {n k:Nat} (h:k≤n):(upto n k).length=k:=by
  unfold upto;rw [List.length_take,List.length_finRange];omega
def inV (v0:Value) (jobs:List (Array Value)) (em:Nat→Bool):Nat→Value
  | 0=>v0
  | k+1=>((jobs.getD k #[])[if em k then 0 else 4]?).getD undef
def shc (v0:Value) (keys rests:List Int) (jobs:List (Array Value)) (em:Nat→Bool) (k:Nat):Array Value :=
  #[inV v0 jobs em k,.int .i64 (keys.getD k 0),.int .i64 (rests.getD (k+1) 0)]++jobs.getD k #[]
def offE (v0:Value) (keys rests:List Int) (jobs:List (Array Value)) (em:Nat→Bool) {n:Nat} (i:Fin n):Array Value:=#[.int .i64 (i.val:Nat),.agg (shc v0 keys rests jobs em i.val)]
def JobC (jc:Array Value) (e:Bool):Prop:=jc.size=49∧(∀ v∈jc.toList,v.oneCell'=true)∧(∃ A n c,jc[0]?=some (.slice A n c))∧Lens3 (fun i=>jc[i]?) e
theorem inV_slice {A0:Option Addr} {n0 c0:Nat} {jobs:List (Array Value)} {em:Nat→Bool} (hjobs:∀ k jc,jobs[k]?=some jc→JobC jc (em k)):∀ {k:Nat},k≤jobs.length→∃ A n c,inV (.slice A0 n0 c0) jobs em k = .slice A n c
  | 0,_=>⟨A0,n0,c0,rfl⟩
  | k+1,h=>by
    have hj:jobs[k]?=some jobs[k]:=List.getElem?_eq_getElem (by omega)
    obtain ⟨-,-,⟨A,n,c,h0⟩,⟨_,_,_,_,_,_,A3,n3,c3,_,_,h4,_⟩⟩:=hjobs k _ hj
    show ∃ A n c,((jobs.getD k #[])[if em k then 0 else 4]?).getD undef=_
    rw [List.getD_eq_getElem?_getD,hj]
    show ∃ A n c,((jobs[k])[if em k then 0 else 4]?).getD undef=_
    cases em k
    · exact ⟨A3,n3,c3,by rw [if_neg (by simp)];exact congrArg (fun o=>Option.getD o undef) h4⟩
    · exact ⟨A,n,c,by rw [if_pos rfl];exact congrArg (fun o=>Option.getD o undef) h0⟩
theorem foldl_put (o:Nat):∀ (l:List Value) (s:Nat) (init:Array Value) (i:Nat),o+s+l.length≤init.size →
    ((l.zipIdx s).foldl (fun cs x=>cs.setIfInBounds (o+x.2) x.1) init)[i]?=if o+s≤i∧i<o+s+l.length then l[i - (o+s)]? else init[i]?
  | [],s,init,i,h=>by
    rw [if_neg (by simp only [List.length_nil];omega)];rfl
  | v::l,s,init,i,h=>by
    rw [List.zipIdx_cons,List.foldl_cons,foldl_put o l (s+1) _ i (by simp at h ⊢;omega)]
    simp only [List.length_cons] at h ⊢
    by_cases h1:o+s=i
    · subst h1
      rw [if_neg (by omega),if_pos (by omega),Array.getElem?_setIfInBounds_self_of_lt (by omega)]
      simp
    · rw [Array.getElem?_setIfInBounds_ne h1]
      by_cases h2:o+(s+1)≤i∧i<o+(s+1)+l.length
      · rw [if_pos h2,if_pos (by omega)]
        rw [show i - (o+s)=(i - (o+(s+1)))+1 by omega]
        rfl
      · rw [if_neg h2,if_neg (by omega)]
theorem build_shown {jc:Array Value} (h:jc.size=49) (a b c:Value) :
    Array.foldl (fun cs x=>cs.setIfInBounds (3+x.snd) x.fst) #[a,b,c,.slice none 0 0,.slice none 0 0,.slice none 0 0,.slice none 0 0,.slice none 0 0,.slice none 0 0,.slice none 0 0,.int .i64 0,.int .i64 0,.int .i64 0,.int .i64 0,.int .i64 0,.int .i64 0,.int .i64 0,.int .u8 0,.int .u8 0,.int .u8 0,.int .u8 0,.int .u8 0,.int .u8 0,.int .u8 0,.int .u8 0,.int .u8 0,.int .u8 0,.int .u8 0,.int .u8 0,.int .u8 0,.int .u8 0,.int .u8 0,.int .u8 0,.int .u8 0,.int .u8 0,.int .u8 0,.int .u8 0,.int .u8 0,.int .u8 0,.int .u8 0,.int .u8 0,.int .u8 0,.int .u8 0,.int .u8 0,.int .u8 0,.int .u8 0,.int .u8 0,.int .u8 0,.int .u8 0,.int .i64 0,.int .i64 0,.int .i64 0] jc.zipIdx 0 49=#[a,b,c]++jc:=by
  have e:Array.foldl (fun (cs:Array Value) (x:Value×Nat)=>cs.setIfInBounds (3+x.snd) x.fst) #[a,b,c,.slice none 0 0,.slice none 0 0,.slice none 0 0,.slice none 0 0,.slice none 0 0,.slice none 0 0,.slice none 0 0,.int .i64 0,.int .i64 0,.int .i64 0,.int .i64 0,.int .i64 0,.int .i64 0,.int .i64 0,.int .u8 0,.int .u8 0,.int .u8 0,.int .u8 0,.int .u8 0,.int .u8 0,.int .u8 0,.int .u8 0,.int .u8 0,.int .u8 0,.int .u8 0,.int .u8 0,.int .u8 0,.int .u8 0,.int .u8 0,.int .u8 0,.int .u8 0,.int .u8 0,.int .u8 0,.int .u8 0,.int .u8 0,.int .u8 0,.int .u8 0,.int .u8 0,.int .u8 0,.int .u8 0,.int .u8 0,.int .u8 0,.int .u8 0,.int .u8 0,.int .u8 0,.int .u8 0,.int .i64 0,.int .i64 0,.int .i64 0] jc.zipIdx 0 49 =
      (jc.toList.zipIdx 0).foldl (fun cs x=>cs.setIfInBounds (3+x.2) x.1) #[a,b,c,.slice none 0 0,.slice none 0 0,.slice none 0 0,.slice none 0 0,.slice none 0 0,.slice none 0 0,.slice none 0 0,.int .i64 0,.int .i64 0,.int .i64 0,.int .i64 0,.int .i64 0,.int .i64 0,.int .i64 0,.int .u8 0,.int .u8 0,.int .u8 0,.int .u8 0,.int .u8 0,.int .u8 0,.int .u8 0,.int .u8 0,.int .u8 0,.int .u8 0,.int .u8 0,.int .u8 0,.int .u8 0,.int .u8 0,.int .u8 0,.int .u8 0,.int .u8 0,.int .u8 0,.int .u8 0,.int .u8 0,.int .u8 0,.int .u8 0,.int .u8 0,.int .u8 0,.int .u8 0,.int .u8 0,.int .u8 0,.int .u8 0,.int .u8 0,.int .u8 0,.int .u8 0,.int .u8 0,.int .i64 0,.int .i64 0,.int .i64 0]:=by
    have hs:jc.zipIdx.size=49:=by simp [h]
    rw [←hs,←Array.foldl_toList]
    simp
  rw [e]
  apply Array.ext_getElem?
  intro i
  have hl:jc.toList.length=49:=by simp [h]
  rw [foldl_put 3 jc.toList 0 _ i (by rw [hl];exact Nat.le_refl 52),hl,Array.getElem?_append]
  by_cases hi:3+0≤i∧i<3+0+49
  · rw [if_pos hi,if_neg (by simp;omega)]
    simp
  · rw [if_neg hi]
    by_cases h3:i<3
    · rw [if_pos (by simpa using h3)]
      obtain rfl | rfl | rfl:i=0∨i=1∨i=2:=by omega
      all_goals rfl
    · rw [if_neg (by simp;omega),Array.getElem?_eq_none (by simp;omega),Array.getElem?_eq_none (by simp;omega)]
theorem wpListIn_load {F:Fence} {n:Nat} {P:Program} {ops:Array Oper} {rest:List Oper} {o:Oper} {a:Act} {w:World} {Q:Exit→Act→World→Prop} (hgd:o.guard=none) {ty:TypeId} {x:Operand} (ho:o.op = .load ty x) {q v:Value} (hx:a.eval x=q)
    (hl:(Instr.loadAt ty q).run P w = .ok v w) (h:wpListIn F n P ops Q rest (a.put o.dst v) w):wpListIn F n P ops Q (o::rest) a w :=
  wpListIn_plain hgd fun K hK=>by
    refine ⟨fun f hf=>(by unfold Oper.about at hf;rw [ho] at hf;cases hf),?_⟩
    have e:=exec_load ho hx hl
    have hs:o.semAt F.round a.eval=execOp a.eval o:=by
      cases F.round with
      | none=>rfl
      | some l=>exact Oper.semAt_some _ _ _ (by rw [ho];intro c h;cases h)
    rw [hs,e]
    exact hK _ _ h
theorem load_blk {w:World} {g:Nat} {t ty:TypeId} {cs:Array Value} {d:TypeDesc} (h:Blk w g t cs) (hu:Tryz.prog.underlying ty=some d) (hd:d.isRow=true) (hi:(Tryz.prog.info? ty).map (·.size)=some cs.size) :
    (Instr.loadAt ty (.pointer (some ⟨g,0,none⟩))).run Tryz.prog w = .ok (.agg cs) w:=by
  have:=run_loadAt_mid (P:=Tryz.prog) w g 0 ty cs.toList d (fun j v hj=>by rw [Nat.zero_add,h.cell];simpa using hj) hu hd (by rw [Array.length_toList];exact hi)
  rwa [Array.toArray_toList] at this
theorem setRow_alloc_drew (w:World) (cur cs:Array Value) (t:TypeId):(w.alloc (.cells cur t)).drew.setRow w.heap.size cs=(w.alloc (.cells cs t)).drew:=by
  have:=setRow_alloc w cur cs t
  show ((w.alloc (.cells cur t)).setRow w.heap.size cs).drew=_
  rw [this]
theorem job_info:(Tryz.prog.info? 55).map (·.size)=some 49:=by kernel_rfl
theorem shown_info:(Tryz.prog.info? 91).map (·.size)=some 52:=by kernel_rfl
theorem off_loop (L cb rb g B nj ck cj cr:Nat) (AK AJ:Option Addr) (cs:Array Value) (v0:Value) (keys rests:List Int) (jobs:List (Array Value)) (em:Nat→Bool) (K:Nat→Prop) (J Jx:List (Fin nj)→World→Prop) (W:World)
    (hcb:K cb) (hrb:K rb) (hKg:K g) (hKB:∀ k,k<B→K k) (hKn:∀ k,W.heap.size≤k→K k) (hJ:AbT (fun _=>False) W.heap.size J)
    (hY:∀ pre x W1,J pre W1→pre.length<nj→YieldAt Fence.wide (2+1 - 1) Tryz.prog L (offE v0 keys rests jobs em x) W1 fun e W' =>
      (e = .returned (.bool true)∧J (pre++[x]) W'∧KeepsC K W1 W')∨(e = .returned (.bool false)∧Jx (pre++[x]) W'))
    (hBW:B≤W.heap.size) (hBc:Blk W cb 33 cs) (hBr:Blk W rb 22 #[.slice (some ⟨g,0,none⟩) (nj+1) cr]) (hBg:Blk W g 3 (ints rests).toArray)
    (h3:cs[3]?=some v0) (hv0:∃ A n c,v0 = .slice A n c) (h4:cs[4]?=some (.slice AK nj ck)) (h5:cs[5]?=some (.slice AJ nj cj))
    (hK:Rd W B 1 AK nj (ints keys)) (hJb:Rd W B 49 AJ nj (jobs.flatMap Array.toList)) (hjobs:∀ k jc,jobs[k]?=some jc→JobC jc (em k)) (hjl:jobs.length=nj) (hkl:keys.length=nj) (hrl:rests.length=nj+1) (hn:nj≤1000) (h0:J [] W) :
    CallsIn Fence.wide (2+1) Tryz.prog 68 #[.func (.yield L) #[] #[],.pointer (some ⟨cb,0,none⟩),.pointer (some ⟨rb,0,none⟩)] W fun e W'=>(∃ v,e = .returned v) ∧
      ((∃ ys,ys=upto nj nj∧J ys W')∨(∃ pre,(∃ k,k<nj∧pre=upto nj (k+1))∧Jx pre W')):=by
  obtain ⟨A0,n0,c0,rfl⟩:=hv0
  refine callsIn_of_wp Tryz.func68 rfl trivial ?_ rfl
  simp only [Tryz.ntmps68,List.size_toArray,List.length_cons,List.length_nil,Nat.reduceAdd,Nat.reduceSub,Array.replicate_succ,Array.replicate_zero,List.push_toArray,List.append_toArray,List.nil_append,List.cons_append]
  have d3:=(hBc.cell 3).trans h3
  have d5:=(hBc.cell 5).trans h5
  gi_wp2
  gi_loopw [13,4] (fun i vi wr=>∃ (k:Nat),k≤nj∧i = .int .i64 k∧vi=inV (.slice A0 n0 c0) jobs em k∧Blk wr cb 33 cs∧Blk wr rb 22 #[.slice (some ⟨g,0,none⟩) (nj+1) cr]∧Blk wr g 3 (ints rests).toArray ∧
    Rd wr B 1 AK nj (ints keys)∧Rd wr B 49 AJ nj (jobs.flatMap Array.toList)∧W.heap.size≤wr.heap.size∧J (upto nj k) wr) (fun i _ _=>nj - (intOf i).toNat)
  case atStart=>exact ⟨0,Nat.zero_le _,rfl,rfl,hBc,hBr,hBg,hK,hJb,Nat.le_refl _,by rw [upto_zero];exact h0⟩
  case round =>
    clear hBc hBr hBg hK hJb h0 d3 d5
    obtain ⟨k,hkn,rfl,hvi,hBc,hBr,hBg,hK,hJb,hsz,hJ1⟩:=hrel
    have d4:=(hBc.cell 4).trans h4
    by_cases hlt:k<nj
    · obtain ⟨A4,n4,c4,hv4⟩:∃ A n c,inV (.slice A0 n0 c0) jobs em k = .slice A n c:=inV_slice hjobs (by omega)
      obtain ⟨jc,hjc⟩:∃ jc,Hid (jobs[k]?=some jc):=⟨_,Lib.hid (List.getElem?_eq_getElem (by omega))⟩
      obtain ⟨hs49,hone,⟨B0,m0,e0,hj0⟩,hl3⟩:=hjobs k jc hjc.out
      obtain ⟨bj,offj,rfl,hbj,hcj⟩:=hJb.2 (by omega)
      have hrange:wr.rangeAt bj (offj+k*49) jc.toList:=fun j v hj=>by
        rw [Nat.add_assoc]
        refine hcj _ _ ?_
        have hj49:j<49:=by have:=(List.getElem?_eq_some_iff.1 hj).1;simpa [hs49] using this
        rw [flat_mem jobs k j jc (fun y hy=>by obtain ⟨i,hi⟩:=List.getElem?_of_mem hy;simpa using (hjobs i y hi).1) hjc.out hj49]
        exact hj
      rw [hv4] at hvi
      subst hvi
      have HV:=Lib.hid hv4
      have i0:(0:Int)≤(k:Int):=by omega
      have i1:(k:Int)<(nj:Int):=by omega
      clear hv4
      refine wpIn_wide.2 ?_
      go_upto_region 3 with fail
      apply wp_region_lit
      iterate 6 go_step
      refine wpList_load_mid rfl 55 (.tmp 16) rfl bj (offj+k*49) rfl jc.toList _ hrange Tryz.underlying55 rfl (by rw [Array.length_toList,hs49];exact job_info) ?_
      rw [Array.toArray_toList]
      iterate 6 go_step
      have hone':jc.all (·.oneCell')=true:=by have:=all_oneCell_toArray hone;simpa using this
      refine wpList_store_row rfl 55 (.tmp 6) (.tmp 17) rfl wr.heap.size jc rfl rfl 55 _ (Blk.new wr _ _ _ rfl) (by rw [hs49];exact job_info) (by rw [hs49];rfl) hone' ?_
      rw [setRow_alloc]
      have BJ:Blk (wr.alloc (.cells jc 55)) wr.heap.size 55 jc:=Blk.new wr _ _ _ rfl
      have hb1:=bAl (bRefl wr) (.cells jc 55)
      obtain ⟨ky,hky⟩:∃ x,Hid (keys[k]?=some x):=⟨_,Lib.hid (List.getElem?_eq_getElem (by omega))⟩
      obtain ⟨rt,hrt⟩:∃ x,Hid (rests[k+1]?=some x):=⟨_,Lib.hid (List.getElem?_eq_getElem (by omega))⟩
      obtain ⟨bk,offk,rfl,hbk,ck0⟩:=Int_at hK hlt hky.out
      have hBw:B≤wr.heap.size:=by omega
      have hJ2:=hJ.1 _ _ _ none hJ1 (World.grownBy_alloc wr (.cells jc 55) none) (by intro r e;cases e)
      generalize wr.alloc (.cells jc 55)=w1 at *
      have KS:Hid (∀ w',Below w1.heap.size w1 w'→_):=Lib.hid (fun w' h=>and6 (run_loadAt_mid (P:=Tryz.prog) w' wr.heap.size 0 55 jc.toList _ (fun j v hj=>by rw [Nat.zero_add,(BJ.below h BJ.lt).cell];simpa using hj) Tryz.underlying55 rfl (by rw [Array.length_toList,hs49];exact job_info))
        (((hBc.below (bCall hb1 h) hBc.lt).cell 4).trans h4) (((bCall hb1 h).cell (p:=⟨bk,offk+k,none⟩) (by show bk<_;omega)).trans ck0) ((hBr.below (bCall hb1 h) hBr.lt).cell 0)
        (((hBg.below (bCall hb1 h) hBg.lt).cell (k+1)).trans (show (ints rests).toArray[k+1]?=some (.int .i64 rt) by rw [List.getElem?_toArray];exact ints_at hrt.out)) trivial)
      rw [Array.toArray_toList] at KS
      go_upto_region 4 with fail
      have i2:IntKind.i64.wrap ((k:Int)+1)=(k:Int)+1:=by rw [IntKind.wrap_i64];omega
      have i3:((k:Int)+1).toNat=k+1:=by omega
      have i4:(k:Int)+1<(nj:Int)+1:=by omega
      have i5:(0:Int)≤(k:Int)+1:=by omega
      refine wp_region_maskB (f:=14) (n:=1) KS [1,1,2,1,1,2,2,1,1,1,2,2,1,0,0] ?_
      simp only [pickH,pickT]
      refine wpHeads_t ?_
      refine wpHeads_t ?_
      refine wpHeads_r ?_
      refine wpHeads_t ?_
      refine wpHeads_t ?_
      refine wpHeads_r ?_
      refine wpHeads_r ?_
      refine wpHeads_t ?_
      refine wpHeads_t ?_
      refine wpHeads_t ?_
      refine wpHeads_r ?_
      refine wpHeads_r (v:=?v1) (hv:=?h1) ?_;case h1=>(intro w hSw;(first | refine (exec_load rfl rfl hSw.1).trans ?_ | refine (exec_load rfl rfl hSw.2.1).trans ?_ | refine (exec_load rfl rfl hSw.2.2.1).trans ?_ | refine (exec_load rfl rfl hSw.2.2.2.1).trans ?_);with_reducible rfl)
      refine wpHeads_t ?_
      refine wpHeads_nil ?_
      iterate 1 (refine wpTailS_cons (fun K hK=>?_);go_simp;(first | (fail) | skip);refine mask_go hK KS ?_;clear hK K)
      refine wpTailS_zero ?_
      rw [build_shown hs49]
      have hX:∀ v∈((#[.slice A4 n4 c4,.int .i64 ky,.int .i64 rt]:Array Value)++jc).toList,v.oneCell'=true:=by
        intro v hv
        rw [Array.toList_append] at hv
        rcases List.mem_append.1 hv with hv | hv
        · simp only [List.mem_cons,List.not_mem_nil,or_false] at hv
          rcases hv with rfl | rfl | rfl <;> rfl
        · exact hone v hv
      have hX':((#[.slice A4 n4 c4,.int .i64 ky,.int .i64 rt]:Array Value)++jc).all (·.oneCell')=true:=by have:=all_oneCell_toArray hX;rwa [Array.toArray_toList] at this
      have hXs:((#[.slice A4 n4 c4,.int .i64 ky,.int .i64 rt]:Array Value)++jc).size=52:=by simp [hs49]
      have hXe:offE (.slice A0 n0 c0) keys rests jobs em (⟨k,hlt⟩:Fin nj)=#[.int .i64 (k:Nat),.agg ((#[.slice A4 n4 c4,.int .i64 ky,.int .i64 rt]:Array Value)++jc)]:=by
        unfold offE shc
        rw [HV.out,List.getD_eq_getElem?_getD (l:=keys),List.getD_eq_getElem?_getD (l:=rests),List.getD_eq_getElem?_getD (l:=jobs),hky.out,hrt.out,hjc.out]
        rfl
      have hX3:∀ i,((#[.slice A4 n4 c4,.int .i64 ky,.int .i64 rt]:Array Value)++jc)[3+i]?=jc[i]?:=fun i=>by
        rw [Array.getElem?_append_right (by simp)];simp
      generalize ((#[.slice A4 n4 c4,.int .i64 ky,.int .i64 rt]:Array Value)++jc)=X at *
      refine wpList_store_row (by rfl) 91 (.tmp 7) (.tmp 30) (by rfl) w1.heap.size X (by rfl) (by rfl) 91 _ (Blk.dr (Blk.new w1 _ _ _ rfl)) (by rw [hXs];exact shown_info) (by rw [hXs];rfl) hX' ?_
      rw [setRow_alloc_drew]
      have BX:Blk (w1.alloc (.cells X 91)).drew w1.heap.size 91 X:=Blk.dr (Blk.new w1 _ _ _ rfl)
      have BJ2:=Blk.dr (BJ.alloc (.cells X 91))
      have hb2:=bDr (bAl hb1 (.cells X 91))
      have hJ3:=hJ.1 _ _ _ none (hJ.1 _ _ _ none hJ2 (World.grownBy_alloc w1 (.cells X 91) none) (by intro r e;cases e)) (grownBy_below (bDr (bRefl (w1.alloc (.cells X 91)))) none) (by intro r e;cases e)
      have hw1:=hb1.size
      have hw2:=BJ.lt
      clear BJ hb1 KS hJ2 i2 i3 i4 i5
      generalize (w1.alloc (.cells X 91)).drew=w2 at *
      have Bc2:=hBc.below hb2 hBc.lt
      have Br2:=hBr.below hb2 hBr.lt
      have Bg2:=hBg.below hb2 hBg.lt
      have K2:=hK.below (hb2.mono hBw)
      have J2:=hJb.below (hb2.mono hBw)
      have hlen:(upto nj k).length<nj:=by rw [upto_length (by omega)];exact hlt
      obtain ⟨fn,tmps,assign,body,hy,hR⟩:=hY (upto nj k) ⟨k,hlt⟩ _ hJ3 hlen
      rw [hXe] at hy
      rw [upto_succ hlt] at hR
      clear hY hXe hX hX' hJ3 hJ1 hrange hcj ck0 hBc hBr hBg hK hJb hone hone'
      go_upto_region 5 with fail
      refine NoPanic.normal ?_
      go_upto_region 5 with fail
      refine (wpIn_wide (n:=3)).1 ?_
      apply wpIn_region_lit
      have LX:(Instr.loadAt 91 (.pointer (some ⟨w1.heap.size,0,none⟩))).run Tryz.prog w2 = .ok (.agg X) w2:=load_blk BX Tryz.underlying91 rfl (by rw [hXs];exact shown_info)
      iterate 6 gi_step
      refine wpListIn_load rfl rfl rfl LX ?_
      gi_wp2
      refine hR.mono ?_
      rintro e W3 (⟨rfl,hJ3,hk3⟩ | ⟨rfl,hJx3⟩)
      · have Bc3:=hk3.blk hcb Bc2
        have Br3:=hk3.blk hrb Br2
        have Bg3:=hk3.blk hKg Bg2
        have K3:=hk3.rd hKB K2
        have J3:=hk3.rd hKB J2
        have BX3:=hk3.blk (hKn _ (by omega)) BX
        have BJ3:=hk3.blk (hKn _ (by omega)) BJ2
        have hs3:=Nat.le_trans (show W.heap.size≤w2.heap.size by have:=hb2.size;omega) hk3.1
        clear hy LX Bc2 Br2 Bg2 K2 J2 BX BJ2 hk3 hb2
        have hl3':=hl3
        obtain ⟨A1,n1,c1,A2,n2,c2,A3,n3,c3,-,-,h4',-,-,-,-⟩:=hl3'
        have y4:W3.cell? ⟨wr.heap.size,4,none⟩=some (.slice A3 n3 c3):=(BJ3.cell 4).trans h4'
        have y0:W3.cell? ⟨wr.heap.size,0,none⟩=some (.slice B0 m0 e0):=(BJ3.cell 0).trans hj0
        have hl4:Lens3 (fun i=>X[3+i]?) (em k):=by simp only [hX3];exact hl3
        have hin0:Hid (em k=true→inV (.slice A0 n0 c0) jobs em (k+1) = .slice B0 m0 e0):=fun he=>by
          show ((jobs.getD k #[])[if em k then 0 else 4]?).getD undef=_
          rw [List.getD_eq_getElem?_getD,hjc.out,he]
          exact congrArg (fun o=>Option.getD o undef) hj0
        have hin1:Hid (em k=false→inV (.slice A0 n0 c0) jobs em (k+1) = .slice A3 n3 c3):=fun he=>by
          show ((jobs.getD k #[])[if em k then 0 else 4]?).getD undef=_
          rw [List.getD_eq_getElem?_getD,hjc.out,he]
          exact congrArg (fun o=>Option.getD o undef) h4'
        gi_wp2
        go_upto_region 7 with fail
        apply wp_region_lit
        refine wpList_load_row rfl 91 (.tmp 7) rfl w1.heap.size rfl 91 X (0,0) _ BX3 Tryz.underlying91 rfl (by rw [hXs];exact shown_info) ?_
        have q:=pa_bare_ X (em k) W3 hl4
        clear hl4 hl3 hX3 BX3 hXs h4' hj0
        have i2:IntKind.i64.wrap ((k:Int)+1)=(k:Int)+1:=by rw [IntKind.wrap_i64];omega
        go_wp2_with fail
        (with_reducible refine q.mono ?_)
        rintro e w4 ⟨rfl,b4⟩
        clear q
        have y0':=(b4.cell (p:=⟨wr.heap.size,0,none⟩) BJ3.lt).trans y0
        have Bc4:=Bc3.below b4 Bc3.lt
        have Br4:=Br3.below b4 Br3.lt
        have Bg4:=Bg3.below b4 Bg3.lt
        have hBW3:B≤W3.heap.size:=by omega
        have K4:=K3.below (b4.mono hBW3)
        have J4:=J3.below (b4.mono hBW3)
        have hs4:=Nat.le_trans hs3 b4.size
        have hJ4:=hJ.1 _ _ _ none hJ3 (grownBy_below b4 none) (by intro r e;cases e)
        clear Bc3 Br3 Bg3 K3 J3 hs3 hJ3 BJ3 y0 y4 b4
        cases hem:em k
        · have hv:=hin1.out hem
          clear hin0 hin1 hem
          go_wp2_with fail
          exact ⟨⟨k+1,by omega,by go_num,hv.symm,Bc4,Br4,Bg4,K4,J4,hs4,hJ4⟩,by simp [intOf];omega⟩
        · have hv:=hin0.out hem
          clear hin0 hin1 hem
          go_wp2_with fail
          exact ⟨⟨k+1,by omega,by go_num,hv.symm,Bc4,Br4,Bg4,K4,J4,hs4,hJ4⟩,by simp [intOf];omega⟩
      · gi_wp2
        go_wp2_with fail
        refine bodyPost_ret (results_none rfl _ _ _) rfl ?_
        exact ⟨⟨_,rfl⟩,.inr ⟨_,⟨k,hlt,rfl⟩,hJx3⟩⟩
    · have:k=nj:=by omega
      subst this
      gi_wp2
      go_end0
      exact ⟨⟨_,rfl⟩,.inl ⟨_,rfl,hJ1⟩⟩
end Go.Proofs.YtgkpomdegomgiaaGreatDoor
