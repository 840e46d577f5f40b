/- Iterators that hand on what lies in blocks of their own making: the contract says what the handed-on value reads as at that moment. -/
import Derived.Test.YtoeobcmmafncmaaGreatDoorSag
import Derived.Test.YtoeobcmmafncmaaGreatDoorSbc
import Derived.Test.YtoeobcmmafncmaaGreatDoorSaq
import Derived.Test.YtoeobcmmafncmaaGreatDoorSap
set_option maxRecDepth 1000000
set_option maxHeartbeats 16000000
namespace Go.Proofs.YtoeobcmmafncmaaGreatDoor
open Go.RowKit
def SeqG {α:Type} (n:Nat) (P:Program) (g:Nat) (lb:Array Value) (encs:α→Array Value) (Kp:World→World→Prop) (S Sp:List α→Prop) (N:Nat) (w:World) (G:List α→α→World→Prop):Prop :=
 ∀ (l:Nat) (J Jx:List α→World→Prop) (W:World),Below w.heap.size w W→AbidesFrom W.heap.size J→AbidesFrom W.heap.size Jx →
  (∀ pre x W1,J pre W1→G pre x W1→pre.length<N→YieldAt Fence.wide (n - 1) P l (encs x) W1 fun e W' =>
   (e = .returned (.bool true)∧J (pre++[x]) W'∧Kp W1 W')∨(e = .returned (.bool false)∧Jx (pre++[x]) W')) →
  J [] W →
  CallsIn Fence.wide n P g (#[.func (.yield l) #[] #[]]++lb) W fun e W'=>(∃ v,e = .returned v)∧((∃ xs,S xs∧J xs W')∨(∃ pre,Sp pre∧Jx pre W'))
theorem wp_rangeFuncG {P:Program} {α:Type} {g:Operand} {ps:Array Tmp} {assign body:Code} {Q:Exit→Act→World→Prop} {a:Act} {w:World} (n:Nat)
  {gf:Nat} {lb:Array Value} (hg:a.eval g = .func (.func gf) #[] lb) (eg:∀ args w,(callFunc gf args).run P w = .ok (.enter gf args) w)
  {encs:α→Array Value} {Kp:World→World→Prop} {S Sp:List α→Prop} {N:Nat} {w0:World} {G:List α→α→World→Prop} (hseq:SeqG (n+1) P gf lb encs Kp S Sp N w0 G)
  (hKt:∀ {A B C:World},Kp A B→Kp B C→Kp A C) (hKb:∀ (W:World) (l:Nat) (o o':Obj),w.heap.size≤l→W.heap[l]?=some o→o.isCells=false→o.isWalk=false→Kp W (W.putObj l o')) (hb0:Below w0.heap.size w0 w) (hps:∀ x,(encs x).size=ps.size)
  (I:List α→World→Prop) (Im:α→Act→List α→World→Prop) (Ix:Code→List α→World→Prop) (hI:OwnFrom w.heap.size I) (hIm:∀ x a,OwnFrom w.heap.size (Im x a)) (hIx:∀ c,OwnFrom w.heap.size (Ix c)) (h0:I [] w)
  (hassign:∀ (l:Nat) (pre:List α) (x:α) (W:World),I pre W→G pre x W→pre.length<N →
   assign.wpIn (Fence.wide.inRound l) n P (Exit.then (fun a₁ W₁=>KeepsOthers W W₁∧Kp W W₁∧Im x a₁ pre W₁) (fun _ _ _=>False)) { tmps:=(ps.zip (encs x)).foldl (fun t (p,v)=>t.setIfInBounds p v) a.tmps,defers:=[] } W)
  (hbody:∀ (l:Nat) (pre:List α) (x:α) (a₁:Act) (W:World),Im x a₁ pre W→pre.length<N→body.wpIn (Fence.wide.inRound l) n P (ownPostK Kp I Ix (pre++[x]) W) a₁ W)
  (hdone:∀ (D:Nat) (xs:List α) (W:World),w.heap.size≤D→S xs→I xs W→W.heap[D]?=some (.deferred (some []))→Q .normal { a with defers:={ target := .collected D,args:=#[] }::a.defers } W)
  (hstop:∀ (D:Nat) (c:Code) (pre:List α) (W:World),w.heap.size≤D→Sp pre→Ix c pre W→W.heap[D]?=some (.deferred (some []))→c.wp P Q { a with defers:={ target := .collected D,args:=#[] }::a.defers } W) :
  (Code.rangeFunc g ps assign body).wp P Q a w:=by
 refine (wpIn_wide (n:=n+2)).1 (wpIn_rangeFunc ?_)
 intro fn _
 obtain ⟨rec,hrec⟩:∃ rec:LoopState→Option Code→Loop,rec=fun st pe=>{ state:=st,pending:=pe,fn,tmps:=a.tmps,params:=ps,assign,body,defers:=w.heap.size }:=⟨_,rfl⟩
 obtain ⟨W1,hW1⟩:∃ W1,(w.alloc (.deferred (some []))).alloc (.loop (rec .ready none))=W1:=⟨_,rfl⟩
 have hL1:W1.heap[w.heap.size+1]?=some (.loop (rec .ready none)):=by
  rw [←hW1];have:=World.alloc_heap_new (w.alloc (.deferred (some []))) (.loop (rec .ready none));rwa [World.size_alloc] at this
 have hK1:W1.heap[w.heap.size]?=some (.deferred (some [])):=by
  rw [←hW1];exact (Below.heap_alloc _ _ _ (by simp)).trans (World.alloc_heap_new w _)
 have hI1:I [] W1:=by rw [←hW1];exact hI.alloc _ (hI.alloc _ h0)
 have hb1:Below w0.heap.size w0 W1:=by
  rw [←hW1];exact hb0.trans ((((Below.refl _ w).alloc (Nat.le_refl _) _).alloc (by simp) _).mono hb0.size)
 refine ⟨w.heap.size+1,[{ target := .collected w.heap.size,args:=#[] }],W1,{ target := .fn (.func gf) lb,args:=#[.func (.yield (w.heap.size+1)) #[] #[]] },W1,gf,
  #[.func (.yield (w.heap.size+1)) #[] #[]]++lb,W1,?_,?_,?_,?_,fun _=>by omega,?_⟩
 ·rw [←hW1,hrec];exact run_enterLoop_outer _ _ _ _ _
 ·simp only [resolve,hg]
  simp [go_sem]
 ·intro f' _;trivial
 ·simp [invoke,go_sem,eg]
 ·have hnw:∀ {A B:World} {row:Option Nat},(∀ r,row=some r→W1.heap.size≤r∧∃ o:Obj,A.heap[r]?=some o∧o.isWalk=true)→(∀ r,row=some r→w.heap.size≤r∧∃ o:Obj,A.heap[r]?=some o∧o.isCells=false) :=
   fun hr r e=>by obtain ⟨hB,o,ho,hw⟩:=hr r e;exact ⟨by rw [←hW1] at hB;simp at hB;omega,o,ho,Obj.not_cells_of_walk hw⟩
  refine (hseq (w.heap.size+1)
   (fun pre W=>I pre W∧W.heap[w.heap.size+1]?=some (.loop (rec .ready none))∧W.heap[w.heap.size]?=some (.deferred (some [])))
   (fun pre W=>∃ c,Ix c pre W∧W.heap[w.heap.size+1]?=some (.loop (rec .done (some c)))∧W.heap[w.heap.size]?=some (.deferred (some [])))
   W1 hb1
   (fun s A B row hs hg' hr=>⟨hI s A B row hs.1 hg' (hnw (B:=B) hr),(grownBy_keeps hg' (fun r e=>(hr r e).2) hs.2.1 rfl).trans hs.2.1,(grownBy_keeps hg' (fun r e=>(hr r e).2) hs.2.2 rfl).trans hs.2.2⟩)
   (fun s A B row hs hg' hr=>by
    obtain ⟨c,hc,hl,hk⟩:=hs
    exact ⟨c,hIx c s A B row hc hg' (hnw (B:=B) hr),(grownBy_keeps hg' (fun r e=>(hr r e).2) hl rfl).trans hl,(grownBy_keeps hg' (fun r e=>(hr r e).2) hk rfl).trans hk⟩)
   ?_ ⟨hI1,hL1,hK1⟩).mono ?_
  ·rintro pre x W ⟨hi,hl,hk⟩ hG hlen
   have hy:=run_yield (P:=P) (args:=encs x) hl (by rw [hrec];exact hps x)
   rw [hrec] at hy
   refine ⟨fn,_,assign,body,hy,roundIn_of_wpIn trivial (wpIn_mono (hassign _ pre x W hi hG hlen) ?_)⟩
   rintro e a1 Wa hp
   cases e with
   | normal =>
    obtain ⟨hka,hkpa,hma⟩:=hp
    have hla:=hka.same _ _ hl rfl
    have hkka:=hka.same _ _ hk rfl
    have hlt:w.heap.size+1<Wa.heap.size:=(Array.getElem?_eq_some_iff.1 hla).1
    refine ⟨_,run_beginRound hla (by rw [hrec]),?_⟩
    have hl2:(Wa.putObj (w.heap.size+1) (.loop { rec .ready none with state := .busy })).heap[w.heap.size+1]?=some (.loop { rec .ready none with state := .busy }):=World.putObj_heap_same hlt
    have hk2:(Wa.putObj (w.heap.size+1) (.loop { rec .ready none with state := .busy })).heap[w.heap.size]?=some (.deferred (some [])):=(World.putObj_heap_other (by omega)).trans hkka
    have hw2:Kp W (Wa.putObj (w.heap.size+1) (.loop { rec .ready none with state := .busy })):=hKt hkpa (hKb _ _ _ _ (by omega) hla rfl rfl)
    refine wpIn_mono (hbody _ pre x a1 _ ((hIm x a1).putObj _ hma (by omega) hla rfl) hlen) ?_
    have fin:∀ (jump:Option Code) (W3:World),KeepsOthers (Wa.putObj (w.heap.size+1) (.loop { rec .ready none with state := .busy })) W3 →
      (Instr.endRound (w.heap.size+1) jump).run P W3 = .ok (.bool jump.isNone) (W3.putObj (w.heap.size+1) (.loop (rec (if jump.isNone then .ready else .done) jump))) ∧
      W3.heap[w.heap.size+1]?=some (.loop { rec .ready none with state := .busy }) ∧
      (W3.putObj (w.heap.size+1) (.loop (rec (if jump.isNone then .ready else .done) jump))).heap[w.heap.size+1]?=some (.loop (rec (if jump.isNone then .ready else .done) jump)) ∧
      (W3.putObj (w.heap.size+1) (.loop (rec (if jump.isNone then .ready else .done) jump))).heap[w.heap.size]?=some (.deferred (some [])):=fun jump W3 hk3=>by
     have hl3:=hk3.same _ _ hl2 rfl
     have:=run_endRound (P:=P) jump hl3
     rw [hrec] at this ⊢
     exact ⟨this,by rw [hrec] at hl3;exact hl3,World.putObj_heap_same (Array.getElem?_eq_some_iff.1 hl3).1,(World.putObj_heap_other (by omega)).trans (hk3.same _ _ hk2 rfl)⟩
    rintro e a3 W3 hp
    cases e with
    | normal =>
     obtain ⟨hk3,hkp3,hi3⟩:=hp
     obtain ⟨hr,hl3,hl4,hk4⟩:=fin none W3 hk3
     exact ⟨_,_,hr,.inl ⟨rfl,⟨hI.putObj _ hi3 (by omega) hl3 rfl,hl4,hk4⟩,hKt (hKt hw2 hkp3) (hKb _ _ _ _ (by omega) hl3 rfl rfl)⟩⟩
    | ret =>
     obtain ⟨hk3,hi3⟩:=hp
     obtain ⟨hr,hl3,hl4,hk4⟩:=fin (some .ret) W3 hk3
     exact ⟨_,_,hr,.inr ⟨rfl,.ret,(hIx _).putObj _ hi3 (by omega) hl3 rfl,hl4,hk4⟩⟩
    | exit id =>
     obtain ⟨hk3,hi3⟩:=hp
     obtain ⟨hr,hl3,hl4,hk4⟩:=fin (some (.exit id)) W3 hk3
     exact ⟨_,_,hr,.inr ⟨rfl,.exit id,(hIx _).putObj _ hi3 (by omega) hl3 rfl,hl4,hk4⟩⟩
    | goto t =>
     obtain ⟨hk3,hi3⟩:=hp
     obtain ⟨hr,hl3,hl4,hk4⟩:=fin (some (.goto t)) W3 hk3
     exact ⟨_,_,hr,.inr ⟨rfl,.goto t,(hIx _).putObj _ hi3 (by omega) hl3 rfl,hl4,hk4⟩⟩
    | panic ch=>exact hp.elim
    | outgrown=>exact hp.elim
   | ret=>exact hp.elim
   | exit id=>exact hp.elim
   | goto t=>exact hp.elim
   | panic ch=>exact hp.elim
   | outgrown=>exact hp.elim
  ·rintro e W2 ⟨⟨v,rfl⟩,(⟨xs,hS,hi,hl,hk⟩ | ⟨pre,hSp,c,hi,hl,hk⟩)⟩
   ·exact ⟨none,_,by have:=run_endLoop (P:=P) hl (by rw [hrec];simp);rw [hrec] at this;exact this,hdone _ xs _ (Nat.le_refl _) hS (hI.putObj _ hi (by omega) hl rfl) ((World.putObj_heap_other (by omega)).trans hk)⟩
   ·exact ⟨some c,_,by have:=run_endLoop (P:=P) hl (by rw [hrec];simp);rw [hrec] at this;exact this,wpIn_wide.2 (hstop _ c pre _ (Nat.le_refl _) hSp ((hIx c).putObj _ hi (by omega) hl rfl) ((World.putObj_heap_other (by omega)).trans hk))⟩
attribute [local go_sem] Oper.semAt_some
def TxAt (w:World) (v:Value) (t:List Nat):Prop:=∃ (g cap:Nat) (cur:Array Value),v = .slice (some ⟨g,0,none⟩) t.length cap∧Blk w g 5 cur∧t.length≤cap∧cap≤maxLen∧∀ (j:Nat) (u:Value),(byts t)[j]?=some u→cur[j]?=some u
theorem TxAt.of_own {w:World} {base:Nat} {v:Value} {t:List Nat} (h:w.ownsRow base 5 1 v t.length (byts t)) (h0:0<t.length):TxAt w v t:=by
 rcases h.2 with ⟨_,h2⟩ | ⟨g,cap,cur,hv,hb,hg,hnc,hcm,hcs,htk⟩
 ·omega
 ·refine ⟨g,cap,cur,hv,hg,hnc,hcm,fun j u hu=>?_⟩
  rw [←htk,List.getElem?_take] at hu
  split at hu
  ·simpa using hu
  ·cases hu
theorem TxAt.kept {w w':World} {v:Value} {t:List Nat} {row:Option Nat} {B:Nat} (h:TxAt w v t) (hg:w.grownBy w' row) (hr:∀ r,row=some r→B≤r∧∃ o:Obj,w.heap[r]?=some o∧o.isCells=false):TxAt w' v t:=by
 obtain ⟨g,cap,cur,hv,hB,h1⟩:=h
 exact ⟨g,cap,cur,hv,hB.kept hg hr,h1⟩
theorem TxAt.sl {w:World} {v:Value} {t:List Nat} (h:TxAt w v t):Sl w w.heap.size 1 v t.length (byts t):=by
 obtain ⟨g,cap,cur,rfl,hB,h1,h2,h3⟩:=h
 exact ⟨_,_,rfl,⟨by rw [byts_length,Nat.mul_one],fun _=>⟨g,0,rfl,hB.lt,fun j u hu=>by rw [Nat.zero_add,hB.cell];exact h3 j u hu⟩⟩,h1,h2,fun h=>by cases h⟩
theorem TxAt.below {w w':World} {v:Value} {t:List Nat} (h:TxAt w v t) (hb:Below w.heap.size w w'):TxAt w' v t:=by
 obtain ⟨g,cap,cur,hv,hB,h1⟩:=h
 exact ⟨g,cap,cur,hv,hB.below hb hB.lt,h1⟩
theorem encN_pos (l:List It):0<(encN l).length:=by unfold encN;simp
def Ltr.ok (x:Ltr):Prop:=(inI x.a0∧inI x.b0)∧(inI x.a1∧inI x.b1)∧(inI x.a2∧inI x.b2)
theorem leaves_any (A:Option Addr) (n c:Nat) (w:World) :
  Calls Tryz.prog 63 #[.slice A n c] w fun r w' =>
   r = .returned (.func (.func 101) #[] #[.pointer (some ⟨w.heap.size,0,none⟩)])∧w'=w.alloc (.cells #[.slice A n c] 25):=by
 have hmf:∀ (fn:Fn) (first cap:Array Value) (w:World),(Instr.makeFunc fn first cap).run Tryz.prog w = .ok (.func fn first cap) w:=fun _ _ _ _=>rfl
 go_enter Tryz.func63,Tryz.ntmps63
 go_wp2
 go_ret
 exact ⟨rfl,rfl⟩
theorem leaves_stops (bp B:Nat) (K:Nat→Prop) (hbp:K bp) (A:Option Addr) (c:Nat) (l:List Ltr) (hok:∀ x∈l,x.ok) (w:World) (hKB:∀ k,k<B→K k) (hB:Blk w bp 25 #[.slice A l.length c])
  (hA:Rd w B 6 A l.length (l.flatMap Ltr.cl)) (hBw:B≤w.heap.size) (hn:l.length≤1000) :
  SeqG (2+1) Tryz.prog 101 #[.pointer (some ⟨bp,0,none⟩)] (fun v:Value=>#[v]) (KeepsC K) (fun ys=>ys.length=l.length) (fun _=>True) l.length w (fun pre v W=>∃ t,(l.map Ltr.txt)[pre.length]?=some t∧TxAt W v t):=by
 intro L J Jx W hW hJ _ hY h0
 replace hB:=hB.below hW hB.lt
 replace hA:=hA.below (hW.mono hBw)
 have hBW:B≤W.heap.size:=Nat.le_trans hBw hW.size
 clear hW
 refine callsIn_of_wp Tryz.func101 rfl trivial ?_ rfl
 simp only [Tryz.ntmps101,List.size_toArray,List.length_cons,List.length_nil,Nat.reduceAdd,Nat.reduceSub,Array.replicate_succ,Array.replicate_zero,List.push_toArray,List.append_toArray,List.nil_append,List.cons_append]
 have c1:W.cell? ⟨bp,0,none⟩=some (.slice A l.length c):=hB.cell 0
 gi_wp2
 gi_loopw [7] (fun i wr=>∃ (pre:List Value) (k:Nat),i = .int .i64 k∧Hid (pre.length=k)∧k≤l.length∧W.heap.size≤wr.heap.size∧Blk wr bp 25 #[.slice A l.length c]∧Rd wr B 6 A l.length (l.flatMap Ltr.cl)∧J pre wr) (fun i _=>l.length - (intOf i).toNat)
 case atStart=>exact ⟨[],0,rfl,Lib.hid rfl,Nat.zero_le _,Nat.le_refl _,hB,hA,h0⟩
 case round =>
  clear hB h0 c1 hA
  obtain ⟨pre,k,rfl,hpk,hk,hsz,hB,hA,hJ1⟩:=hrel
  by_cases hlt:k<l.length
  ·obtain ⟨x,hx⟩:∃ x,Hid (l[k]?=some x):=⟨_,Lib.hid (List.getElem?_eq_getElem hlt)⟩
   have hxo:=hok x (List.mem_of_getElem? hx.out)
   obtain ⟨b,off,rfl,hbb,k0,k1,k2,k3,k4,k5⟩:=Ltr_at hA hlt hx.out
   refine wpIn_wide.2 ?_
   go_upto_region 3 with fail
   have BS:=Blk.new wr 70 #[.int .i64 x.a0,.int .i64 x.b0,.int .i64 x.a1,.int .i64 x.b1,.int .i64 x.a2,.int .i64 x.b2] _ rfl
   have hb1:=bAl (bRefl wr) (.cells #[.int .i64 x.a0,.int .i64 x.b0,.int .i64 x.a1,.int .i64 x.b1,.int .i64 x.a2,.int .i64 x.b2] 70)
   clear k0 k1 k2 k3 k4 k5
   generalize wr.alloc (.cells #[.int .i64 x.a0,.int .i64 x.b0,.int .i64 x.a1,.int .i64 x.b1,.int .i64 x.a2,.int .i64 x.b2] 70)=w2 at *
   obtain ⟨k0,k1,k2,k3,k4,k5⟩:=BS.six
   have q:=ho_text (some ⟨w2.heap.size,0,none⟩) 3 3 [.ciph x.a0 x.b0,.ciph x.a1 x.b1,.ciph x.a2 x.b2] (w2.alloc (.cells #[.iface 68 (.agg #[.int .i64 x.a0,.int .i64 x.b0]),.iface 68 (.agg #[.int .i64 x.a1,.int .i64 x.b1]),.iface 68 (.agg #[.int .i64 x.a2,.int .i64 x.b2])] 20))
    (Rd.new w2 _ _ 1 3 _ rfl rfl) (by intro y hy;simp at hy;rcases hy with rfl | rfl | rfl;exact hxo.1;exact hxo.2.1;exact hxo.2.2) (by decide)
   have hb2:=bAl hb1 (.cells #[.iface 68 (.agg #[.int .i64 x.a0,.int .i64 x.b0]),.iface 68 (.agg #[.int .i64 x.a1,.int .i64 x.b1]),.iface 68 (.agg #[.int .i64 x.a2,.int .i64 x.b2])] 20)
   have htx:Hid (encN (List.flatMap Tx.its [.ciph x.a0 x.b0,.ciph x.a1 x.b1,.ciph x.a2 x.b2])=x.txt):=Lib.hid rfl
   generalize encN (List.flatMap Tx.its [.ciph x.a0 x.b0,.ciph x.a1 x.b1,.ciph x.a2 x.b2])=T at *
   refine (wpIn_wide (n:=3)).1 ?_
   gi_wp2
   refine ⟨trivial,?_⟩
   (with_reducible refine (callsIn_wide.2 q).mono ?_)
   rintro e w5 ⟨v5,rfl,b5,hown5⟩
   have hb5:=bCall hb2 b5
   have hT:=TxAt.of_own hown5 (by rw [htx.out];exact encN_pos _)
   rw [htx.out] at hT
   have hJ5:=hJ _ _ _ none hJ1 (grownBy_below hb5 none) (by intro r e;cases e)
   have hB5:=hB.below hb5 hB.lt
   have hA5:=hA.below (hb5.mono (by omega))
   have hsz5:=Nat.le_trans hsz hb5.size
   obtain ⟨fn,tmps,assign,body,hy,hR⟩:=hY pre v5 w5 hJ5 ⟨x.txt,by rw [hpk.out,List.getElem?_map,hx.out];rfl,hT⟩ (by rw [hpk.out];exact hlt)
   clear q k0 k1 k2 k3 k4 k5 hown5 hY
   gi_wp2
   refine hR.mono ?_
   rintro e W3 (⟨rfl,hJ3,hk3⟩ | ⟨rfl,hJx3⟩)
   ·have hB3:=hk3.blk hbp hB5
    have hA3:=hk3.rd hKB hA5
    have hs3:=Nat.le_trans hsz5 hk3.1
    clear hy hB5 hA5 hB hA
    gi_wp2
    go_wp2_with fail
    exact ⟨⟨pre++[v5],k+1,by go_num,by show _=_;rw [List.length_append,hpk.out];rfl,by omega,hs3,hB3,hA3,hJ3⟩,by simp [intOf];omega⟩
   ·gi_wp2
    go_wp2_with fail
    refine bodyPost_ret (results_none rfl _ _ _) rfl ?_
    exact ⟨⟨_,rfl⟩,.inr ⟨_,trivial,hJx3⟩⟩
  ·gi_wp2
   go_end0
   exact ⟨⟨_,rfl⟩,.inl ⟨pre,by have:=hpk.out;omega,hJ1⟩⟩
end Go.Proofs.YtoeobcmmafncmaaGreatDoor
