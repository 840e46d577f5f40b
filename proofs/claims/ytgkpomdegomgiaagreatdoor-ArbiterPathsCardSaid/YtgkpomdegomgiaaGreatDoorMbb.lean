/- Iterators that hand on what lies in blocks of their own making: the contract says what the handed-on value reads as at that moment. -/
import Derived.Test.YtgkpomdegomgiaaGreatDoorMag
import Derived.Test.YtgkpomdegomgiaaGreatDoorMay
import Derived.Test.YtgkpomdegomgiaaGreatDoorMba
import Derived.Test.YtgkpomdegomgiaaGreatDoorMaz
import Derived.RangeFuncBox
import Derived.OwnWalkIn
set_option maxRecDepth 1000000
set_option maxHeartbeats 16000000
namespace Go.Proofs.YtgkpomdegomgiaaGreatDoor
open Go.RowKit
def SeqG {α:Type} (n:Nat) (P:Program) (g:Nat) (lb:Array Value) (encs:α→Array Value) (Kp:World→World→Prop) (S Sp:List α→Prop) (N:Nat) (w:World) (G:List α→α→World→Prop):Prop :=
  ∀ (l:Nat) (J Jx:List α→World→Prop) (W:World),Below w.heap.size w W→AbidesFrom W.heap.size J→AbidesFrom W.heap.size Jx →
    (∀ pre x W1,J pre W1→G pre x W1→pre.length<N→YieldAt Fence.wide (n - 1) P l (encs x) W1 fun e W' =>
      (e = .returned (.bool true)∧J (pre++[x]) W'∧Kp W1 W')∨(e = .returned (.bool false)∧Jx (pre++[x]) W')) →
    J [] W →
    CallsIn Fence.wide n P g (#[.func (.yield l) #[] #[]]++lb) W fun e W'=>(∃ v,e = .returned v)∧((∃ xs,S xs∧J xs W')∨(∃ pre,Sp pre∧Jx pre W'))
theorem wp_rangeFuncG {P:Program} {α:Type} {g:Operand} {ps:Array Tmp} {assign body:Code} {Q:Exit→Act→World→Prop} {a:Act} {w:World} (n:Nat)
    {gf:Nat} {lb:Array Value} (hg:a.eval g = .func (.func gf) #[] lb) (eg:∀ args w,(callFunc gf args).run P w = .ok (.enter gf args) w)
    {encs:α→Array Value} {Kp:World→World→Prop} {S Sp:List α→Prop} {N:Nat} {w0:World} {G:List α→α→World→Prop} (hseq:SeqG (n+1) P gf lb encs Kp S Sp N w0 G)
    (hKt:∀ {A B C:World},Kp A B→Kp B C→Kp A C) (hKb:∀ (W:World) (l:Nat) (o o':Obj),w.heap.size≤l→W.heap[l]?=some o→o.isCells=false→o.isWalk=false→Kp W (W.putObj l o')) (hb0:Below w0.heap.size w0 w) (hps:∀ x,(encs x).size=ps.size)
    (I:List α→World→Prop) (Im:α→Act→List α→World→Prop) (Ix:Code→List α→World→Prop) (hI:OwnFrom w.heap.size I) (hIm:∀ x a,OwnFrom w.heap.size (Im x a)) (hIx:∀ c,OwnFrom w.heap.size (Ix c)) (h0:I [] w)
    (hassign:∀ (l:Nat) (pre:List α) (x:α) (W:World),I pre W→G pre x W→pre.length<N →
      assign.wpIn (Fence.wide.inRound l) n P (Exit.then (fun a₁ W₁=>KeepsOthers W W₁∧Kp W W₁∧Im x a₁ pre W₁) (fun _ _ _=>False)) { tmps:=(ps.zip (encs x)).foldl (fun t (p,v)=>t.setIfInBounds p v) a.tmps,defers:=[] } W)
    (hbody:∀ (l:Nat) (pre:List α) (x:α) (a₁:Act) (W:World),Im x a₁ pre W→pre.length<N→body.wpIn (Fence.wide.inRound l) n P (ownPostK Kp I Ix (pre++[x]) W) a₁ W)
    (hdone:∀ (D:Nat) (xs:List α) (W:World),w.heap.size≤D→S xs→I xs W→W.heap[D]?=some (.deferred (some []))→Q .normal { a with defers:={ target := .collected D,args:=#[] }::a.defers } W)
    (hstop:∀ (D:Nat) (c:Code) (pre:List α) (W:World),w.heap.size≤D→Sp pre→Ix c pre W→W.heap[D]?=some (.deferred (some []))→c.wp P Q { a with defers:={ target := .collected D,args:=#[] }::a.defers } W) :
    (Code.rangeFunc g ps assign body).wp P Q a w:=by
  refine (wpIn_wide (n:=n+2)).1 (wpIn_rangeFunc ?_)
  intro fn _
  obtain ⟨rec,hrec⟩:∃ rec:LoopState→Option Code→Loop,rec=fun st pe=>{ state:=st,pending:=pe,fn,tmps:=a.tmps,params:=ps,assign,body,defers:=w.heap.size }:=⟨_,rfl⟩
  obtain ⟨W1,hW1⟩:∃ W1,(w.alloc (.deferred (some []))).alloc (.loop (rec .ready none))=W1:=⟨_,rfl⟩
  have hL1:W1.heap[w.heap.size+1]?=some (.loop (rec .ready none)):=by
    rw [←hW1];have:=World.alloc_heap_new (w.alloc (.deferred (some []))) (.loop (rec .ready none));rwa [World.size_alloc] at this
  have hK1:W1.heap[w.heap.size]?=some (.deferred (some [])):=by
    rw [←hW1];exact (Below.heap_alloc _ _ _ (by simp)).trans (World.alloc_heap_new w _)
  have hI1:I [] W1:=by rw [←hW1];exact hI.alloc _ (hI.alloc _ h0)
  have hb1:Below w0.heap.size w0 W1:=by
    rw [←hW1];exact hb0.trans ((((Below.refl _ w).alloc (Nat.le_refl _) _).alloc (by simp) _).mono hb0.size)
  refine ⟨w.heap.size+1,[{ target := .collected w.heap.size,args:=#[] }],W1,{ target := .fn (.func gf) lb,args:=#[.func (.yield (w.heap.size+1)) #[] #[]] },W1,gf,
    #[.func (.yield (w.heap.size+1)) #[] #[]]++lb,W1,?_,?_,?_,?_,fun _=>by omega,?_⟩
  · rw [←hW1,hrec];exact run_enterLoop_outer _ _ _ _ _
  · simp only [resolve,hg]
    simp [go_sem]
  · intro f' _;trivial
  · simp [invoke,go_sem,eg]
  · have hnw:∀ {A B:World} {row:Option Nat},(∀ r,row=some r→W1.heap.size≤r∧∃ o:Obj,A.heap[r]?=some o∧o.isWalk=true)→(∀ r,row=some r→w.heap.size≤r∧∃ o:Obj,A.heap[r]?=some o∧o.isCells=false) :=
      fun hr r e=>by obtain ⟨hB,o,ho,hw⟩:=hr r e;exact ⟨by rw [←hW1] at hB;simp at hB;omega,o,ho,Obj.not_cells_of_walk hw⟩
    refine (hseq (w.heap.size+1)
      (fun pre W=>I pre W∧W.heap[w.heap.size+1]?=some (.loop (rec .ready none))∧W.heap[w.heap.size]?=some (.deferred (some [])))
      (fun pre W=>∃ c,Ix c pre W∧W.heap[w.heap.size+1]?=some (.loop (rec .done (some c)))∧W.heap[w.heap.size]?=some (.deferred (some [])))
      W1 hb1
      (fun s A B row hs hg' hr=>⟨hI s A B row hs.1 hg' (hnw (B:=B) hr),(grownBy_keeps hg' (fun r e=>(hr r e).2) hs.2.1 rfl).trans hs.2.1,(grownBy_keeps hg' (fun r e=>(hr r e).2) hs.2.2 rfl).trans hs.2.2⟩)
      (fun s A B row hs hg' hr=>by
        obtain ⟨c,hc,hl,hk⟩:=hs
        exact ⟨c,hIx c s A B row hc hg' (hnw (B:=B) hr),(grownBy_keeps hg' (fun r e=>(hr r e).2) hl rfl).trans hl,(grownBy_keeps hg' (fun r e=>(hr r e).2) hk rfl).trans hk⟩)
      ?_ ⟨hI1,hL1,hK1⟩).mono ?_
    · rintro pre x W ⟨hi,hl,hk⟩ hG hlen
      have hy:=run_yield (P:=P) (args:=encs x) hl (by rw [hrec];exact hps x)
      rw [hrec] at hy
      refine ⟨fn,_,assign,body,hy,roundIn_of_wpIn trivial (wpIn_mono (hassign _ pre x W hi hG hlen) ?_)⟩
      rintro e a1 Wa hp
      cases e with
      | normal =>
        obtain ⟨hka,hkpa,hma⟩:=hp
        have hla:=hka.same _ _ hl rfl
        have hkka:=hka.same _ _ hk rfl
        have hlt:w.heap.size+1<Wa.heap.size:=(Array.getElem?_eq_some_iff.1 hla).1
        refine ⟨_,run_beginRound hla (by rw [hrec]),?_⟩
        have hl2:(Wa.putObj (w.heap.size+1) (.loop { rec .ready none with state := .busy })).heap[w.heap.size+1]?=some (.loop { rec .ready none with state := .busy }):=World.putObj_heap_same hlt
        have hk2:(Wa.putObj (w.heap.size+1) (.loop { rec .ready none with state := .busy })).heap[w.heap.size]?=some (.deferred (some [])):=(World.putObj_heap_other (by omega)).trans hkka
        have hw2:Kp W (Wa.putObj (w.heap.size+1) (.loop { rec .ready none with state := .busy })):=hKt hkpa (hKb _ _ _ _ (by omega) hla rfl rfl)
        refine wpIn_mono (hbody _ pre x a1 _ ((hIm x a1).putObj _ hma (by omega) hla rfl) hlen) ?_
        have fin:∀ (jump:Option Code) (W3:World),KeepsOthers (Wa.putObj (w.heap.size+1) (.loop { rec .ready none with state := .busy })) W3 →
            (Instr.endRound (w.heap.size+1) jump).run P W3 = .ok (.bool jump.isNone) (W3.putObj (w.heap.size+1) (.loop (rec (if jump.isNone then .ready else .done) jump))) ∧
            W3.heap[w.heap.size+1]?=some (.loop { rec .ready none with state := .busy }) ∧
            (W3.putObj (w.heap.size+1) (.loop (rec (if jump.isNone then .ready else .done) jump))).heap[w.heap.size+1]?=some (.loop (rec (if jump.isNone then .ready else .done) jump)) ∧
            (W3.putObj (w.heap.size+1) (.loop (rec (if jump.isNone then .ready else .done) jump))).heap[w.heap.size]?=some (.deferred (some [])):=fun jump W3 hk3=>by
          have hl3:=hk3.same _ _ hl2 rfl
          have:=run_endRound (P:=P) jump hl3
          rw [hrec] at this ⊢
          exact ⟨this,by rw [hrec] at hl3;exact hl3,World.putObj_heap_same (Array.getElem?_eq_some_iff.1 hl3).1,(World.putObj_heap_other (by omega)).trans (hk3.same _ _ hk2 rfl)⟩
        rintro e a3 W3 hp
        cases e with
        | normal =>
          obtain ⟨hk3,hkp3,hi3⟩:=hp
          obtain ⟨hr,hl3,hl4,hk4⟩:=fin none W3 hk3
          exact ⟨_,_,hr,.inl ⟨rfl,⟨hI.putObj _ hi3 (by omega) hl3 rfl,hl4,hk4⟩,hKt (hKt hw2 hkp3) (hKb _ _ _ _ (by omega) hl3 rfl rfl)⟩⟩
        | ret =>
          obtain ⟨hk3,hi3⟩:=hp
          obtain ⟨hr,hl3,hl4,hk4⟩:=fin (some .ret) W3 hk3
          exact ⟨_,_,hr,.inr ⟨rfl,.ret,(hIx _).putObj _ hi3 (by omega) hl3 rfl,hl4,hk4⟩⟩
        | exit id =>
          obtain ⟨hk3,hi3⟩:=hp
          obtain ⟨hr,hl3,hl4,hk4⟩:=fin (some (.exit id)) W3 hk3
          exact ⟨_,_,hr,.inr ⟨rfl,.exit id,(hIx _).putObj _ hi3 (by omega) hl3 rfl,hl4,hk4⟩⟩
        | goto t =>
          obtain ⟨hk3,hi3⟩:=hp
          obtain ⟨hr,hl3,hl4,hk4⟩:=fin (some (.goto t)) W3 hk3
          exact ⟨_,_,hr,.inr ⟨rfl,.goto t,(hIx _).putObj _ hi3 (by omega) hl3 rfl,hl4,hk4⟩⟩
        | panic ch=>exact hp.elim
        | outgrown=>exact hp.elim
      | ret=>exact hp.elim
      | exit id=>exact hp.elim
      | goto t=>exact hp.elim
      | panic ch=>exact hp.elim
      | outgrown=>exact hp.elim
    · rintro e W2 ⟨⟨v,rfl⟩,(⟨xs,hS,hi,hl,hk⟩ | ⟨pre,hSp,c,hi,hl,hk⟩)⟩
      · exact ⟨none,_,by have:=run_endLoop (P:=P) hl (by rw [hrec];simp);rw [hrec] at this;exact this,hdone _ xs _ (Nat.le_refl _) hS (hI.putObj _ hi (by omega) hl rfl) ((World.putObj_heap_other (by omega)).trans hk)⟩
      · exact ⟨some c,_,by have:=run_endLoop (P:=P) hl (by rw [hrec];simp);rw [hrec] at this;exact this,wpIn_wide.2 (hstop _ c pre _ (Nat.le_refl _) hSp ((hIx c).putObj _ hi (by omega) hl rfl) ((World.putObj_heap_other (by omega)).trans hk))⟩
attribute [local go_sem] Oper.semAt_some
def TxAt (w:World) (v:Value) (t:List Nat):Prop:=∃ (g cap:Nat) (cur:Array Value),v = .slice (some ⟨g,0,none⟩) t.length cap∧Blk w g 5 cur∧t.length≤cap∧cap≤maxLen∧∀ (j:Nat) (u:Value),(byts t)[j]?=some u→cur[j]?=some u
theorem TxAt.of_own {w:World} {base:Nat} {v:Value} {t:List Nat} (h:w.ownsRow base 5 1 v t.length (byts t)) (h0:0<t.length):TxAt w v t:=by
  rcases h.2 with ⟨_,h2⟩ | ⟨g,cap,cur,hv,hb,hg,hnc,hcm,hcs,htk⟩
  · omega
  · refine ⟨g,cap,cur,hv,hg,hnc,hcm,fun j u hu=>?_⟩
    rw [←htk,List.getElem?_take] at hu
    split at hu
    · simpa using hu
    · cases hu
theorem TxAt.kept {w w':World} {v:Value} {t:List Nat} {row:Option Nat} {B:Nat} (h:TxAt w v t) (hg:w.grownBy w' row) (hr:∀ r,row=some r→B≤r∧∃ o:Obj,w.heap[r]?=some o∧o.isCells=false):TxAt w' v t:=by
  obtain ⟨g,cap,cur,hv,hB,h1⟩:=h
  exact ⟨g,cap,cur,hv,hB.kept hg hr,h1⟩
theorem TxAt.sl {w:World} {v:Value} {t:List Nat} (h:TxAt w v t):Sl w w.heap.size 1 v t.length (byts t):=by
  obtain ⟨g,cap,cur,rfl,hB,h1,h2,h3⟩:=h
  exact ⟨_,_,rfl,⟨by rw [byts_length,Nat.mul_one],fun _=>⟨g,0,rfl,hB.lt,fun j u hu=>by rw [Nat.zero_add,hB.cell];exact h3 j u hu⟩⟩,h1,h2,fun h=>by cases h⟩
theorem TxAt.below {w w':World} {v:Value} {t:List Nat} (h:TxAt w v t) (hb:Below w.heap.size w w'):TxAt w' v t:=by
  obtain ⟨g,cap,cur,hv,hB,h1⟩:=h
  exact ⟨g,cap,cur,hv,hB.below hb hB.lt,h1⟩
theorem encN_pos (l:List It):0<(encN l).length:=by unfold encN;simp
def Ltr.ok (x:Ltr):Prop:=(inI x.a0∧inI x.b0)∧(inI x.a1∧inI x.b1)∧(inI x.a2∧inI x.b2)
theorem leaves_any (A:Option Addr) (n c:Nat) (w:World) :
    Calls Tryz.prog 107 #[.slice A n c] w fun r w' =>
      r = .returned (.func (.func 139) #[] #[.pointer (some ⟨w.heap.size,0,none⟩)])∧w'=w.alloc (.cells #[.slice A n c] 25):=by
  have hmf:∀ (fn:Fn) (first cap:Array Value) (w:World),(Instr.makeFunc fn first cap).run Tryz.prog w = .ok (.func fn first cap) w:=fun _ _ _ _=>rfl
  go_enter Tryz.func107,Tryz.ntmps107
  go_wp2
  go_ret
  exact ⟨rfl,rfl⟩
theorem leaves_stops (bp B:Nat) (K:Nat→Prop) (hbp:K bp) (A:Option Addr) (c:Nat) (l:List Ltr) (hok:∀ x∈l,x.ok) (w:World) (hKB:∀ k,k<B→K k) (hB:Blk w bp 25 #[.slice A l.length c])
    (hA:Rd w B 6 A l.length (l.flatMap Ltr.cl)) (hBw:B≤w.heap.size) (hn:l.length≤1000) :
    SeqG (2+1) Tryz.prog 139 #[.pointer (some ⟨bp,0,none⟩)] (fun v:Value=>#[v]) (KeepsC K) (fun ys=>ys.length=l.length) (fun _=>True) l.length w (fun pre v W=>∃ t,(l.map Ltr.txt)[pre.length]?=some t∧TxAt W v t):=by
  intro L J Jx W hW hJ _ hY h0
  replace hB:=hB.below hW hB.lt
  replace hA:=hA.below (hW.mono hBw)
  have hBW:B≤W.heap.size:=Nat.le_trans hBw hW.size
  clear hW
  refine callsIn_of_wp Tryz.func139 rfl trivial ?_ rfl
  simp only [Tryz.ntmps139,List.size_toArray,List.length_cons,List.length_nil,Nat.reduceAdd,Nat.reduceSub,Array.replicate_succ,Array.replicate_zero,List.push_toArray,List.append_toArray,List.nil_append,List.cons_append]
  have c1:W.cell? ⟨bp,0,none⟩=some (.slice A l.length c):=hB.cell 0
  gi_wp2
  gi_loopw [7] (fun i wr=>∃ (pre:List Value) (k:Nat),i = .int .i64 k∧Hid (pre.length=k)∧k≤l.length∧W.heap.size≤wr.heap.size∧Blk wr bp 25 #[.slice A l.length c]∧Rd wr B 6 A l.length (l.flatMap Ltr.cl)∧J pre wr) (fun i _=>l.length - (intOf i).toNat)
  case atStart=>exact ⟨[],0,rfl,Lib.hid rfl,Nat.zero_le _,Nat.le_refl _,hB,hA,h0⟩
  case round =>
    clear hB h0 c1 hA
    obtain ⟨pre,k,rfl,hpk,hk,hsz,hB,hA,hJ1⟩:=hrel
    by_cases hlt:k<l.length
    · obtain ⟨x,hx⟩:∃ x,Hid (l[k]?=some x):=⟨_,Lib.hid (List.getElem?_eq_getElem hlt)⟩
      have hxo:=hok x (List.mem_of_getElem? hx.out)
      obtain ⟨b,off,rfl,hbb,k0,k1,k2,k3,k4,k5⟩:=Ltr_at hA hlt hx.out
      refine wpIn_wide.2 ?_
      go_upto_region 3 with fail
      have BS:=Blk.new wr 70 #[.int .i64 x.a0,.int .i64 x.b0,.int .i64 x.a1,.int .i64 x.b1,.int .i64 x.a2,.int .i64 x.b2] _ rfl
      have hb1:=bAl (bRefl wr) (.cells #[.int .i64 x.a0,.int .i64 x.b0,.int .i64 x.a1,.int .i64 x.b1,.int .i64 x.a2,.int .i64 x.b2] 70)
      clear k0 k1 k2 k3 k4 k5
      generalize wr.alloc (.cells #[.int .i64 x.a0,.int .i64 x.b0,.int .i64 x.a1,.int .i64 x.b1,.int .i64 x.a2,.int .i64 x.b2] 70)=w2 at *
      obtain ⟨k0,k1,k2,k3,k4,k5⟩:=BS.six
      have q:=ho_text (some ⟨w2.heap.size,0,none⟩) 3 3 [.ciph x.a0 x.b0,.ciph x.a1 x.b1,.ciph x.a2 x.b2] (w2.alloc (.cells #[.iface 68 (.agg #[.int .i64 x.a0,.int .i64 x.b0]),.iface 68 (.agg #[.int .i64 x.a1,.int .i64 x.b1]),.iface 68 (.agg #[.int .i64 x.a2,.int .i64 x.b2])] 20))
        (Rd.new w2 _ _ 1 3 _ rfl rfl) (by intro y hy;simp at hy;rcases hy with rfl | rfl | rfl;exact hxo.1;exact hxo.2.1;exact hxo.2.2) (by decide)
      have hb2:=bAl hb1 (.cells #[.iface 68 (.agg #[.int .i64 x.a0,.int .i64 x.b0]),.iface 68 (.agg #[.int .i64 x.a1,.int .i64 x.b1]),.iface 68 (.agg #[.int .i64 x.a2,.int .i64 x.b2])] 20)
      have htx:Hid (encN (List.flatMap Tx.its [.ciph x.a0 x.b0,.ciph x.a1 x.b1,.ciph x.a2 x.b2])=x.txt):=Lib.hid rfl
      generalize encN (List.flatMap Tx.its [.ciph x.a0 x.b0,.ciph x.a1 x.b1,.ciph x.a2 x.b2])=T at *
      refine (wpIn_wide (n:=3)).1 ?_
      gi_wp2
      refine ⟨trivial,?_⟩
      (with_reducible refine (callsIn_wide.2 q).mono ?_)
      rintro e w5 ⟨v5,rfl,b5,hown5⟩
      have hb5:=bCall hb2 b5
      have hT:=TxAt.of_own hown5 (by rw [htx.out];exact encN_pos _)
      rw [htx.out] at hT
      have hJ5:=hJ _ _ _ none hJ1 (grownBy_below hb5 none) (by intro r e;cases e)
      have hB5:=hB.below hb5 hB.lt
      have hA5:=hA.below (hb5.mono (by omega))
      have hsz5:=Nat.le_trans hsz hb5.size
      obtain ⟨fn,tmps,assign,body,hy,hR⟩:=hY pre v5 w5 hJ5 ⟨x.txt,by rw [hpk.out,List.getElem?_map,hx.out];rfl,hT⟩ (by rw [hpk.out];exact hlt)
      clear q k0 k1 k2 k3 k4 k5 hown5 hY
      gi_wp2
      refine hR.mono ?_
      rintro e W3 (⟨rfl,hJ3,hk3⟩ | ⟨rfl,hJx3⟩)
      · have hB3:=hk3.blk hbp hB5
        have hA3:=hk3.rd hKB hA5
        have hs3:=Nat.le_trans hsz5 hk3.1
        clear hy hB5 hA5 hB hA
        gi_wp2
        go_wp2_with fail
        exact ⟨⟨pre++[v5],k+1,by go_num,by show _=_;rw [List.length_append,hpk.out];rfl,by omega,hs3,hB3,hA3,hJ3⟩,by simp [intOf];omega⟩
      · gi_wp2
        go_wp2_with fail
        refine bodyPost_ret (results_none rfl _ _ _) rfl ?_
        exact ⟨⟨_,rfl⟩,.inr ⟨_,trivial,hJx3⟩⟩
    · gi_wp2
      go_end0
      exact ⟨⟨_,rfl⟩,.inl ⟨pre,by have:=hpk.out;omega,hJ1⟩⟩
end Go.Proofs.YtgkpomdegomgiaaGreatDoor
namespace Go.Proofs.YtgkpomdegomgiaaGreatDoor
open Go.RowKit
attribute [local go_sem] Oper.semAt_some
theorem Blk.not_row {W:World} {g:Nat} {t e:TypeId} {cs:Array Value} (h:Blk W g t cs) (hte:t≠e) {base size k:Nat} {v:Value} {xs:List Value} (hr:W.ownsRow base e size v k xs):some g≠v.ownBlock:=by
  rcases hr.2 with ⟨rfl,_⟩ | ⟨g2,cap,cur,rfl,_,hgb,_⟩
  · simp [Value.ownBlock]
  · intro e2
    have e3:g=g2:=by simpa [Value.ownBlock] using e2
    subst e3
    unfold Blk at h
    rw [h] at hgb
    simp at hgb
    exact hte hgb.2
theorem TxAt.app {W w1:World} {B n₀ k:Nat} {v x:Value} {t:List Nat} {xs:List Value} {tmp:Obj} {u v':Value} (h:TxAt W x t) (hv:Blk W B 109 #[u]) (hrow:W.ownsRow n₀ 106 1 v k xs) (hgrow:(W.alloc tmp).grownBy w1 v.ownBlock):TxAt (w1.setCell ⟨B,0,none⟩ v') x t:=by
  obtain ⟨g,cap,cur,hx,hB,h1⟩:=h
  refine ⟨g,cap,cur,hx,?_,h1⟩
  have h2:Blk w1 g 5 cur:=(hgrow.block g (by simp;have:=hB.lt;omega) (hB.not_row (by decide) hrow)).trans (hB.alloc tmp)
  exact h2.far (p:=⟨B,0,none⟩) (hB.neT hv (by decide)) _
theorem KeepsC.of_below {B:Nat} {X Y:World} (h:Below B X Y):KeepsC (fun k=>k<B) X Y:=⟨h.size,fun k _ _ _ hk _=>h.block k hk⟩
theorem bytes_info:(Tryz.prog.info? 106).map (fun i=>(i.zero,i.size,i.bytes))=some (some (.slice none 0 0),1,24):=by kernel_rfl
theorem own_kept {W W':World} {base:Nat} {e:TypeId} {size:Nat} {v:Value} {k:Nat} {xs:List Value} {row:Option Nat} {B:Nat} (h:W.ownsRow base e size v k xs) (hg:W.grownBy W' row) (hr:∀ r,row=some r→B≤r∧∃ o:Obj,W.heap[r]?=some o∧o.isCells=false):W'.ownsRow base e size v k xs:=by
  refine h.kept hg ?_
  rcases h.2 with ⟨rfl,_⟩ | ⟨g,cap,cur,rfl,_,hgb,_⟩
  · exact .inl rfl
  · refine .inr fun e'=>?_
    obtain ⟨_,o,ho,hw⟩:=hr g (by simpa [Value.ownBlock] using e'.symm)
    rw [hgb] at ho;cases ho;cases hw
def GotAt (ts:List (List Nat)) (w:World) (pre:List Value) (W:World):Prop:=∃ v,Blk W w.heap.size 109 #[v]∧W.ownsRow w.heap.size 106 1 v pre.length pre∧(∀ (k:Nat) (u:Value) (t:List Nat),pre[k]?=some u→ts[k]?=some t→TxAt W u t)∧Below w.heap.size w W
theorem GotAt.kept {ts:List (List Nat)} {w:World} {pre:List Value} {W W':World} {row:Option Nat} {B:Nat} (h:GotAt ts w pre W) (hB:w.heap.size≤B) (hg:W.grownBy W' row) (hr:∀ r,row=some r→B≤r∧∃ o:Obj,W.heap[r]?=some o∧o.isCells=false):GotAt ts w pre W':=by
  obtain ⟨v,h1,h2,h3,h4⟩:=h
  exact ⟨v,h1.kept hg hr,own_kept h2 hg hr,fun k u t hu ht=>(h3 k u t hu ht).kept hg hr,bGrown h4 hg hB hr⟩
theorem col_append (gf:Nat) (lb:Array Value) (eg:∀ args w,(callFunc gf args).run Tryz.prog w = .ok (.enter gf args) w) (ts:List (List Nat)) (w:World) (hn:ts.length≤1000)
    (hseq:SeqG (2+1) Tryz.prog gf lb (fun v:Value=>#[v]) (KeepsC (fun k=>k<w.heap.size)) (fun ys=>ys.length=ts.length) (fun _=>True) ts.length w (fun pre v W=>∃ t,ts[pre.length]?=some t∧TxAt W v t)) :
    Calls Tryz.prog 138 #[.slice none 0 0,.func (.func gf) #[] lb] w (fun e w'=>∃ (v:Value) (vs:List Value),e = .returned v∧vs.length=ts.length∧Below w.heap.size w w'∧w'.ownsRow w.heap.size 106 1 v vs.length vs∧∀ (k:Nat) (u:Value) (t:List Nat),vs[k]?=some u→ts[k]?=some t→TxAt w' u t):=by
  refine calls_of_wp_dm Tryz.func138 rfl ?_
  simp only [Tryz.ntmps138,List.size_toArray,List.length_cons,List.length_nil,Nat.reduceAdd,Nat.reduceSub,Array.replicate_succ,Array.replicate_zero,List.push_toArray,List.append_toArray,List.nil_append,List.cons_append]
  go_wp2_with fail
  have hI0:GotAt ts w [] (w.alloc (.cells #[.slice none 0 0] 109)):=⟨_,Blk.new w _ _ _ rfl,World.ownsRow_nil _ _ _ _,fun k u t hu _=>by simp at hu,bAl (bRefl w) _⟩
  have hb0:Below w.heap.size w (w.alloc (.cells #[.slice none 0 0] 109)):=bAl (bRefl w) _
  generalize w.alloc (.cells #[.slice none 0 0] 109)=w1 at *
  refine wp_rangeFuncG 2 (gf:=gf) (lb:=lb) rfl eg (w0:=w) hseq KeepsC.trans (fun W l o o' _ hl ho _=>KeepsC.put W l o o' hl ho) hb0 (fun _=>rfl)
      (fun pre W'=>GotAt ts w pre W')
      (fun x a₁ pre W'=>(GotAt ts w pre W'∧∃ t,ts[pre.length]?=some t∧TxAt W' x t)∧a₁={ tmps:=#[.slice none 0 0,.func (.func gf) #[] lb,.pointer (some ⟨w.heap.size,0,none⟩),undef,.slice none 0 0,x,.func (.func gf) #[] lb,x,undef,undef,undef,undef,undef],defers:=[] })
      (fun _ _ _=>False)
      (fun pre A' B' row h hg hr=>h.kept hb0.size hg hr)
      (fun x a pre A' B' row h hg hr=>⟨⟨h.1.1.kept hb0.size hg hr,by obtain ⟨t,ht,h2⟩:=h.1.2;exact ⟨t,ht,h2.kept hg hr⟩⟩,h.2⟩)
      (fun _ _ _ _ _ h _ _=>h)
      hI0 ?assign ?body ?done ?stop
  case assign =>
    rintro L pre x Wc hI ⟨t,ht,hT⟩ hlen
    gi_wp2
    exact ⟨KeepsOthers.refl _,KeepsC.refl _ _,⟨hI,t,ht,hT⟩,trivial⟩
  case body =>
    rintro L pre x a₁ Wc ⟨⟨⟨v,hB,hown,hTs,hb⟩,t,ht,hT⟩,rfl⟩ hlen
    have d1:Wc.cell? ⟨w.heap.size,0,none⟩=some v:=hB.cell 0
    obtain ⟨i0,hi,hz0,hz1,hz2⟩:=info_parts bytes_info
    have hi':=Lib.hid hi
    have hz0':=Lib.hid hz0
    have hz1':=Lib.hid hz1
    have hz2':=Lib.hid hz2
    obtain ⟨gx,cx,curx,hxe,hx2⟩:=id hT
    have h63:pre.length+1≤maxLen:=by unfold maxLen;omega
    have hby:(pre.length+1)*24≤140737488355328:=by omega
    have hbs:w.heap.size≤(Wc.alloc (.cells #[x] 106)).heap.size:=by have:=hb.size;simp;omega
    subst hxe
    have hone:∀ u∈[Value.slice (some ⟨gx,0,none⟩) t.length cx],u.oneCell'=true:=by intro u hu;simp at hu;subst hu;rfl
    clear hi hz0 hz1 hz2 hx2
    gi_wp2_with (gi_at_builtin;refine wpListIn_append_own _ (by rfl) (.tmp 8) (.tmp 10) 109 (by rfl) w.heap.size 106 i0 (.slice none 0 0) 1 24 Tryz.underlying109 hi'.out hz0'.out hz1'.out hz2'.out rfl (by decide) v pre.length pre (by rfl) (hown.alloc _) ⟨Wc.heap.size,0,none⟩ 1 1 [.slice (some ⟨gx,0,none⟩) t.length cx] (by rfl) (by rfl) (cell_one_new _ _ _) hone h63 hby hbs ?_;intro v' w3 hown3 hg3 _;obtain ⟨g',cap',rfl⟩:=ownsRow_succ hown3;obtain ⟨a1,a2,a3,a4,a5⟩:=Boxed.appended (B:=w.heap.size) hB (by decide) hown hb.size (Nat.le_refl _) hown3 hg3;have d3:=a1.cell;have z3:=a1.frozen)
    refine ⟨a4,KeepsC.of_below a5,_,a2,by rw [List.length_append];exact a3,fun k u s hu hs=>?_,hb.trans a5⟩
    by_cases hk:k<pre.length
    · rw [List.getElem?_append_left hk] at hu
      exact (hTs k u s hu hs).app hB hown hg3
    · rw [List.getElem?_append_right (by omega)] at hu
      have hk0:k - pre.length=0:=by
        rcases Nat.eq_zero_or_pos (k - pre.length) with h | h
        · exact h
        · obtain ⟨m,hm⟩:∃ m,k - pre.length=m+1:=⟨k - pre.length - 1,by omega⟩
          rw [hm] at hu;simp at hu
      have hke:k=pre.length:=by omega
      subst hke
      rw [hk0] at hu
      simp at hu
      rw [ht] at hs
      injection hs with hs
      subst hs;subst hu
      exact hT.app hB hown hg3
  case done =>
    rintro D xs Wc hD hp ⟨v,hB,hown,hTs,hb⟩ hd
    have d1:Wc.cell? ⟨w.heap.size,0,none⟩=some v:=hB.cell 0
    go_wp2_with fail
    refine leavesM_mark (by simp) hd ?_
    refine ⟨v,by simp [results,Tryz.results138,go_sem],v,xs,rfl,hp,bPut hb (Nat.le_trans hb0.size hD) _,ownsRow_putObj hown _ hd rfl,fun k u t hu ht=>(hTs k u t hu ht).kept (B:=0) (grownBy_putObj' Wc D _) (fun r e=>by cases e;exact ⟨Nat.zero_le _,_,hd,rfl⟩)⟩
  case stop =>
    rintro D c' pre Wc _ _ h _
    exact h.elim
theorem col_collect (gf:Nat) (lb:Array Value) (eg:∀ args w,(callFunc gf args).run Tryz.prog w = .ok (.enter gf args) w) (ts:List (List Nat)) (w:World) (hn:ts.length≤1000)
    (hseq:SeqG (2+1) Tryz.prog gf lb (fun v:Value=>#[v]) (KeepsC (fun k=>k<w.heap.size)) (fun ys=>ys.length=ts.length) (fun _=>True) ts.length w (fun pre v W=>∃ t,ts[pre.length]?=some t∧TxAt W v t)) :
    Calls Tryz.prog 106 #[.func (.func gf) #[] lb] w (fun e w'=>∃ (v:Value) (vs:List Value),e = .returned v∧vs.length=ts.length∧Below w.heap.size w w'∧w'.ownsRow w.heap.size 106 1 v vs.length vs∧∀ (k:Nat) (u:Value) (t:List Nat),vs[k]?=some u→ts[k]?=some t→TxAt w' u t):=by
  have q:=col_append gf lb eg ts w hn hseq
  clear hseq eg
  go_enter Tryz.func106,Tryz.ntmps106
  go_wp2_with fail
  (with_reducible refine q.mono ?_)
  rintro e w1 ⟨v,vs,rfl,h1,h2,h3,h4⟩
  clear q
  go_wp2_with fail
  go_ret
  exact ⟨v,vs,rfl,h1,h2,h3,h4⟩
end Go.Proofs.YtgkpomdegomgiaaGreatDoor
