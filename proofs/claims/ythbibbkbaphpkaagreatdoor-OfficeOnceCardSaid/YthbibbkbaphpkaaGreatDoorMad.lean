/- The group: products, powers, numbers, walked. -/
import Derived.Test.YthbibbkbaphpkaaGreatDoorMac
import Derived.StillTail
set_option maxHeartbeats 16000000
set_option maxRecDepth 1000000
namespace Go.Proofs.YthbibbkbaphpkaaGreatDoor
open _root_.Go.Proofs.Tryz
section
open Go.RowKit
def oz (a b:Int):Int:=if aA a=true then (if aA b=true then a*b % 2147483579 else 0) else 0
def qQ (a b:Int):Int:=if aA a=true then (if aA b=true then 0 else 90) else 90
theorem GV {a b:Int} (ha:aA a=true) (hb:aA b=true):oz a b=a*b % 2147483579∧qQ a b=0:=by unfold oz qQ;rw [if_pos ha,if_pos ha,if_pos hb,if_pos hb];exact ⟨rfl,rfl⟩
theorem QE {a b:Int} (ha:¬aA a=true):oz a b=0∧qQ a b=90:=by unfold oz qQ;rw [if_neg ha,if_neg ha];exact ⟨rfl,rfl⟩
theorem QF {a b:Int} (hb:¬aA b=true):oz a b=0∧qQ a b=90:=by
 unfold oz qQ;rw [if_neg hb,if_neg hb];constructor <;> split <;> rfl
theorem nN {k e k' e':Int} (h:k=k') (h':e=e'):Ending.returned (.tuple #[.int .i64 k,.int .i64 e]) = .returned (.tuple #[.int .i64 k',.int .i64 e']):=by rw [h,h']
theorem MK {a b:Int} (ha:0≤a) (hb:0≤b) (ha2:a<2147483579) (hb2:b<2147483579):0≤a*b∧a*b≤4611685743549480100:=by
 refine ⟨Int.mul_nonneg ha hb,?_⟩;have h:a*b≤2147483578*2147483578:=Int.mul_le_mul (by omega) (by omega) hb (by omega);omega
theorem iy {a:Int} (h:aA a=true):1≤a∧a<2147483579:=by
 have:=(lH a).1 h
 exact ⟨this.1,this.2.1⟩
theorem xX (a b:Int) (w:World):Calls prog 130 #[.int .i64 a,.int .i64 b] w (Same (.tuple #[.int .i64 (oz a b),.int .i64 (qQ a b)]) w):=by
 cases ha:aA a
 ·have hr:=aab (QE (a:=a) (b:=b) (by simp [ha]))
  have q1:=bU a w;rw [ha] at q1;clear ha;go_enter func130,ntmps130;go_wp2_with fail;refine q1.mono ?_;rintro e w' ⟨rfl,rfl⟩;go_wp2_with fail;go_ret2;exact ⟨nN hr.out.1.symm hr.out.2.symm,rfl⟩
 ·cases hb:aA b
  ·have hr:=aab (QF (a:=a) (b:=b) (by simp [hb]))
   have q1:=bU a w;have q2:=bU b w;rw [ha] at q1;rw [hb] at q2;clear ha hb;go_enter func130,ntmps130;go_wp2_with fail;refine q1.mono ?_;rintro e w' ⟨rfl,rfl⟩;go_wp2_with fail;refine q2.mono ?_;rintro e w' ⟨rfl,rfl⟩;go_wp2_with fail;go_ret2;exact ⟨nN hr.out.1.symm hr.out.2.symm,rfl⟩
  ·have hr:=aab (GV ha hb)
   have q1:=bU a w;have q2:=bU b w;obtain ⟨a1,a2⟩:=iy ha;obtain ⟨b1,b2⟩:=iy hb;obtain ⟨m1,m2⟩:=MK (show 0≤a by omega) (show 0≤b by omega) a2 b2;rw [ha] at q1;rw [hb] at q2;clear ha hb;go_enter func130,ntmps130;go_wp2_with fail;refine q1.mono ?_;rintro e w' ⟨rfl,rfl⟩;go_wp2_with fail;refine q2.mono ?_;rintro e w' ⟨rfl,rfl⟩;go_wp2_with fail;go_ret2;exact ⟨nN hr.out.1.symm hr.out.2.symm,rfl⟩
def elemV (n:Int):Int:=if 1≤n∧n≤1073741789 then (if aA n=true then n else 2147483579 - n) else 0
def yT (n:Int):Int:=if 1≤n∧n≤1073741789 then 0 else 1
def gW (x:Int):Int:=if aA x=true then (if x≤2147483579 - x then x else 2147483579 - x) else 0
def VZ (x:Int):Int:=if aA x=true then 0 else 90
theorem oP (n:Int) (w:World):Calls prog 132 #[.int .i64 n] w (Same (.tuple #[.int .i64 (elemV n),.int .i64 (yT n)]) w):=by
 by_cases h:1≤n∧n≤1073741789
 ·have he:Hid (yT n=0):=if_pos h
  have hv:Hid (elemV n=if aA n=true then n else 2147483579 - n):=if_pos h;obtain ⟨h1,h2⟩:=h;have q1:=bU n w;cases hb:aA n
  ·rw [hb] at q1
   have hv2:Hid (elemV n=2147483579 - n):=(by show _=_;rw [hv.out,hb];rfl);clear hb hv;go_enter func132,ntmps132;go_wp2_with fail;refine q1.mono ?_;rintro e w' ⟨rfl,rfl⟩;go_wp2_with fail;go_ret2;exact ⟨nN hv2.out.symm he.out.symm,rfl⟩
  ·rw [hb] at q1
   have hv2:Hid (elemV n=n):=(by show _=_;rw [hv.out,hb];rfl);clear hb hv;go_enter func132,ntmps132;go_wp2_with fail;refine q1.mono ?_;rintro e w' ⟨rfl,rfl⟩;go_wp2_with fail;go_ret2;exact ⟨nN hv2.out.symm he.out.symm,rfl⟩
 ·have he:Hid (yT n=1):=if_neg h
  have hv:Hid (elemV n=0):=if_neg h;have h':n<1∨(1≤n∧1073741789<n):=by omega
  clear h;rcases h' with h | ⟨h,h1⟩
  all_goals
   go_enter func132,ntmps132;go_wp2_with fail;go_ret2;exact ⟨nN hv.out.symm he.out.symm,rfl⟩
theorem EQ (x:Int) (w:World):Calls prog 128 #[.int .i64 x] w (Same (.tuple #[.int .i64 (gW x),.int .i64 (VZ x)]) w):=by
 have q1:=bU x w;cases hb:aA x
 ·rw [hb] at q1
  have hv:Hid (gW x=0):=if_neg (by simp [hb]);have he:Hid (VZ x=90):=if_neg (by simp [hb]);clear hb;go_enter func128,ntmps128;go_wp2_with fail;refine q1.mono ?_;rintro e w' ⟨rfl,rfl⟩;go_wp2_with fail;go_ret2;exact ⟨nN hv.out.symm he.out.symm,rfl⟩
 ·rw [hb] at q1
  have hv:Hid (gW x=if x≤2147483579 - x then x else 2147483579 - x):=if_pos hb;have he:Hid (VZ x=0):=if_pos hb;obtain ⟨a1,a2⟩:=iy hb;clear hb;go_enter func128,ntmps128;go_wp2_with fail;refine q1.mono ?_;rintro e w' ⟨rfl,rfl⟩;by_cases hx:x≤2147483579 - x
  ·have hv2:Hid (gW x=x):=by show _=_;rw [hv.out,if_pos hx]
   clear hv;go_wp2_with fail;go_ret2;exact ⟨nN hv2.out.symm he.out.symm,rfl⟩
  ·have hv2:Hid (gW x=2147483579 - x):=by show _=_;rw [hv.out,if_neg hx]
   clear hv;go_wp2_with fail;go_ret2;exact ⟨nN hv2.out.symm he.out.symm,rfl⟩
def AbT (T:Nat→Prop) {β:Type} (B:Nat) (J:β→World→Prop):Prop:=AbidesFrom B J∧∀ s W p v,J s W→T p.block→J s (W.setCell p v)
def GX {α:Type} (T:Nat→Prop) (n:Nat) (P:Program) (g:Nat) (lb:Array Value) (encs:α→Array Value) (Kp:World→World→Prop) (S Sp:List α→Prop) (N:Nat) (w:World):Prop :=
 ∀ (l:Nat) (J Jx:List α→World→Prop) (W:World),Below w.heap.size w W→AbT T W.heap.size J→AbT T W.heap.size Jx →
  (∀ pre x W1,J pre W1→pre.length<N→YieldAt Fence.wide (n - 1) P l (encs x) W1 fun e W' =>
   (e = .returned (.bool true)∧J (pre++[x]) W'∧Kp W1 W')∨(e = .returned (.bool false)∧Jx (pre++[x]) W')) →
  J [] W →
  CallsIn Fence.wide n P g (#[.func (.yield l) #[] #[]]++lb) W fun e W'=>(∃ v,e = .returned v)∧((∃ xs,S xs∧J xs W')∨(∃ pre,Sp pre∧Jx pre W'))
theorem jX {P:Program} {α:Type} {g:Operand} {ps:Array Tmp} {assign body:Code} {Q:Exit→Act→World→Prop} {a:Act} {w:World} (n:Nat)
  {gf:Nat} {lb:Array Value} (hg:a.eval g = .func (.func gf) #[] lb) (eg:∀ args w,(callFunc gf args).run P w = .ok (.enter gf args) w)
  {encs:α→Array Value} {Kp:World→World→Prop} {S Sp:List α→Prop} {N:Nat} {w0:World} {T:Nat→Prop} (hseq:GX T (n+1) P gf lb encs Kp S Sp N w0) (hT:∀ k,T k→k<w.heap.size)
  (hKt:∀ {A B C:World},Kp A B→Kp B C→Kp A C) (hKb:∀ (W:World) (l:Nat) (o o':Obj),w.heap.size≤l→W.heap[l]?=some o→o.isCells=false→o.isWalk=false→Kp W (W.putObj l o')) (hb0:Below w0.heap.size w0 w) (hps:∀ x,(encs x).size=ps.size)
  (I:List α→World→Prop) (Im:α→Act→List α→World→Prop) (Ix:Code→List α→World→Prop) (hI:OwnFrom w.heap.size I) (hIm:∀ x a,OwnFrom w.heap.size (Im x a)) (hIx:∀ c,OwnFrom w.heap.size (Ix c)) (hIT:∀ s W p v,I s W→T p.block→I s (W.setCell p v)) (hIxT:∀ c s W p v,Ix c s W→T p.block→Ix c s (W.setCell p v)) (h0:I [] w)
  (hassign:∀ (l:Nat) (pre:List α) (x:α) (W:World),I pre W→pre.length<N →
   assign.wpIn (Fence.wide.inRound l) n P (Exit.then (fun a₁ W₁=>KeepsOthers W W₁∧Kp W W₁∧Im x a₁ pre W₁) (fun _ _ _=>False)) { tmps:=(ps.zip (encs x)).foldl (fun t (p,v)=>t.setIfInBounds p v) a.tmps,defers:=[] } W)
  (hbody:∀ (l:Nat) (pre:List α) (x:α) (a₁:Act) (W:World),Im x a₁ pre W→pre.length<N→body.wpIn (Fence.wide.inRound l) n P (ownPostK Kp I Ix (pre++[x]) W) a₁ W)
  (hdone:∀ (D:Nat) (xs:List α) (W:World),w.heap.size≤D→S xs→I xs W→W.heap[D]?=some (.deferred (some []))→Q .normal { a with defers:={ target := .collected D,args:=#[] }::a.defers } W)
  (hstop:∀ (D:Nat) (c:Code) (pre:List α) (W:World),w.heap.size≤D→Sp pre→Ix c pre W→W.heap[D]?=some (.deferred (some []))→c.wp P Q { a with defers:={ target := .collected D,args:=#[] }::a.defers } W) :
  (Code.rangeFunc g ps assign body).wp P Q a w:=by
 refine (wpIn_wide (n:=n+2)).1 (wpIn_rangeFunc ?_);intro fn _;obtain ⟨rec,hrec⟩:∃ rec:LoopState→Option Code→Loop,rec=fun st pe=>{ state:=st,pending:=pe,fn,tmps:=a.tmps,params:=ps,assign,body,defers:=w.heap.size }:=⟨_,rfl⟩
 obtain ⟨W1,hW1⟩:∃ W1,(w.alloc (.deferred (some []))).alloc (.loop (rec .ready none))=W1:=⟨_,rfl⟩
 have hL1:W1.heap[w.heap.size+1]?=some (.loop (rec .ready none)):=by
  rw [←hW1];have:=World.alloc_heap_new (w.alloc (.deferred (some []))) (.loop (rec .ready none));rwa [World.size_alloc] at this
 have hK1:W1.heap[w.heap.size]?=some (.deferred (some [])):=by
  rw [←hW1];exact (Below.heap_alloc _ _ _ (by simp)).trans (World.alloc_heap_new w _)
 have hI1:I [] W1:=by rw [←hW1];exact hI.alloc _ (hI.alloc _ h0)
 have hb1:Below w0.heap.size w0 W1:=by
  rw [←hW1];exact hb0.trans ((((Below.refl _ w).alloc (aad _) _).alloc (by simp) _).mono hb0.size)
 refine ⟨w.heap.size+1,[{ target := .collected w.heap.size,args:=#[] }],W1,{ target := .fn (.func gf) lb,args:=#[.func (.yield (w.heap.size+1)) #[] #[]] },W1,gf,
  #[.func (.yield (w.heap.size+1)) #[] #[]]++lb,W1,?_,?_,?_,?_,fun _=>by omega,?_⟩
 ·rw [←hW1,hrec];exact run_enterLoop_outer _ _ _ _ _
 ·simp only [resolve,hg]
  simp [go_sem]
 ·intro f' _;trivial
 ·simp [invoke,go_sem,eg]
 ·have hnw:∀ {A B:World} {row:Option Nat},(∀ r,row=some r→W1.heap.size≤r∧∃ o:Obj,A.heap[r]?=some o∧o.isWalk=true)→(∀ r,row=some r→w.heap.size≤r∧∃ o:Obj,A.heap[r]?=some o∧o.isCells=false) :=
   fun hr r e=>by obtain ⟨hB,o,ho,hw⟩:=hr r e;exact ⟨by rw [←hW1] at hB;simp at hB;omega,o,ho,Obj.not_cells_of_walk hw⟩
  have hfar:∀ {p:Addr},T p.block→∀ i,w.heap.size+i≠p.block:=fun ht i=>by have:=hT _ ht;omega
  refine (hseq (w.heap.size+1)
   (fun pre W=>I pre W∧W.heap[w.heap.size+1]?=some (.loop (rec .ready none))∧W.heap[w.heap.size]?=some (.deferred (some [])))
   (fun pre W=>∃ c,Ix c pre W∧W.heap[w.heap.size+1]?=some (.loop (rec .done (some c)))∧W.heap[w.heap.size]?=some (.deferred (some [])))
   W1 hb1
   ⟨fun s A B row hs hg' hr=>⟨hI s A B row hs.1 hg' (hnw (B:=B) hr),(grownBy_keeps hg' (fun r e=>(hr r e).2) hs.2.1 rfl).trans hs.2.1,(grownBy_keeps hg' (fun r e=>(hr r e).2) hs.2.2 rfl).trans hs.2.2⟩,
    fun s A p v hs ht=>⟨hIT s A p v hs.1 ht,(Below.heap_setCell A p v _ (hfar ht 1)).trans hs.2.1,(Below.heap_setCell A p v _ (hfar ht 0)).trans hs.2.2⟩⟩
   ⟨fun s A B row hs hg' hr => by
    obtain ⟨c,hc,hl,hk⟩:=hs;exact ⟨c,hIx c s A B row hc hg' (hnw (B:=B) hr),(grownBy_keeps hg' (fun r e=>(hr r e).2) hl rfl).trans hl,(grownBy_keeps hg' (fun r e=>(hr r e).2) hk rfl).trans hk⟩,
    fun s A p v hs ht=>by
     obtain ⟨c,hc,hl,hk⟩:=hs;exact ⟨c,hIxT c s A p v hc ht,(Below.heap_setCell A p v _ (hfar ht 1)).trans hl,(Below.heap_setCell A p v _ (hfar ht 0)).trans hk⟩⟩
   ?_ ⟨hI1,hL1,hK1⟩).mono ?_
  ·rintro pre x W ⟨hi,hl,hk⟩ hlen
   have hy:=run_yield (P:=P) (args:=encs x) hl (by rw [hrec];exact hps x);rw [hrec] at hy;refine ⟨fn,_,assign,body,hy,roundIn_of_wpIn trivial (wpIn_mono (hassign _ pre x W hi hlen) ?_)⟩;rintro e a1 Wa hp;cases e with
   | normal =>
    obtain ⟨hka,hkpa,hma⟩:=hp;have hla:=hka.same _ _ hl rfl;have hkka:=hka.same _ _ hk rfl;have hlt:w.heap.size+1<Wa.heap.size:=(aaI.1 hla).1;refine ⟨_,run_beginRound hla (by rw [hrec]),?_⟩;have hl2:(Wa.putObj (w.heap.size+1) (.loop { rec .ready none with state := .busy })).heap[w.heap.size+1]?=some (.loop { rec .ready none with state := .busy }):=World.putObj_heap_same hlt;have hk2:(Wa.putObj (w.heap.size+1) (.loop { rec .ready none with state := .busy })).heap[w.heap.size]?=some (.deferred (some [])):=(World.putObj_heap_other (by omega)).trans hkka;have hw2:Kp W (Wa.putObj (w.heap.size+1) (.loop { rec .ready none with state := .busy })):=hKt hkpa (hKb _ _ _ _ (by omega) hla rfl rfl);refine wpIn_mono (hbody _ pre x a1 _ ((hIm x a1).putObj _ hma (by omega) hla rfl) hlen) ?_
    have fin:∀ (jump:Option Code) (W3:World),KeepsOthers (Wa.putObj (w.heap.size+1) (.loop { rec .ready none with state := .busy })) W3 →
      (Instr.endRound (w.heap.size+1) jump).run P W3 = .ok (.bool jump.isNone) (W3.putObj (w.heap.size+1) (.loop (rec (if jump.isNone then .ready else .done) jump))) ∧
      W3.heap[w.heap.size+1]?=some (.loop { rec .ready none with state := .busy }) ∧
      (W3.putObj (w.heap.size+1) (.loop (rec (if jump.isNone then .ready else .done) jump))).heap[w.heap.size+1]?=some (.loop (rec (if jump.isNone then .ready else .done) jump)) ∧
      (W3.putObj (w.heap.size+1) (.loop (rec (if jump.isNone then .ready else .done) jump))).heap[w.heap.size]?=some (.deferred (some [])):=fun jump W3 hk3=>by
     have hl3:=hk3.same _ _ hl2 rfl
     have:=run_endRound (P:=P) jump hl3
     rw [hrec] at this ⊢;exact ⟨this,by rw [hrec] at hl3;exact hl3,World.putObj_heap_same (aaI.1 hl3).1,(World.putObj_heap_other (by omega)).trans (hk3.same _ _ hk2 rfl)⟩
    rintro e a3 W3 hp;cases e with
    | normal =>
     obtain ⟨hk3,hkp3,hi3⟩:=hp;obtain ⟨hr,hl3,hl4,hk4⟩:=fin none W3 hk3;exact ⟨_,_,hr,.inl ⟨rfl,⟨hI.putObj _ hi3 (by omega) hl3 rfl,hl4,hk4⟩,hKt (hKt hw2 hkp3) (hKb _ _ _ _ (by omega) hl3 rfl rfl)⟩⟩
    | ret =>
     obtain ⟨hk3,hi3⟩:=hp;obtain ⟨hr,hl3,hl4,hk4⟩:=fin (some .ret) W3 hk3;exact ⟨_,_,hr,.inr ⟨rfl,.ret,(hIx _).putObj _ hi3 (by omega) hl3 rfl,hl4,hk4⟩⟩
    | exit id =>
     obtain ⟨hk3,hi3⟩:=hp;obtain ⟨hr,hl3,hl4,hk4⟩:=fin (some (.exit id)) W3 hk3;exact ⟨_,_,hr,.inr ⟨rfl,.exit id,(hIx _).putObj _ hi3 (by omega) hl3 rfl,hl4,hk4⟩⟩
    | goto t =>
     obtain ⟨hk3,hi3⟩:=hp;obtain ⟨hr,hl3,hl4,hk4⟩:=fin (some (.goto t)) W3 hk3;exact ⟨_,_,hr,.inr ⟨rfl,.goto t,(hIx _).putObj _ hi3 (by omega) hl3 rfl,hl4,hk4⟩⟩
    | panic ch=>exact hp.elim
    | outgrown=>exact hp.elim
   | ret=>exact hp.elim
   | exit id=>exact hp.elim
   | goto t=>exact hp.elim
   | panic ch=>exact hp.elim
   | outgrown=>exact hp.elim
  ·rintro e W2 ⟨⟨v,rfl⟩,(⟨xs,hS,hi,hl,hk⟩ | ⟨pre,hSp,c,hi,hl,hk⟩)⟩
   ·exact ⟨none,_,by have:=run_endLoop (P:=P) hl (by rw [hrec];simp);rw [hrec] at this;exact this,hdone _ xs _ (aad _) hS (hI.putObj _ hi (by omega) hl rfl) ((World.putObj_heap_other (by omega)).trans hk)⟩
   ·exact ⟨some c,_,by have:=run_endLoop (P:=P) hl (by rw [hrec];simp);rw [hrec] at this;exact this,wpIn_wide.2 (hstop _ c pre _ (aad _) hSp ((hIx c).putObj _ hi (by omega) hl rfl) ((World.putObj_heap_other (by omega)).trans hk))⟩
end
section
open Go.RowKit Go.Shelf
attribute [local go_sem] Oper.semAt_some
def jY (n:Int):Nat:=(n % 1073741789).toNat
theorem UD (n:Int):jY n<1073741789:=by unfold jY;omega
def kT (l:List Int):Int:=l.foldl (fun m x=>m * (x.tmod 1073741789+1073741789) % 1073741789) 1
theorem yU (l:List Int) (x:Int):kT (l++[x])=kT l * (x.tmod 1073741789+1073741789) % 1073741789:=by simp [kT]
theorem JI (l:List Int):0≤kT l∧kT l<1073741789:=by
 rcases List.eq_nil_or_concat l with rfl | ⟨l,x,rfl⟩
 ·simp [kT]
 ·rw [List.concat_eq_append,yU];omega
theorem V3 (x:Int):-1073741789<x.tmod 1073741789∧x.tmod 1073741789<1073741789:=by
 by_cases h:x<0
 ·have h1:x.tmod 1073741789 = -((-x).tmod 1073741789):=by rw [Int.neg_tmod,Int.neg_neg]
  have h2:=Int.tmod_nonneg (a := -x) 1073741789 (by omega);have h3:=Int.tmod_lt_of_pos (-x) (b:=1073741789) (by omega);omega
 ·have h2:=Int.tmod_nonneg (a:=x) 1073741789 (by omega)
  have h3:=Int.tmod_lt_of_pos x (b:=1073741789) (by omega);omega
theorem OJ (x:Int):(x.tmod 1073741789+1073741789) % 1073741789=x % 1073741789:=by
 have h:=Int.mul_tdiv_add_tmod x 1073741789;generalize x.tdiv 1073741789=q at *;generalize x.tmod 1073741789=r at *;omega
theorem JK (n:Int):kT [n]=(jY n:Int):=by
 show 1 * (n.tmod 1073741789+1073741789) % 1073741789=_;rw [Int.one_mul,OJ];unfold jY;omega
theorem GY (A:Option Addr) (n c:Nat) (l:List Int) (w:World) (hA:Rd w w.heap.size 1 A n (ints l)) (hn:n≤1000) :
  Calls prog 169 #[.slice A n c] w (Same (.int .i64 (kT l)) w):=by
 have hl:Hid (l.length=n):=by have:=hA.1;rw [lU,aaA] at this;exact this
 go_enter func169,ntmps169;go_wp2
 go_loop [3,8] (fun s i=>∃ k:Nat,k≤n∧i = .int .i64 k∧s = .int .i64 (kT (l.take k))) (fun _ i=>n - (intOf i).toNat)
 case atStart=>exact ⟨0,aao _,rfl,rfl⟩
 case round =>
  obtain ⟨k,hkn,rfl,rfl⟩:=hrel;by_cases hlt:k<n
  ·obtain ⟨x,hx⟩:∃ x,Hid (l[k]?=some x):=⟨_,aab (aac (by rw [hl.out];exact hlt))⟩
   obtain ⟨b,off,rfl,hbb,c0⟩:=jq hA hlt hx.out
   have hs:Hid (kT (l.take (k+1))=kT (l.take k) * (x.tmod 1073741789+1073741789) % 1073741789):=by
    show _=_;obtain ⟨hk,rfl⟩:=aag.1 hx.out;rw [aaB hk,yU]
   obtain ⟨r1,r2⟩:=JI (l.take k);obtain ⟨t1,t2⟩:=V3 x;have t3:0≤x.tmod 1073741789+1073741789:=(by omega);have t4:x.tmod 1073741789+1073741789≤2147483578:=(by omega);have m1:0≤kT (l.take k) * (x.tmod 1073741789+1073741789):=Int.mul_nonneg r1 (by omega)
   have m2:kT (l.take k) * (x.tmod 1073741789+1073741789)≤2305842977784800000:=by
    have:=Int.mul_le_mul (a:=kT (l.take k)) (b:=x.tmod 1073741789+1073741789) (c:=1073741789) (d:=2147483578) (by omega) (by omega) (by omega) (by omega)
    omega
   go_wp2
   exact ⟨⟨k+1,by omega,by go_num,by rw [hs.out]⟩,by simp [intOf];omega⟩
  ·go_wp2
   go_ret;exact ⟨eX (by rw [aaH (by rw [hl.out];omega)]),rfl⟩
theorem GZ (a n:Int) (w:World) :
  Calls prog 168 #[.int .i64 a,.int .i64 n] w fun r w' =>
   r = .returned (.func (.func 229) #[] #[.pointer (some ⟨w.heap.size+1,0,none⟩),.pointer (some ⟨w.heap.size,0,none⟩)])∧w'=(w.alloc (.cells #[.int .i64 a] 3)).alloc (.cells #[.int .i64 n] 3):=by
 have hmf:∀ (fn:Fn) (first cap:Array Value) (w:World),(Instr.makeFunc fn first cap).run prog w = .ok (.func fn first cap) w:=fun _ _ _ _=>rfl;go_enter func168,ntmps168;go_wp2
 go_ret;exact ⟨rfl,rfl⟩
structure Sq where
 sq:Nat
 bit:Bool
 lt:sq<2147483579
def Sq.encs (x:Sq):Array Value:=#[.int .i64 x.sq,.bool x.bit]
def kU (l:List Sq):Nat:=l.foldl (fun c x=>if x.bit=true then c*x.sq % Pn else c) 1
theorem AQ (l:List Sq) (x:Sq):kU (l++[x])=if x.bit=true then kU l*x.sq % Pn else kU l:=by simp [kU]
theorem G5 (l:List Sq):kU l<2147483579:=by
 rcases List.eq_nil_or_concat l with rfl | ⟨l,x,rfl⟩
 ·decide
 ·have:∀ l:List Sq,kU l<2147483579:=by
   intro l
   have h:∀ (l:List Sq) (c:Nat),c<2147483579→l.foldl (fun c x=>if x.bit=true then c*x.sq % Pn else c) c<2147483579:=by
    intro l;induction l with
    | nil=>exact fun _ h=>h
    | cons x l ih=>exact fun c h=>ih _ (by show (if x.bit=true then c*x.sq % Pn else c)<2147483579;split;exact aaC _ (by decide);exact h)
   exact h l 1 (by decide)
  exact this _
theorem QG (n:Int):bits .and .i64 n 1=n % 2:=by
 have h1:(BitVec.ofInt 64 1).toNat=2 ^ 1 - 1:=by decide
 have key:(BitVec.ofInt 64 n &&& BitVec.ofInt 64 1).toNat=(n % ((2 ^ 64:Nat):Int)).toNat % 2 ^ 1:=by
  rw [BitVec.toNat_and,BitVec.toNat_ofInt,h1,Nat.and_two_pow_sub_one_eq_mod]
 show IntKind.i64.wrap ((BitVec.ofInt 64 n &&& BitVec.ofInt 64 1).toNat:Nat)=n % 2;rw [key,IntKind.wrap_i64];omega
def QH (n:Nat):Bool:=bits BinOp.and IntKind.i64 (n:Int) 1==1
theorem G6 (n:Nat):QH n=true↔n % 2=1:=by
 unfold QH;rw [QG,beq_iff_eq];omega
def SqRel (a0 n0:Nat) (pre:List Sq) (a n:Nat):Prop:=a<2147483579∧n<2 ^ (31 - pre.length)∧(kU pre*a ^ n) % Pn=eu a0 n0
theorem SqRel.start {a n:Nat} (ha:a<2147483579) (hn:n<1073741789):SqRel a n [] a n:=by
 refine ⟨ha,by show n<2 ^ 31;omega,?_⟩;show (1*a ^ n) % Pn=_;rw [Nat.one_mul];rfl
theorem SqRel.next {a0 n0 a n:Nat} {pre:List Sq} (h:SqRel a0 n0 pre a n) (hn:0<n) :
  SqRel a0 n0 (pre++[⟨a,QH n,h.1⟩]) (a*a % 2147483579) (n / 2)∧pre.length<31:=by
 obtain ⟨h1,h2,h3⟩:=h
 have hl:pre.length<31:=by
  rcases aa0 pre.length 31 with h | h
  ·exact h
  ·rw [Nat.sub_eq_zero_of_le h] at h2;omega
 refine ⟨⟨aaC _ (by decide),?_,?_⟩,hl⟩
 ·rw [aan,List.length_singleton]
  have:31 - pre.length=(31 - (pre.length+1))+1:=by omega
  rw [this,abf] at h2;omega
 ·rw [AQ]
  refine Eq.trans ?_ h3;refine Eq.trans ?_ (yS (kU pre) a n).symm;by_cases hb:n % 2=1
  ·rw [if_pos hb,if_pos ((G6 n).2 hb)];rfl
  ·rw [if_neg hb,if_neg (fun h=>hb ((G6 n).1 h))];rfl
theorem SqRel.done {a0 n0 a:Nat} {pre:List Sq} (h:SqRel a0 n0 pre a 0):kU pre=eu a0 n0:=by
 have h3:=h.2.2;rw [Nat.pow_zero,aaA] at h3;exact (aaR (G5 pre)).symm.trans h3
theorem G7 {a b:Nat} (ha:a<2147483579) (hb:b<2147483579):a*b≤4611685743549480100:=by
 have h:a*b≤2147483578*2147483578:=Nat.mul_le_mul (by omega) (by omega);omega
theorem ER (L ba bn a0 n0:Nat) (S:Nat→Prop) (hne:ba≠bn) (ha:S ba) (hbn:S bn) (J Jx:List Sq→World→Prop) (W:World) (hJab:AbT (fun k=>k=ba∨k=bn) W.heap.size J)
  (hY:∀ pre x W1,J pre W1→pre.length<31→YieldAt Fence.wide (2+1 - 1) prog L x.encs W1 fun e W' =>
   (e = .returned (.bool true)∧J (pre++[x]) W'∧Keeps S W1 W')∨(e = .returned (.bool false)∧Jx (pre++[x]) W'))
  (hB:Blk W ba 3 #[.int .i64 a0]) (hN:Blk W bn 3 #[.int .i64 n0]) (h0:J [] W) (ha0:a0<2147483579) (hn0:n0<1073741789) :
  CallsIn Fence.wide (2+1) prog 229 #[.func (.yield L) #[] #[],.pointer (some ⟨bn,0,none⟩),.pointer (some ⟨ba,0,none⟩)] W fun e W'=>(∃ v,e = .returned v) ∧
   ((∃ ys,kU ys=eu a0 n0∧J ys W')∨(∃ pre,True∧Jx pre W')):=by
 refine callsIn_of_wp func229 rfl trivial ?_ rfl;simp only [ntmps229,aae,aas,List.length_nil,Nat.reduceAdd,Nat.reduceSub,aaV,aaW,aaX,aaY,aaJ,aaN]
 gi_wp2
 gi_loopw [] (fun wr=>∃ (pre:List Sq) (a n:Nat),Blk wr ba 3 #[.int .i64 a]∧Blk wr bn 3 #[.int .i64 n]∧J pre wr∧Hid (SqRel a0 n0 pre a n)) (fun wr=>(intOf ((wr.cell? ⟨bn,0,none⟩).getD undef)).toNat)
 case atStart=>exact ⟨[],a0,n0,hB,hN,h0,SqRel.start ha0 hn0⟩
 case round =>
  clear hB hN h0;obtain ⟨pre,a,n,hB,hN,hJ,hr⟩:=hrel;have hn62:n<2 ^ 31:=aaS hr.out.2.1 (Nat.pow_le_pow_right (by omega) (by omega));have haP:=hr.out.1;have c1:wr.cell? ⟨bn,0,none⟩=some (.int .i64 n):=hN.cell 0;have c2:wr.cell? ⟨ba,0,none⟩=some (.int .i64 a):=hB.cell 0;by_cases hn:0<n
  ·obtain ⟨hnx,hlen⟩:=hr.out.next hn
   have Hnx:=aab hnx;clear hnx;obtain ⟨fn,tmps,assign,body,hy,hR⟩:=hY pre ⟨a,QH n,haP⟩ wr hJ hlen;dsimp only [Sq.encs,QH] at hy;have hm1:=G7 haP haP
   gi_wp2
   refine hR.mono ?_;rintro e W3 (⟨rfl,hJ3,hk3⟩ | ⟨rfl,hJx3⟩)
   ·have hB3:Blk W3 ba 3 #[.int .i64 a]:=(hk3.same _ ha).trans hB
    have hN3:Blk W3 bn 3 #[.int .i64 n]:=(hk3.same _ hbn).trans hN;have d1:W3.cell? ⟨bn,0,none⟩=some (.int .i64 n):=hN3.cell 0;have d2:W3.cell? ⟨ba,0,none⟩=some (.int .i64 a):=hB3.cell 0;have f1:=hN3.frozen 0;have f2:=hB3.frozen 0;have C1:=aab c1;clear c1 c2 hB hN;have hne':bn≠ba:=fun e=>hne e.symm;have e1:((a:Int)*a % 2147483579)=((a*a % 2147483579:Nat):Int):=(by simp);have e2:(n:Int) / 2=((n / 2:Nat):Int):=(by simp);have E1:=aab e1;have E2:=aab e2;clear e1 e2
    gi_wp2
    rw [E1.out,E2.out];have hN4:=(hN3.far (p:=⟨ba,0,none⟩) hne' (.int .i64 (a*a % 2147483579:Nat))).set_ 0 (.int .i64 (n / 2:Nat));refine ⟨⟨_,_,_,(hB3.set_ 0 _).far (p:=⟨bn,0,none⟩) hne _,hN4,hJab.2 _ _ _ _ (hJab.2 _ _ _ _ hJ3 (.inl rfl)) (.inr rfl),Hnx⟩,?_⟩;have e3:=hN4.cell 0;rw [e3,C1.out];simp [intOf];omega
   ·gi_wp2
    refine bodyPost_ret (results_none rfl _ _ _) rfl ?_;exact ⟨⟨_,rfl⟩,.inr ⟨_,trivial,hJx3⟩⟩
  ·obtain rfl:n=0:=by omega
   have hd:=aab hr.out.done
   gi_wp2
   go_end0;exact ⟨⟨_,rfl⟩,.inl ⟨_,hd.out,hJ⟩⟩
theorem Dq (ba bn a0 n0:Nat) (S:Nat→Prop) (hne:ba≠bn) (ha:S ba) (hb:S bn) (w:World)
  (hB:Blk w ba 3 #[.int .i64 a0]) (hN:Blk w bn 3 #[.int .i64 n0]) (ha0:a0<2147483579) (hn0:n0<1073741789) :
  GX (fun k=>k=ba∨k=bn) (2+1) prog 229 #[.pointer (some ⟨bn,0,none⟩),.pointer (some ⟨ba,0,none⟩)] Sq.encs (Keeps S) (fun ys=>kU ys=eu a0 n0) (fun _=>True) 31 w:=by
 intro L J Jx W hW hJ _ hY h0;exact ER L ba bn a0 n0 S hne ha hb J Jx W hJ hY (hB.below hW hB.lt) (hN.below hW hN.lt) h0 ha0 hn0
def aJ (a n:Int):Int:=if aA a=true then (eu a.toNat (jY n):Int) else 0
def zC (a:Int):Int:=if aA a=true then 0 else 90
theorem pJ (a n:Int) (W:World):Calls prog 94 #[.int .i64 a,.int .i64 n] W (Ret (.tuple #[.int .i64 (aJ a n),.int .i64 (zC a)]) W):=by
 refine dQ func94 rfl ?_;simp only [ntmps94,aae,aas,List.length_nil,Nat.reduceAdd,Nat.reduceSub,aaV,aaW,aaX,aaY,aaJ,aaN];have q1:=bU a (W.alloc (.cells #[.int .i64 0] 3));have BC:=Blk.new W 3 #[.int .i64 0] _ rfl;have hbW:=bAl (aj W) (.cells #[.int .i64 0] 3);cases ha:aA a
 ·have hv:Hid (aJ a n=0):=if_neg (by simp [ha])
  have he:Hid (zC a=90):=if_neg (by simp [ha]);rw [ha] at q1;clear ha;go_wp2_with fail;refine q1.mono ?_;rintro e w' ⟨rfl,rfl⟩;generalize W.alloc (.cells #[.int .i64 0] 3)=w1 at *;have c0:w1.cell? ⟨W.heap.size,0,none⟩=some (.int .i64 0):=BC.cell 0;have c1:=BC.frozen 0;go_wp2_with fail;have e1:=(BC.set_ 0 (.int .i64 0)).cell 0;exact ⟨.tuple #[.int .i64 0,.int .i64 90],by simp [results,results94,go_sem,e1],nN hv.out.symm he.out.symm,zQ7 hbW (aad _) _⟩
 ·have hv:Hid (aJ a n=(eu a.toNat (jY n):Int)):=if_pos ha
  have he:Hid (zC a=0):=if_pos ha;obtain ⟨a1,a2⟩:=iy ha;obtain ⟨a0,rfl⟩:=abB (show 0≤a by omega);rw [aba] at hv;have ha0:a0<2147483579:=by omega
  rw [ha] at q1;clear ha;go_wp2_with fail;refine q1.mono ?_;rintro e w' ⟨rfl,rfl⟩;clear q1;generalize W.alloc (.cells #[.int .i64 0] 3)=w1 at *;have c0:w1.cell? ⟨W.heap.size,0,none⟩=some (.int .i64 0):=BC.cell 0;have c1:=BC.frozen 0;go_upto_region 4 with fail;have BC2:=BC.set_ 0 (.int .i64 1);have hbW2:=zQ7 hbW (aad _) (p:=⟨W.heap.size,0,none⟩) (.int .i64 1);simp at BC2;clear BC hbW c0 c1;generalize w1.setCell ⟨W.heap.size,0,none⟩ (.int .i64 1)=w2 at *;go_wp2_with fail;refine (GY _ 1 1 [n] _ (by exact Rd.new _ _ _ _ _ _ rfl rfl) (by omega)).mono ?_;rintro e w' ⟨rfl,rfl⟩;rw [JK];go_wp2_with fail;refine (GZ _ _ _).mono ?_;rintro e w' ⟨rfl,rfl⟩;go_wp2_with fail;have BA:=(Blk.new (w2.alloc (.cells #[.int .i64 n] 3)) 3 #[.int .i64 a0] (w2.heap.size+1) (by simp)).alloc (.cells #[.int .i64 (jY n)] 3);have BN:=Blk.new ((w2.alloc (.cells #[.int .i64 n] 3)).alloc (.cells #[.int .i64 a0] 3)) 3 #[.int .i64 (jY n)] (w2.heap.size+1+1) (by simp);have BC3:=((BC2.alloc (.cells #[.int .i64 n] 3)).alloc (.cells #[.int .i64 a0] 3)).alloc (.cells #[.int .i64 (jY n)] 3);have hbW3:=bAl (bAl (bAl hbW2 (.cells #[.int .i64 n] 3)) (.cells #[.int .i64 a0] 3)) (.cells #[.int .i64 (jY n)] 3);have hsW:W.heap.size<w2.heap.size:=BC2.lt;generalize ((w2.alloc (.cells #[.int .i64 n] 3)).alloc (.cells #[.int .i64 a0] 3)).alloc (.cells #[.int .i64 (jY n)] 3)=w3 at *;generalize w2.heap.size=bs at *;have hb1:=BA.lt;have hb2:=BN.lt;clear BC2 hbW2
  refine jX 2 (gf:=229) (lb:=#[.pointer (some ⟨bs+1+1,0,none⟩),.pointer (some ⟨bs+1,0,none⟩)]) rfl (enters_of func229 (by kernel_rfl) rfl)
   (S:=fun ys=>kU ys=eu a0 (jY n)) (Sp:=fun _=>True) (N:=31) (w0:=w3)
   (Dq (bs+1) (bs+1+1) a0 (jY n) (fun k=>k=bs+1∨k=bs+1+1) (by omega) (.inl rfl) (.inr rfl) w3 BA BN ha0 (UD n))
   (fun k hk=>by omega)
   Keeps.trans (Keeps.put (fun k hk=>by omega)) (aj _) (fun _=>rfl)
   (fun pre W'=>Blk W' W.heap.size 3 #[.int .i64 (kU pre)]∧Below W.heap.size W W')
   (fun x a₁ pre W'=>(Blk W' W.heap.size 3 #[.int .i64 (kU pre)]∧Below W.heap.size W W')∧a₁={ tmps:=#[.int .i64 a0,.int .i64 n,undef,undef,.pointer (some ⟨W.heap.size,0,none⟩),.int .i64 0,.int .i64 x.sq,.bool x.bit,.int .i64 a0,.bool true,.bool false,.int .i64 a0,.int .i64 n,.slice (some ⟨bs,0,none⟩) 1 1,.int .i64 (jY n),
    .func (.func 229) #[] #[.pointer (some ⟨bs+1+1,0,none⟩),.pointer (some ⟨bs+1,0,none⟩)],.int .i64 x.sq,.bool x.bit,undef,undef,undef,undef,undef,undef],defers:=[] })
   (fun _ _ _=>False)
   (fun pre A' B' row h hg hr=>⟨h.1.kept hg hr,gz h.2 hg hbW3.size hr⟩)
   (fun x a pre A' B' row h hg hr=>⟨⟨h.1.1.kept hg hr,gz h.1.2 hg hbW3.size hr⟩,h.2⟩)
   (fun _ _ _ _ _ h _ _=>h)
   (fun pre W' p v h ht=>⟨h.1.far (by intro e;rw [←e] at ht;omega) _,zQ7 h.2 (by omega) _⟩)
   (fun _ _ _ _ _ h _=>h)
   ⟨BC3,hbW3⟩ ?assign ?body ?done ?stop
  case assign =>
   rintro L pre x Wc ⟨hL,hbc⟩ hlen;dsimp only [Sq.encs]
   gi_wp2
   exact ⟨KeepsOthers.refl _,Keeps.refl _ _,⟨hL,hbc⟩,trivial⟩
  case body =>
   rintro L pre x a₁ Wc ⟨⟨hL,hbc⟩,rfl⟩ hlen;have d1:Wc.cell? ⟨W.heap.size,0,none⟩=some (.int .i64 (kU pre)):=hL.cell 0;have d2:=hL.frozen 0;have hpl:=G5 pre;have hsq:=x.lt;have hm:=G7 hpl hsq;have hsn:=aab (AQ pre x);cases hbit:x.bit
   ·have hs1:Hid (kU (pre++[x])=kU pre):=by show _=_;rw [hsn.out,hbit];rfl
    clear hbit
    gi_wp2
    exact ⟨KeepsOthers.refl _,Keeps.refl _ _,by rw [hs1.out];exact hL,hbc⟩
   ·have hs1:Hid (((kU pre:Int)*x.sq % 2147483579)=((kU (pre++[x]):Nat):Int)):=by show _=_;rw [hsn.out,hbit,if_pos rfl];simp [Pn]
    clear hbit
    gi_wp2
    rw [hs1.out];exact ⟨KeepsOthers.setCell _ _ _,(Keeps.refl _ _).setCell (by show ¬(W.heap.size=bs+1∨W.heap.size=bs+1+1);omega) _,hL.set_ 0 _,zQ7 hbc (aad _) _⟩
  case done =>
   rintro D xs Wc hD hp ⟨hL,hbc⟩ hd;have hp':=aab hp;rw [hp] at hL;clear hp;have d1:Wc.cell? ⟨W.heap.size,0,none⟩=some (.int .i64 (eu a0 (jY n))):=hL.cell 0;have d2:=hL.frozen 0;have hD':W.heap.size≤D:=aaj hbW3.size hD
   have hdd:(Wc.setCell ⟨W.heap.size,0,none⟩ (.int .i64 (eu a0 (jY n)))).heap[D]?=some (.deferred (some [])):=by
    rw [Below.heap_setCell _ _ _ _ (by intro e;subst e;unfold Blk at hL;rw [hL] at hd;cases hd)];exact hd
   have hE2:=(hL.set_ 0 (.int .i64 (eu a0 (jY n)))).put (o' := .deferred none) hdd rfl;go_wp2_with fail;refine cZ (by simp) hdd ?_;have e1:=hE2.cell 0;exact ⟨.tuple #[.int .i64 (eu a0 (jY n)),.int .i64 0],by simp [results,results94,go_sem,e1],nN hv.out.symm he.out.symm,uQ (zQ7 hbc (aad _) _) hD' _⟩
  case stop =>
   rintro D c' pre Wc _ _ h _;exact h.elim
end
section
open Go.RowKit
theorem gB:(prog.info? 169).map (fun i=>(i.zero,i.size,i.bytes))=some (some (.agg #[.int .i64 0,.int .i64 0,.string ⟨#[]⟩,.slice none 0 0]),4,56):=by kernel_rfl
theorem xY (x:It):∀ u∈x.cells,u.oneCell'=true:=by
 cases x <;> (intro u hu;simp [It.cells] at hu;rcases hu with rfl | rfl | rfl | rfl <;> rfl)
def inI (n:Int):Prop := -9223372036854775808≤n∧n≤9223372036854775807
theorem kV {w:World} {b:Nat} {t:TypeId} {x0 x1 x2 x3:Value} (h:Blk w b t #[x0,x1,x2,x3]):w.cell? ⟨b,3,none⟩=some x3:=h.cell 3
theorem gX {w:World} {base:Nat} {e:TypeId} {size n:Nat} {v:Value} {xs:List Value} (h:w.ownsRow base e size v n xs) {p:Addr} (hp:p.block<base) (u:Value):(w.setCell p u).ownsRow base e size v n xs:=by
 refine h.kept (row:=some p.block) ⟨rfl,rfl,rfl,by simp [World.setCell],fun k _ hk=>Below.heap_setCell _ _ _ k (fun e=>hk (by rw [e]))⟩ ?_;cases hv:v.ownBlock with
 | none=>exact .inl rfl
 | some k=>exact .inr (by intro e;injection e with e;have:=(h.lt k hv).1;omega)
theorem AU (A:Option Addr) (n c:Nat) (l:List Int) (W:World) (hA:Rd W W.heap.size 1 A n (ints l)) (hok:∀ x∈l,inI x) (hn:n≤100) :
  Calls prog 202 #[.slice A n c] W (kL 1 (bZ (l.map It.int)).length (ag (bZ (l.map It.int))) W):=by
 obtain rfl:l.length=n:=by have:=hA.1;rw [lU,aaA] at this;exact this
 go_enter func202,ntmps202;go_wp2_with fail;have BV:=Blk.new W 169 #[.int .i64 3,.int .i64 0,.string ⟨#[]⟩,.slice none 0 0] _ rfl;have hb:=bAl (aj W) (.cells #[.int .i64 3,.int .i64 0,.string ⟨#[]⟩,.slice none 0 0] 169);generalize W.alloc (.cells #[.int .i64 3,.int .i64 0,.string ⟨#[]⟩,.slice none 0 0] 169)=w1 at *;go_loopw [11] (fun i wr=>∃ (k:Nat) (v:Value),k≤l.length∧i = .int .i64 k∧Below W.heap.size W wr∧Blk wr W.heap.size 169 #[.int .i64 3,.int .i64 0,.string ⟨#[]⟩,v]∧wr.ownsRow (W.heap.size+1) 169 4 v k (((l.take k).map It.int).flatMap It.cells)) (fun i _=>l.length - (intOf i).toNat)
 case atStart=>exact ⟨0,_,aao _,rfl,hb,BV,World.ownsRow_nil _ _ _ _⟩
 case round =>
  clear hb BV;obtain ⟨k,v,hk,rfl,hb,BV,hown⟩:=hrel;have c3:wr.cell? ⟨W.heap.size,3,none⟩=some v:=BV.cell 3;have z3:=BV.frozen 3;by_cases hlt:k<l.length
  ·obtain ⟨x,hx⟩:∃ x,Hid (l[k]?=some x):=⟨_,aab (aac hlt)⟩
   obtain ⟨b,off,rfl,hbb,d0⟩:=jq (hA.below hb) hlt hx.out
   have hsn:Hid (((l.take (k+1)).map It.int).flatMap It.cells=((l.take k).map It.int).flatMap It.cells++(It.int x).cells):=by
    obtain ⟨hk,rfl⟩:=aag.1 hx.out;show _=_;rw [aaB hk,aaT,aaP];simp
   have hbs:W.heap.size+1≤wr.heap.size:=BV.lt;have hone:=xY (.int x);have h63:k+1≤maxLen:=(by unfold maxLen;omega);have hby:(k+1)*56≤140737488355328:=(by omega);go_wp2_with (at_builtin;refine aO wr [.int .i64 1,.int .i64 x,.string ⟨#[]⟩,.slice none 0 0] (.tmp 16) (.tmp 19) 167 (W.heap.size+1) 169 (.agg #[.int .i64 0,.int .i64 0,.string ⟨#[]⟩,.slice none 0 0]) 4 56 v k (((l.take k).map It.int).flatMap It.cells) rfl rfl underlying167 gB rfl (by omega) rfl hown rfl rfl hone h63 hby hbs ?_;intro v' w' hown4 hg4;obtain ⟨g',cap',rfl⟩:=ownsRow_succ hown4;have b4:=hg4.below hown hbs;have BV4:=BV.below b4 (by omega);have c4:=kV BV4;have z4:=BV4.frozen 3)
   go_roundw
   case rel =>
    exact ⟨k+1,_,by omega,by go_num,zQ7 (hb.trans (b4.mono (by omega))) (aad _) _,BV4.set_ 3 _,by rw [hsn.out];exact gX hown4 (p:=⟨W.heap.size,3,none⟩) (by show W.heap.size<W.heap.size+1;omega) _⟩
   case measure=>simp [intOf];omega
  ·have hkn:k=l.length:=by omega
   rw [hkn,abk] at hown;clear hkn;obtain ⟨A2,c2,hv,hR,_⟩:=Sl.of_own hown;subst hv;have e0:wr.cell? ⟨W.heap.size,0,none⟩=some (.int .i64 3):=BV.cell 0;have e1:wr.cell? ⟨W.heap.size,1,none⟩=some (.int .i64 0):=BV.cell 1;have e2:wr.cell? ⟨W.heap.size,2,none⟩=some (.string ⟨#[]⟩):=BV.cell 2
   have q:=lX A2 l.length c2 (l.map It.int) wr hR (by
    intro x hx;obtain ⟨y,hy,rfl⟩:=aaK.1 hx;exact hok y hy) (by omega)
   unfold gJ at q;go_wp2_with fail
   with_reducible refine q.mono ?_
   rintro e w5 ⟨v,rfl,b5,hv⟩;have hb5:=ah hb b5;go_wp2_with fail;go_ret;exact ⟨_,rfl,hb5,hv⟩
theorem jZ {l:List It} (h:∀ x∈l,x.ok) (hl:l.length≤1000):(bZ l).length≤1000012012:=by
 have h1:=vT h;have h2:=(fP 10 l.length).2;have h3:l.length*1000012≤1000*1000012:=Nat.mul_le_mul_right _ hl;unfold bZ;rw [aas,aan];unfold iV;omega
def QI:ByteArray:=⟨#[101,113,117,97,108]⟩
def yV (key a d r s:Int):Nat:=qV (sb QI) (bZ [.int key,.int a,.int d,.int r,.int s])
theorem XM (key a d r s:Int) (W:World) (h1:inI key) (h2:inI a) (h3:inI d) (h4:inI r) (h5:inI s) (hG:ShaG W) :
  Calls prog 203 #[.int .i64 key,.int .i64 a,.int .i64 d,.int .i64 r,.int .i64 s] W (Ret (.int .i64 (yV key a d r s:Nat)) W):=by
 go_enter func203,ntmps203;go_wp2_with fail
 refine (AU _ 5 5 [key,a,d,r,s] _ (by exact Rd.new W (ints [key,a,d,r,s]) _ 1 5 _ rfl rfl) (by
  intro x hx;simp only [aaq,aaw,or_false] at hx;rcases hx with rfl | rfl | rfl | rfl | rfl <;> assumption) (by omega)).mono ?_
 rintro e w2 ⟨v,rfl,b2,A2,c2,rfl,hR,_,_,hnil⟩;have hb2:=ah (bAl (aj W) _) b2;clear b2
 have hl:=jZ (l:=[.int key,.int a,.int d,.int r,.int s]) (by
  intro x hx;simp only [aaq,aaw,or_false] at hx;rcases hx with rfl | rfl | rfl | rfl | rfl <;> assumption) (by simp)
 have q:=qX QI A2 _ c2 _ w2 hR hnil (iI _) (by decide) (aaj hl (by decide)) (hG.below hb2);clear hl hR hnil;have q2:Calls prog 174 #[.string ⟨#[101,113,117,97,108]⟩,.slice A2 (bZ [.int key,.int a,.int d,.int r,.int s]).length c2] w2 (Ret (.int .i64 (yV key a d r s:Nat)) w2):=q;go_wp2_with fail
 with_reducible refine q2.mono ?_
 rintro e w3 ⟨rfl,b3⟩;have hb3:=ah hb2 b3;clear q q2;go_wp2_with fail;go_ret;exact ⟨rfl,hb3⟩
def iF (l:List Int):Int:=l.foldl oz 1
def lZ (n:Int):Bool:=decide (0≤n∧n<1073741789)
theorem DX (l:List Int) (x:Int):iF (l++[x])=oz (iF l) x:=by simp [iF]
theorem jL (a n:Int) (W:World):Calls prog 138 #[.int .i64 a,.int .i64 n] W (Ret (.int .i64 (aJ a n)) W):=by
 have q:=pJ a n W;go_enter func138,ntmps138;go_wp2_with fail
 with_reducible refine q.mono ?_
 rintro e w1 ⟨rfl,b1⟩;clear q;go_wp2_with fail;go_ret;exact ⟨rfl,b1⟩
theorem uw (n:Int) (W:World):Calls prog 224 #[.int .i64 n] W (Same (.bool (lZ n)) W):=by
 by_cases h:0≤n
 ·by_cases h2 : n < 1073741789
  ·have hd:Hid (lZ n=true):=decide_eq_true ⟨h,h2⟩
   go_enter func224,ntmps224;go_wp2_with fail;go_ret;rw [hd.out];exact ⟨rfl,rfl⟩
  ·have hd:Hid (lZ n=false):=decide_eq_false (fun c=>h2 c.2)
   go_enter func224,ntmps224;go_wp2_with fail;go_ret;rw [hd.out];exact ⟨rfl,rfl⟩
 ·have hd:Hid (lZ n=false):=decide_eq_false (fun c=>h c.1)
  go_enter func224,ntmps224;go_wp2_with fail;go_ret;rw [hd.out];exact ⟨rfl,rfl⟩
theorem OL (A:Option Addr) (n c:Nat) (l:List Int) (W:World) (hA:Rd W W.heap.size 1 A n (ints l)) (hn:n≤1000) :
  Calls prog 137 #[.slice A n c] W (Same (.int .i64 (iF l)) W):=by
 obtain rfl:l.length=n:=by have:=hA.1;rw [lU,aaA] at this;exact this
 go_enter func137,ntmps137;go_wp2_with fail;go_loop [3,8] (fun s i=>∃ k:Nat,k≤l.length∧i = .int .i64 k∧s = .int .i64 (iF (l.take k))) (fun _ i=>l.length - (intOf i).toNat)
 case atStart=>exact ⟨0,aao _,rfl,rfl⟩
 case round =>
  obtain ⟨k,hkn,rfl,rfl⟩:=hrel;by_cases hlt:k<l.length
  ·obtain ⟨x,hx⟩:∃ x,Hid (l[k]?=some x):=⟨_,aab (aac hlt)⟩
   obtain ⟨b,off,rfl,hbb,c0⟩:=jq hA hlt hx.out
   have hs:Hid (iF (l.take (k+1))=oz (iF (l.take k)) x):=by
    show _=_;obtain ⟨hk,rfl⟩:=aag.1 hx.out;rw [aaB hk,DX]
   have q:=xX (iF (l.take k)) x W;go_wp2_with fail;refine q.mono ?_;rintro e w1 ⟨rfl,rfl⟩;clear q;go_wp2_with fail;exact ⟨⟨k+1,by omega,by go_num,by rw [hs.out]⟩,by simp [intOf];omega⟩
  ·go_wp2_with fail
   go_ret;exact ⟨eX (by rw [aaH (by omega)]),rfl⟩
theorem ML (a b:Int):0≤oz a b∧oz a b<2147483579:=by
 unfold oz
 split
 ·split
  ·exact ⟨Int.emod_nonneg _ (by omega),Int.emod_lt_of_pos _ (by omega)⟩
  ·omega
 ·omega
theorem zU (l:List Int):inI (iF l):=by
 rcases List.eq_nil_or_concat l with rfl | ⟨l,x,rfl⟩
 ·exact (⟨by omega,by omega⟩:inI 1)
 ·rw [List.concat_eq_append,DX]
  have:=ML (iF l) x
  unfold inI;omega
theorem nO (a b:Int) (W:World) :
  Calls prog 137 #[.slice (some ⟨W.heap.size,0,none⟩) 2 2] (W.alloc (.cells #[.int .i64 a,.int .i64 b] 3)) (Same (.int .i64 (iF [a,b])) (W.alloc (.cells #[.int .i64 a,.int .i64 b] 3))) :=
 OL _ 2 2 [a,b] _ (Rd.new W (ints [a,b]) _ 1 2 _ rfl rfl) (by omega)
def iO (n:Int):Bool:=decide (1≤n∧n<1073741789)
theorem xZ (n:Int) (W:World):Calls prog 93 #[.int .i64 n] W (Same (.bool (iO n)) W):=by
 by_cases h:1≤n
 ·by_cases h2 : n < 1073741789
  ·have hd:Hid (iO n=true):=decide_eq_true ⟨h,h2⟩
   go_enter func93,ntmps93;go_wp2_with fail;go_ret;rw [hd.out];exact ⟨rfl,rfl⟩
  ·have hd:Hid (iO n=false):=decide_eq_false (fun c=>h2 c.2)
   go_enter func93,ntmps93;go_wp2_with fail;go_ret;rw [hd.out];exact ⟨rfl,rfl⟩
 ·have hd:Hid (iO n=false):=decide_eq_false (fun c=>h c.1)
  go_enter func93,ntmps93;go_wp2_with fail;go_ret;rw [hd.out];exact ⟨rfl,rfl⟩
def pK (s:Int):Int:=if iO s=true then aJ 4 s else 0
def x8 (s:Int):Int:=if iO s=true then zC 4 else 110
theorem pM (s:Int) (W:World):Calls prog 23 #[.int .i64 s] W (Ret (.tuple #[.int .i64 (pK s),.int .i64 (x8 s)]) W):=by
 have q:=xZ s W;cases h:iO s
 ·rw [h] at q
  have h1:Hid (pK s=0):=if_neg (by simp [h]);have h2:Hid (x8 s=110):=if_neg (by simp [h]);go_enter func23,ntmps23;go_wp2_with fail;refine q.mono ?_;rintro e w1 ⟨rfl,rfl⟩;clear q;go_wp2_with fail;go_ret2;rw [h1.out,h2.out];exact ⟨rfl,aj _⟩
 ·rw [h] at q
  have h1:Hid (pK s=aJ 4 s):=if_pos h;have h2:Hid (x8 s=zC 4):=if_pos h;have q2:=pJ 4 s W;go_enter func23,ntmps23;go_wp2_with fail;refine q.mono ?_;rintro e w1 ⟨rfl,rfl⟩;clear q;go_wp2_with fail;refine q2.mono ?_;rintro e w1 ⟨rfl,b⟩;clear q2;go_wp2_with fail;go_ret2;rw [h1.out,h2.out];exact ⟨rfl,b⟩
theorem AV (a n:Int) (W:World):Calls prog 126 #[.int .i64 a,.int .i64 n] W (Ret (.int .i64 (aJ a n)) W):=by
 have q:=pJ a n W;go_enter func126,ntmps126;go_wp2_with fail
 with_reducible refine q.mono ?_
 rintro e w1 ⟨rfl,b1⟩;clear q;go_wp2_with fail;go_ret;exact ⟨rfl,b1⟩
def kW:Int→List Int→Option Int
 | c,[]=>some c
 | c,x::l=>if qQ c x=0 then kW (oz c x) l else none
theorem JL (c:Int) (l:List Int) (x:Int):kW c (l++[x])=(kW c l).bind (fun v=>if qQ v x=0 then some (oz v x) else none):=by
 induction l generalizing c with
 | nil=>simp only [aaJ,kW,Option.bind_some]
 | cons y l ih =>
  simp only [aaN,kW]
  split
  ·exact ih _
  ·rfl
theorem XR {c:Int} {l:List Int} (h:kW c l=none) (m:List Int):kW c (l++m)=none:=by
 induction l generalizing c with
 | nil=>simp [kW] at h
 | cons y l ih =>
  simp only [aaN,kW] at h ⊢
  split
  ·rename_i hc
   rw [if_pos hc] at h;exact ih h
  ·rfl
theorem QJ (a b:Int):qQ a b=0∨qQ a b=90:=by
 unfold qQ;split
 ·split <;> simp
 ·simp
def AY (l:List Int):Int:=(kW 1 l).getD 0
def uy (l:List Int):Int:=if (kW 1 l).isSome then 0 else 90
theorem UE (A:Option Addr) (n c:Nat) (l:List Int) (W:World) (hA:Rd W W.heap.size 1 A n (ints l)) (hn:n≤1000) :
  Calls prog 129 #[.slice A n c,.int .i64 1,.func (.func 130) #[] #[]] W (Same (.tuple #[.int .i64 ((kW 1 l).getD 1),.int .i64 (uy l)]) W):=by
 obtain rfl:l.length=n:=by have:=hA.1;rw [lU,aaA] at this;exact this
 go_enter func129,ntmps129;go_wp2_with fail;go_loop [6,13] (fun s i=>∃ (k:Nat) (v:Int),k≤l.length∧i = .int .i64 k∧s = .int .i64 v∧kW 1 (l.take k)=some v) (fun _ i=>l.length - (intOf i).toNat)
 case atStart=>exact ⟨0,1,aao _,rfl,rfl,rfl⟩
 case round =>
  obtain ⟨k,v,hkn,rfl,rfl,hv⟩:=hrel;by_cases hlt:k<l.length
  ·obtain ⟨x,hx⟩:∃ x,Hid (l[k]?=some x):=⟨_,aab (aac hlt)⟩
   obtain ⟨b,off,rfl,hbb,c0⟩:=jq hA hlt hx.out
   have hs:Hid (kW 1 (l.take (k+1))=if qQ v x=0 then some (oz v x) else none):=by
    show _=_;obtain ⟨hk,rfl⟩:=aag.1 hx.out;rw [aaB hk,JL,hv];rfl
   have q:=xX v x W;rcases QJ v x with he | he
   ·rw [he] at q
    go_wp2_with fail;refine q.mono ?_;rintro e w1 ⟨rfl,rfl⟩;clear q;go_wp2_with fail;exact ⟨⟨k+1,_,by omega,by go_num,rfl,by rw [hs.out,if_pos he]⟩,by simp [intOf];omega⟩
   ·have hnone:Hid (kW 1 l=none):=by
     show _=_
     have:=hs.out
     rw [if_neg (by omega)] at this
     have:=XR this (l.drop (k+1))
     rwa [List.take_append_drop] at this
    rw [he] at q;go_wp2_with fail;refine q.mono ?_;rintro e w1 ⟨rfl,rfl⟩;clear q;go_wp2_with fail;go_ret2;unfold uy;rw [hnone.out];exact ⟨rfl,rfl⟩
  ·rw [aaH (by omega)] at hv
   have hv':Hid (kW 1 l=some v):=hv;clear hv;go_wp2_with fail;go_ret2;unfold uy;rw [hv'.out];exact ⟨rfl,rfl⟩
theorem UF (A:Option Addr) (n c:Nat) (l:List Int) (W:World) (hA:Rd W W.heap.size 1 A n (ints l)) (hn:n≤1000) :
  Calls prog 42 #[.slice A n c] W (Same (.tuple #[.int .i64 (AY l),.int .i64 (uy l)]) W):=by
 have q:=UE A n c l W hA hn;cases h:kW 1 l with
 | none =>
  have e1:Hid (AY l=0):=by show _=_;unfold AY;rw [h];rfl
  have e2:Hid (uy l=90):=by show _=_;unfold uy;rw [h];rfl
  rw [h,e2.out] at q;rw [e1.out,e2.out];clear h;go_enter func42,ntmps42;go_wp2_with fail;refine q.mono ?_;rintro e w1 ⟨rfl,rfl⟩;clear q;go_wp2_with fail;go_ret2;exact ⟨rfl,rfl⟩
 | some v =>
  have e1:Hid (AY l=v):=by show _=_;unfold AY;rw [h];rfl
  have e2:Hid (uy l=0):=by show _=_;unfold uy;rw [h];rfl
  rw [h,e2.out] at q;rw [e1.out,e2.out];clear h;go_enter func42,ntmps42;go_wp2_with fail;refine q.mono ?_;rintro e w1 ⟨rfl,rfl⟩;clear q;go_wp2_with fail;go_ret2;exact ⟨rfl,rfl⟩
def fU (l:List Int):Int:=l.foldl (fun c x=>c*x % 2147483579) 1
theorem yX (l:List Int) (x:Int):fU (l++[x])=fU l*x % 2147483579:=by simp [fU]
def inP (n:Int):Prop:=0≤n∧n<2147483579
theorem iC (l:List Int):inP (fU l):=by
 rcases List.eq_nil_or_concat l with rfl | ⟨l,x,rfl⟩
 ·exact (⟨by omega,by omega⟩:inP 1)
 ·rw [List.concat_eq_append,yX]
  exact ⟨Int.emod_nonneg _ (by omega),Int.emod_lt_of_pos _ (by omega)⟩
theorem QK (A:Option Addr) (n c:Nat) (l:List Int) (W:World) (hA:Rd W W.heap.size 1 A n (ints l)) (hn:n≤1000) (hin:∀ x∈l,inP x) :
  Calls prog 125 #[.slice A n c] W (Same (.int .i64 (fU l)) W):=by
 obtain rfl:l.length=n:=by have:=hA.1;rw [lU,aaA] at this;exact this
 go_enter func125,ntmps125;go_wp2_with fail;go_loop [3,8] (fun s i=>∃ k:Nat,k≤l.length∧i = .int .i64 k∧s = .int .i64 (fU (l.take k))) (fun _ i=>l.length - (intOf i).toNat)
 case atStart=>exact ⟨0,aao _,rfl,rfl⟩
 case round =>
  obtain ⟨k,hkn,rfl,rfl⟩:=hrel;by_cases hlt:k<l.length
  ·obtain ⟨x,hx⟩:∃ x,Hid (l[k]?=some x):=⟨_,aab (aac hlt)⟩
   obtain ⟨b,off,rfl,hbb,c0⟩:=jq hA hlt hx.out
   have hs:Hid (fU (l.take (k+1))=fU (l.take k)*x % 2147483579):=by
    show _=_;obtain ⟨hk,rfl⟩:=aag.1 hx.out;rw [aaB hk,yX]
   obtain ⟨x1,x2⟩:=hin x (aam hx.out);obtain ⟨r1,r2⟩:=iC (l.take k);obtain ⟨m1,m2⟩:=MK r1 x1 r2 x2;go_wp2_with fail;exact ⟨⟨k+1,by omega,by go_num,by rw [hs.out]⟩,by simp [intOf];omega⟩
  ·go_wp2_with fail
   go_ret;exact ⟨eX (by rw [aaH (by omega)]),rfl⟩
theorem x9 (a b:Int) (W:World) (ha:inP a) (hb:inP b) :
  Calls prog 125 #[.slice (some ⟨W.heap.size,0,none⟩) 2 2] (W.alloc (.cells #[.int .i64 a,.int .i64 b] 3)) (Same (.int .i64 (fU [a,b])) (W.alloc (.cells #[.int .i64 a,.int .i64 b] 3))) :=
 QK _ 2 2 [a,b] _ (Rd.new W (ints [a,b]) _ 1 2 _ rfl rfl) (by omega) (by intro x hx;simp at hx;rcases hx with rfl | rfl <;> assumption)
theorem vY (a n:Int):inP (aJ a n):=by
 unfold aJ
 split
 ·have h:eu a.toNat (jY n)<2147483579:=EP a.toNat (jY n)
  unfold inP;omega
 ·exact ⟨by omega,by omega⟩
end
section
open Go
section
variable {P:Program} {ops:Array Oper} {Q:Exit→Act→World→Prop} {md:Region.Mode} {S:World→Prop} {f:Nat}
def lI (P:Program) (md:Region.Mode) (ops:Array Oper) (Q:Exit→Act→World→Prop) (S:World→Prop) (f:Nat):Nat→Array Bool→Act→World→Prop
 | 0,listed,a,w=>Region.ready md ops listed=[]∧Q .normal a w
 | g+1,listed,a,w=>(Region.ready md ops listed=[]→Q .normal a w) ∧
  ∀ i∈Region.ready md ops listed,wpOp P ops Q i (fun a' w'=>((listed.setIfInBounds i true).getD f true=false→S w')∧lI P md ops Q S f g (listed.setIfInBounds i true) a' w') a w
theorem jF:∀ (g:Nat) (listed:Array Bool) (a:Act) (w:World),lI P md ops Q S f g listed a w→wpAny P md ops Q g listed a w
 | 0,_,_,_,h=>h
 | g+1,_,_,_,h=>⟨h.1,fun i hi=>wpOp_mono (fun a' w' h'=>jF g _ a' w' h'.2) (h.2 i hi)⟩
def Clo (md:Region.Mode) (ops:Array Oper) (listed:Array Bool):Prop :=
 listed.size=ops.size∧∀ j oj,ops[j]?=some oj→listed.getD j false=true→∀ e∈oj.after,Region.binds md e=true→listed.getD e.on false=true
def ES (md:Region.Mode) (ops:Array Oper) (listed:Array Bool):Bool :=
 decide (listed.size=ops.size)&&(List.range ops.size).all fun j=>!(listed.getD j false)||match ops[j]? with
  | some oj=>oj.after.all fun e=>!(Region.binds md e)||listed.getD e.on false
  | none=>true
theorem l9 {listed:Array Bool} (h:ES md ops listed=true):Clo md ops listed:=by
 simp only [ES,aal,decide_eq_true_eq,aau,aaE] at h;refine ⟨h.1,fun j oj hj hl e he hb=>?_⟩;have h1:=h.2 j (aaI.1 hj).1;simp only [hl,hj,Bool.not_true,Bool.false_or,abC] at h1;have h2:=h1 e he;simpa [hb] using h2
theorem Clo.set {i:Nat} {listed:Array Bool} (inv:Clo md ops listed) (hi:i∈Region.ready md ops listed):Clo md ops (listed.setIfInBounds i true):=by
 obtain ⟨_,oi,hoi,hall⟩:=mem_ready.1 hi;refine ⟨by simp [inv.1],fun j oj hj hl e he hb=>?_⟩;by_cases hij:i=j
 ·subst hij
  have:oj=oi:=Option.some.inj (hj.symm.trans hoi)
  subst this;exact getD_set_true (hall e he hb)
 ·rw [getD_set_ne false hij] at hl
  exact getD_set_true (inv.2 j oj hj hl e he hb)
def vZ (md:Region.Mode) (ops:Array Oper) (f:Nat):Nat→List Nat→Bool
 | i,[]=>i==f
 | i,j::l=>Region.waitsFor md ops j i&&vZ md ops f j l
theorem pO {listed:Array Bool} (hc:Clo md ops listed):∀ (l:List Nat) (i:Nat),vZ md ops f i l=true→listed.getD i true=false→listed.getD f true=false
 | [],i,h,hu=>by
  have:i=f:=by simpa [vZ] using h
  exact this▸hu
 | j::l,i,h,hu=>by
  simp only [vZ,aal] at h;obtain ⟨oj,hoj,e,he,hb,hon⟩:=Region.waitsFor_spec h.1;refine pO hc l j h.2 (getD_in (by rw [hc.1];exact (aaI.1 hoj).1) ?_);cases hl:listed.getD j false with
  | false=>rfl
  | true =>
   have h2:=hc.2 j oj hoj hl e he hb;rw [hon,getD_both hu] at h2;cases h2
theorem jM {i:Nat} {oi:Oper} {v:Value} {T:World→Prop} (hi:ops[i]?=some oi) (hsel:∀ (j:Nat) (o:Oper) cs b,ops[j]?=some o→o.op ≠ .select cs b)
  (hQ:∀ c a w,Q (.panic c) (a.put oi.dst v) w→Q (.panic c) a w) (hif:i≠f) (hT:∀ listed w,Clo md ops listed→listed.getD i true=false→(listed.getD f true=false→S w)→T w) :
  ∀ (g:Nat) (listed:Array Bool) (a:Act) (w:World),Clo md ops listed →
   (∀ j oj,ops[j]?=some oj→j≠i→listed.getD j true=false→(∀ e∈oj.after,Region.binds md e=true→e.on≠i)→oi.apart ops oj=true) →
   i∈Region.ready md ops listed→YieldsIf P ops T oi v a→(listed.getD f true=false→S w) →
   lI P md ops Q S f g (listed.setIfInBounds i true) (a.put oi.dst v) w→lI P md ops Q S f (g+1) listed a w:=by
 intro g;induction g with
 | zero =>
  intro listed a w hc _ hr hy hS H;have hS':=hT _ _ hc (mem_ready.1 hr).1 hS;refine ⟨fun h=>(by rw [h] at hr;cases hr),fun j hj=>?_⟩;by_cases hji:j=i
  ·subst hji;exact hy.wpOp hi hS' ⟨fun hf=>hS (by rw [getD_set_ne true hif] at hf;exact hf),H⟩
  ·have:=ready_mono hj hji
   rw [H.1] at this;cases this
 | succ g ih =>
  intro listed a w hc hfree hr hy hS H;have hun:=(mem_ready.1 hr).1;have hS':=hT _ _ hc hun hS;refine ⟨fun h=>(by rw [h] at hr;cases hr),fun j hj=>?_⟩;by_cases hji:j=i
  ·subst hji;exact hy.wpOp hi hS' ⟨fun hf=>hS (by rw [getD_set_ne true hif] at hf;exact hf),H⟩
  ·have h1:=H.2 j (ready_mono hj hji)
   obtain ⟨hjun,oj,hoj,hall⟩:=mem_ready.1 hj
   have hnot:∀ e∈oj.after,Region.binds md e=true→e.on≠i:=fun e he hb heq=>by
    have h1:=hall e he hb;rw [heq,getD_both hun] at h1;cases h1
   have h2:=wpOp_putIf hoj (hfree j oj hoj hji hjun hnot) (fun cs b=>hsel i oi cs b hi) (fun cs b=>hsel j oj cs b hoj) hQ hy h1
   have hfree':∀ k ok,ops[k]?=some ok→k≠i→(listed.setIfInBounds j true).getD k true=false →
     (∀ e∈ok.after,Region.binds md e=true→e.on≠i)→oi.apart ops ok=true:=fun k ok hk hki hun hno=>by
    refine hfree k ok hk hki ?_ hno;by_cases hjk:j=k
    ·subst hjk;exact hjun
    ·rw [getD_set_ne true hjk] at hun;exact hun
   refine wpOp_mono (fun a' w' h3=>?_) h2
   have hS2:(listed.setIfInBounds j true).getD f true=false→S w':=fun hf=>by
    apply h3.2.1;rw [Array.setIfInBounds_comm _ _ (Ne.symm hji),getD_set_ne true hif];exact hf
   refine ⟨hS2,ih (listed.setIfInBounds j true) a' w' (hc.set hj) hfree' (ready_mono hr (Ne.symm hji)) h3.1 hS2 ?_⟩;rw [Array.setIfInBounds_comm _ _ hji];exact h3.2.2
theorem mf {listed:Array Bool} {a:Act} {w:World} (hr:Region.ready md ops listed=[]) (h:Q .normal a w):∀ g,lI P md ops Q S f g listed a w
 | 0=>⟨hr,h⟩
 | _+1=>⟨fun _=>h,by rw [hr];simp⟩
def nP (md:Region.Mode) (ops:Array Oper) (f:Nat):Nat→Nat→List Nat
 | 0,_=>[]
 | d+1,i=>if Region.waitsFor md ops f i then [f] else
  match (List.range f).find? (fun j=>decide (i<j)&&Region.waitsFor md ops j i && !(nP md ops f d j).isEmpty) with
  | some j=>j::nP md ops f d j
  | none=>[]
def ku:List Nat→List Oper→List (Bool×Oper)
 | 0::m,_::l=>ku m l
 | 1::m,o::l=>(false,o)::ku m l
 | _::m,o::l=>(true,o)::ku m l
 | _,_=>[]
def jf:List Nat→List Oper→List Oper
 | 0::m,o::l=>o::jf m l
 | (_+1)::m,_::l=>jf m l
 | _,_=>[]
def gY (P:Program) (ops:Array Oper) (S:World→Prop) (K:Act→Prop):List (Bool×Oper)→Act→Prop
 | [],a=>K a
 | (b,o)::l,a=>∃ v,YieldsIf P ops (bif b then S else fun _=>True) o v a∧gY P ops S K l (a.put o.dst v)
def jy (P:Program) (ops:Array Oper) (Q:Exit→Act→World→Prop) (S:World→Prop):Nat→List Oper→Act→World→Prop
 | n+1,o::l,a,w=>if Region.wanted o (yielded ops a.tmps)=true then Oper.wp P o a w (fun a' w'=>S w'∧jy P ops Q S n l a' w') Q else (S w∧jy P ops Q S n l (a.put o.dst undef) w)
 | _,l,a,w=>wpList P ops Q l a w
def qB (md:Region.Mode) (ops:Array Oper) (f:Nat):List Nat→Nat→Array Bool→Bool
 | [],_,_=>true
 | 0::m,k,listed=>qB md ops f m (k+1) listed
 | 1::m,k,listed=>(Region.ready md ops listed).contains k&&Region.free md ops listed k&&ES md ops listed&&decide (k≠f)&&qB md ops f m (k+1) (listed.setIfInBounds k true)
 | _::m,k,listed=>(Region.ready md ops listed).contains k&&Region.free md ops listed k&&ES md ops listed&&decide (k≠f)&&vZ md ops f k (nP md ops f 6 k)&&qB md ops f m (k+1) (listed.setIfInBounds k true)
def wu:List Nat→Nat→Array Bool→Array Bool
 | [],_,listed=>listed
 | 0::m,k,listed=>wu m (k+1) listed
 | (_+1)::m,k,listed=>wu m (k+1) (listed.setIfInBounds k true)
def ru:List Nat→Nat
 | []=>0
 | 0::m=>ru m
 | (_+1)::m=>ru m+1
def ry:List Nat→Nat
 | []=>0
 | 0::m=>ry m+1
 | (_+1)::m=>ry m
def rC (md:Region.Mode) (ops:Array Oper) (f:Nat):Nat→List Nat→Nat→Array Bool→Bool
 | _,[],_,listed=>(Region.ready md ops listed).isEmpty
 | 0,0::m,k,listed=>decide (Region.ready md ops listed=[k])&&(listed.setIfInBounds k true).getD f true&&rC md ops f 0 m (k+1) (listed.setIfInBounds k true)
 | n+1,0::m,k,listed=>decide (Region.ready md ops listed=[k])&&rC md ops f n m (k+1) (listed.setIfInBounds k true)
 | n,(_+1)::m,k,listed=>rC md ops f n m (k+1) listed
theorem pR (hs:Region.noSelect ops=true) (hQ:∀ d v c a w,Q (.panic c) (Act.put a d v) w→Q (.panic c) a w) {K:Act→Prop} {w:World} (hS:S w) (g:Nat):∀ (m:List Nat) (l:List Oper) (k:Nat) (listed:Array Bool) (a:Act),
  m.length=l.length→(∀ j,j<l.length→l[j]?=ops[k+j]?)→qB md ops f m k listed=true→gY P ops S K (ku m l) a →
  (∀ a',K a'→lI P md ops Q S f g (wu m k listed) a' w)→lI P md ops Q S f (g+ru m) listed a w
 | [],_,_,_,a,_,_,_,h,hK=>hK a h
 | _::_,[],_,_,_,hl,_,_,_,_=>by cases hl
 | t::m,o::l,k,listed,a,hl,hlj,hB,h,hK=>by
  have ho:ops[k]?=some o:=by simpa using (hlj 0 (by simp)).symm
  have hl':m.length=l.length:=by simpa using hl
  have hlj':∀ j,j<l.length→l[j]?=ops[k+1+j]?:=fun j hj=>by have:=hlj (j+1) (by simp;omega);simpa [aay,Nat.add_comm 1 j] using this
  match t,hB,h,hK with
  | 0,hB,h,hK=>exact pR hs hQ hS g m l (k+1) listed a hl' hlj' hB h hK
  | 1,hB,h,hK =>
   simp only [qB,aal,decide_eq_true_eq] at hB;obtain ⟨⟨⟨⟨h1,h2⟩,h3⟩,h4⟩,h5⟩:=hB;obtain ⟨v,hv,h⟩:=h
   exact jM (T:=fun _=>True) ho (Region.noSelect_spec hs) (hQ _ _) h4 (fun _ _ _ _ _=>trivial) (g+ru m) listed a w (l9 h3) (Region.free_spec ho h2) (by simpa using h1) hv (fun _=>hS)
    (pR hs hQ hS g m l (k+1) _ _ hl' hlj' h5 h hK)
  | t+2,hB,h,hK =>
   simp only [qB,aal,decide_eq_true_eq] at hB;obtain ⟨⟨⟨⟨⟨h1,h2⟩,h3⟩,h4⟩,h6⟩,h5⟩:=hB;obtain ⟨v,hv,h⟩:=h
   exact jM (T:=S) ho (Region.noSelect_spec hs) (hQ _ _) h4 (fun _ _ hc hu hS=>hS (pO hc _ k h6 hu)) (g+ru m) listed a w (l9 h3) (Region.free_spec ho h2) (by simpa using h1) hv (fun _=>hS)
    (pR hs hQ hS g m l (k+1) _ _ hl' hlj' h5 h hK)
theorem rD:∀ (m:List Nat) (n:Nat) (l:List Oper) (k:Nat) (listed:Array Bool) (a:Act) (w:World),
  m.length=l.length→(∀ j,j<l.length→l[j]?=ops[k+j]?)→rC md ops f n m k listed=true→jy P ops Q S n (jf m l) a w→lI P md ops Q S f (ry m) listed a w
 | [],n,_,_,_,a,w,_,_,hB,h=>by
  refine mf (by cases n <;> simpa [rC] using hB) ?_ _;cases n <;> simpa [jf,jy,wpList] using h
 | _::_,_,[],_,_,_,_,hl,_,_,_=>by cases hl
 | t::m,n,o::l,k,listed,a,w,hl,hlj,hB,h=>by
  have ho:ops[k]?=some o:=by simpa using (hlj 0 (by simp)).symm
  have hl':m.length=l.length:=by simpa using hl
  have hlj':∀ j,j<l.length→l[j]?=ops[k+1+j]?:=fun j hj=>by have:=hlj (j+1) (by simp;omega);simpa [aay,Nat.add_comm 1 j] using this
  match t,n,hB,h with
  | 0,0,hB,h =>
   simp only [rC,aal,decide_eq_true_eq] at hB;refine ⟨fun h0=>(by rw [hB.1.1] at h0;cases h0),fun j hj=>?_⟩;rw [hB.1.1] at hj;obtain rfl:j=k:=(by simpa using hj);have hw:wpOp P ops Q j (wpList P ops Q (jf m l)) a w:=(by unfold wpOp;simp only [ho];exact h);exact wpOp_mono (fun a' w' h'=>⟨fun h0=>(by rw [hB.1.2] at h0;cases h0),rD m 0 l (j+1) _ a' w' hl' hlj' hB.2 (by cases hp:jf m l <;> simpa [jy,hp] using h')⟩) hw
  | 0,n+1,hB,h =>
   simp only [rC,aal,decide_eq_true_eq] at hB;refine ⟨fun h0=>(by rw [hB.1] at h0;cases h0),fun j hj=>?_⟩;rw [hB.1] at hj;obtain rfl:j=k:=by simpa using hj
   have hw:wpOp P ops Q j (fun a' w'=>S w'∧jy P ops Q S n (jf m l) a' w') a w:=by
    simp only [jf,jy] at h;unfold wpOp;simp only [ho]
    split at h
    ·rename_i c;rw [if_pos c];exact .inl h
    ·rename_i c;rw [if_neg c];exact h
   exact wpOp_mono (fun a' w' h'=>⟨fun _=>h'.1,rD m n l (j+1) _ a' w' hl' hlj' hB.2 h'.2⟩) hw
  | t+1,n,hB,h=>exact rD m n l (k+1) listed a w hl' hlj' (by cases n <;> exact hB) h
def tJ (md:Region.Mode) (ops:Array Oper) (f:Nat) (n:Nat) (m:List Nat):Bool :=
 Region.noSelect ops&&decide (m.length=ops.size)&&qB md ops f m 0 (Array.replicate ops.size false)&&rC md ops f n m 0 (wu m 0 (Array.replicate ops.size false))
theorem ww:∀ m:List Nat,ry m+ru m=m.length
 | []=>rfl
 | 0::m=>by simp only [ry,ru,aas];have:=ww m;omega
 | (_+1)::m=>by simp only [ry,ru,aas];have:=ww m;omega
theorem kX {id:Nat} {l:List Oper} {a:Act} {w:World} (S:World→Prop) (f n:Nat) (m:List Nat) (hm:P.follows .mixedOrders=true) (hB:tJ .any l.toArray f n m=true)
  (hS:S w.drew)
  (h:gY P l.toArray S (fun a'=>jy P l.toArray (NoPanic Q) S n (jf m l) a' w.drew) (ku m l) a):(Code.region id l.toArray true).wp P Q a w:=by
 simp only [tJ,aal,decide_eq_true_eq] at hB;obtain ⟨⟨⟨h1,h2⟩,h3⟩,h4⟩:=hB;have hl:m.length=l.length:=by simpa using h2
 refine wp_region_noPanic (wp_region_any hm ?_)
 have:=pR (md := .any) (f:=f) (Q:=NoPanic Q) h1 (fun _ _ _ _ _ h=>h) hS (ry m) m l 0 _ a hl (fun j _=>by simp) h3 h (fun a' h'=>rD m n l 0 _ a' w.drew hl (fun j _=>by simp) h4 h')
 have:=jF _ _ _ _ this
 rw [ww,h2] at this;exact this
theorem wB {K:Act→Prop} {b:Bool} {o:Oper} {l:List (Bool×Oper)} {a:Act} {v:Value} (hw:Region.wanted o (yielded ops a.tmps)=true) (hv:∀ w,(bif b then S else fun _=>True) w→(execOp a.eval o).run P w = .ok (.value v) w)
  (h:gY P ops S K l (a.put o.dst v)):gY P ops S K ((b,o)::l) a:=⟨v,.inl ⟨hw,hv⟩,h⟩
theorem dn {n:Nat} {o:Oper} {l:List Oper} {a:Act} {w:World}
  (h:∀ K':Act→World→Prop,Shut (∀ a w,S w→(S w→jy P ops Q S n l a w)→K' a w)→if Region.wanted o (yielded ops a.tmps)=true then Oper.wp P o a w K' Q else K' (a.put o.dst undef) w) :
  jy P ops Q S (n+1) (o::l) a w:=h _ (fun _ _ hS hW=>⟨hS,hW hS⟩)
theorem dA {l:List Oper} {a:Act} {w:World} (h:wpList P ops Q l a w):jy P ops Q S 0 l a w:=by cases l <;> exact h
theorem dK {K:Act→Prop} {a:Act} (h:K a):gY P ops S K [] a:=h
end
end
end Go.Proofs.YthbibbkbaphpkaaGreatDoor
