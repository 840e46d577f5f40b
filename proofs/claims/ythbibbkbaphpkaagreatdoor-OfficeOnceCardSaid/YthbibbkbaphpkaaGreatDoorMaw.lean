/- Slices that begin where a block of their type begins. -/
import Derived.Test.YthbibbkbaphpkaaGreatDoorMar
import Derived.Test.YthbibbkbaphpkaaGreatDoorMat
import Derived.Test.YthbibbkbaphpkaaGreatDoorMav
set_option maxHeartbeats 16000000
set_option maxRecDepth 1000000
namespace Go.Proofs.YthbibbkbaphpkaaGreatDoor
open _root_.Go.Proofs.Tryz
open Go Go.RowKit
def RdT (w:World) (T:TypeId) (sz:Nat) (A:Option Addr) (n:Nat) (xs:List Value):Prop:=xs.length=n*sz∧(0<n→∃ b cs,A=some ⟨b,0,none⟩∧Blk w b T cs∧∀ (j:Nat) (u:Value),xs[j]?=some u→cs[j]?=some u)
theorem RdT.rd {w:World} {T:TypeId} {sz n:Nat} {A:Option Addr} {xs:List Value} (h:RdT w T sz A n xs):Rd w w.heap.size sz A n xs :=
 ⟨h.1,fun h0=>by obtain ⟨b,cs,e,B,hc⟩:=h.2 h0;exact ⟨b,0,e,B.lt,fun j u hu=>by rw [aax,B.cell];exact hc j u hu⟩⟩
theorem RdT.of_blk {w:World} {T:TypeId} {sz n g:Nat} {xs:List Value} (h:Blk w g T xs.toArray) (hl:xs.length=n*sz):RdT w T sz (some ⟨g,0,none⟩) n xs :=
 ⟨hl,fun _=>⟨g,_,rfl,h,fun j u hu=>by rw [aaG];exact hu⟩⟩
theorem RdT.of_own {w:World} {base sz n c:Nat} {e:TypeId} {A:Option Addr} {xs:List Value} (h:w.ownsRow base e sz (.slice A n c) n xs):RdT w e sz A n xs:=by
 refine ⟨h.1,fun h0=>?_⟩;rcases h.2 with ⟨_,h2⟩ | ⟨g,cap,cur,hv,_,hg,_,_,_,htk⟩
 ·omega
 ·injection hv with hv
  refine ⟨g,cur,hv,hg,fun j u hu=>?_⟩;rw [←htk,aa6] at hu
  split at hu
  ·simpa using hu
  ·cases hu
theorem RdT.keep {w w':World} {T:TypeId} {sz n:Nat} {A:Option Addr} {xs:List Value} (h:RdT w T sz A n xs) (hk:∀ g cs,Blk w g T cs→Blk w' g T cs):RdT w' T sz A n xs :=
 ⟨h.1,fun h0=>by obtain ⟨b,cs,e,B,hc⟩:=h.2 h0;exact ⟨b,cs,e,hk _ _ B,hc⟩⟩
theorem Ez {α:Type} {f:α→List Value} {sz:Nat} : ∀ (l:List α) (k:Nat) (x:α),(∀ y∈l,(f y).length=sz)→(f x).length=sz→k<l.length →
  (l.flatMap f).take (k*sz)++f x++(l.flatMap f).drop (k*sz+sz)=(l.set k x).flatMap f
 | [],k,_,_,_,h=>by simp at h
 | y::l,0,x,hf,hx,_=>by
  have hy:=hf y (by simp);rw [Nat.zero_mul,abj,aaJ,aaF,aax,List.drop_append_of_le_length (by omega),abl (by omega)];rfl
 | y::l,k+1,x,hf,hx,h=>by
  have hy:=hf y (by simp);have ih:=Ez l k x (fun z hz=>hf z (aa8 _ hz)) hx (by simpa using h);rw [aaF,aah,aaF,←ih];have e1:(k+1)*sz=(f y).length+k*sz:=by rw [hy,abh];omega
  rw [e1,List.take_length_add_append,aay,List.drop_length_add_append];simp only [aaZ]
theorem EC {w:World} {g k:Nat} {l:List Ltr} {x:Ltr} (h:Blk w g 63 (l.flatMap Ltr.cl).toArray) (hk:k<l.length) :
  (Instr.storeAt 63 (.pointer (some ⟨g,k*6,none⟩)) (.agg #[.int .i64 x.a0,.int .i64 x.b0,.int .i64 x.a1,.int .i64 x.b1,.int .i64 x.a2,.int .i64 x.b2])).run prog w = .ok () (w.setRow g ((l.set k x).flatMap Ltr.cl).toArray):=by
 have hl:∀ y:Ltr,y.cl.length=6:=fun _=>rfl
 have:=pX (P:=prog) (ty:=63) (X:=dF x) (o:=k*6) h Ry (by
  show k*6+6≤(l.flatMap Ltr.cl).toArray.size;rw [aae,flat_length l (fun y _=>hl y)];omega) (UQ x)
 refine this.trans ?_;have e:=Ez l k x (fun y _=>hl y) (hl x) hk;rw [←e];rfl
def Trn.mids (t:Trn) (key:Int) (inn:List Ltr) (k:Nat):List Ltr:=(t.mid key inn k)++List.replicate (inn.length - k) aB
theorem Trn.mids_length (t:Trn) (key:Int) (inn:List Ltr) {k:Nat} (h:k≤inn.length):(t.mids key inn k).length=inn.length:=by
 unfold Trn.mids;rw [aan,Trn.mid_length,List.length_replicate];omega
theorem Trn.mids_succ {t:Trn} {key:Int} {inn:List Ltr} {k:Nat} (h:k<inn.length):t.mids key inn (k+1)=(t.mids key inn k).set k (t.midAt key inn k):=by
 unfold Trn.mids Trn.mid;obtain ⟨n,hn⟩:∃ n,inn.length - k=n+1:=⟨inn.length - k - 1,by omega⟩
 rw [hn,show inn.length - (k+1)=n by omega,List.range_succ,aaT,List.replicate_succ,abw _ _ (by simp)]
 simp
theorem Trn.mids_all (t:Trn) (key:Int) (inn:List Ltr):t.mids key inn inn.length=t.mid key inn inn.length:=by unfold Trn.mids;simp
theorem Trn.mids_at {t:Trn} {key:Int} {inn:List Ltr} {k:Nat} (h:k<inn.length):(t.mids key inn (k+1))[k]?=some (t.midAt key inn k):=by
 rw [Trn.mids_succ h,List.getElem?_set_self (by rw [Trn.mids_length _ _ _ (by omega)];exact h)]
theorem Trn.out_succ {t:Trn} {key:Int} {inn:List Ltr} {k p:Nat} (hr:t.right[k]?=some (p:Int)):t.out key inn (k+1)=(t.out key inn k).set p (t.outAt key inn k):=by
 obtain ⟨h1,e1⟩:=aag.1 hr;unfold Trn.out;rw [aaB (by rw [aaQ];exact h1),List.range_succ,aaT,List.getElem_map,e1];exact yf _ _ _ _ _ (by rw [aav,aaQ,aaQ,List.length_range];omega)
theorem Trn.coms_succ (f:Nat→Opn) (tag:ByteArray) (k:Nat):(Trn.coms f tag (k+1)).flatMap ag=(Trn.coms f tag k).flatMap ag++ag (nX tag (f k)):=by
 unfold Trn.coms;rw [List.range_succ,aaT,aaP]
 simp
def Apart (v u:Value):Prop:=∀ g,v.ownBlock=some g→u.ownBlock≠some g
theorem Apart.nil_ (u:Value):Apart (.slice none 0 0) u:=fun _ h=>by simp [Value.ownBlock] at h
theorem Apart.symm {v u:Value} (h:Apart v u):Apart u v:=fun g hg e=>h g e hg
theorem ED {w w':World} {base:Nat} {e:TypeId} {size n:Nat} {v v' u:Value} {xs:List Value} (h:w.ownsRow base e size u n xs) (ha:Apart u v) (hg:Grew w w' v v'):w'.ownsRow base e size u n xs∧Apart u v':=by
 obtain ⟨h1,h2⟩:=h;rcases h2 with ⟨rfl,h2⟩ | ⟨g,cap,cur,rfl,hgb,hh,r⟩
 ·exact ⟨⟨h1,.inl ⟨rfl,h2⟩⟩,Apart.nil_ _⟩
 ·have hlt:g<w.heap.size:=(aaI.1 hh).1
  have ho:(Value.slice (some ⟨g,0,none⟩) n cap).ownBlock=some g:=rfl;refine ⟨⟨h1,.inr ⟨g,cap,cur,rfl,hgb,(hg.other hlt (fun e=>ha g ho e.symm)).trans hh,r⟩⟩,fun g' hg' e=>?_⟩;rw [ho] at hg';injection hg' with hg'
  subst hg';rcases hg.2 with e2 | ⟨g2,e2,hge⟩
  ·rw [e2] at e;exact ha g ho e
  ·rw [e2] at e;injection e with e;omega
theorem XG:∀ w,(Instr.index 155 (.agg dI) (.int .i64 0)).run prog w = .ok (.agg #[.string fE,.func (.func 183) #[] #[],.func (.func 184) #[] #[],.func (.func 185) #[] #[]]) w:=fun _=>by kernel_rfl
theorem XH:∀ w,(Instr.index 155 (.agg dI) (.int .i64 1)).run prog w = .ok (.agg #[.string dB,.func (.func 186) #[] #[],.func (.func 187) #[] #[],.func (.func 188) #[] #[]]) w:=fun _=>by kernel_rfl
theorem zu:(prog.info? 154).map (·.size)=some 4:=by kernel_rfl
def Tj (A:Option Addr) (c:Nat) (key:Int) (l:List Ltr) (t:Trn) (w:World) (r:Ending) (w':World):Prop :=
 Below w.heap.size w w'∧(kw key l t≠0→r = .returned (.tuple #[.agg #[.slice none 0 0,.slice none 0 0,.slice none 0 0,.slice none 0 0,.slice none 0 0],.int .i64 (kw key l t)])) ∧
 (kw key l t=0→∃ s:MS,s.a0=A∧s.c0=c∧r = .returned (.tuple #[.agg (s.cl (jT key l t)),.int .i64 0])∧MixAt w' w'.heap.size s (jT key l t) ∧
  RdT w' 63 6 s.a1 (jT key l t).mid.length ((jT key l t).mid.flatMap Ltr.cl)∧RdT w' 63 6 s.a2 (jT key l t).out.length ((jT key l t).out.flatMap Ltr.cl)∧RdT w' 29 32 s.a3 (jT key l t).left.length ((jT key l t).left.flatMap ag)∧RdT w' 29 32 s.a4 (jT key l t).right.length ((jT key l t).right.flatMap ag))
theorem NM (f:Nat→Opn) (tag:ByteArray) (n:Nat):∀ d∈Trn.coms f tag n,dL d:=fun d hd=>by
 obtain ⟨j,_,rfl⟩:=aaK.1 hd;exact ⟨rZ _ _,kE _⟩
theorem Vj {w:World} {g k:Nat} {T:TypeId} {l:List Ltr} {x:Ltr} (h:Blk w g T (l.flatMap Ltr.cl).toArray) (hx:l[k]?=some x):w.cell? ⟨g,k*6,none⟩=some (.int .i64 x.a0)∧w.cell? ⟨g,k*6+1,none⟩=some (.int .i64 x.b0)∧w.cell? ⟨g,k*6+2,none⟩=some (.int .i64 x.a1) ∧
  w.cell? ⟨g,k*6+3,none⟩=some (.int .i64 x.b1)∧w.cell? ⟨g,k*6+4,none⟩=some (.int .i64 x.a2)∧w.cell? ⟨g,k*6+5,none⟩=some (.int .i64 x.b2):=by
 have hl:∀ y:Ltr,y.cl.length=6:=fun _=>rfl
 have hc:∀ j,j<6→w.cell? ⟨g,k*6+j,none⟩=x.cl[j]?:=fun j hj=>by
  rw [h.cell,aaG,jh l k j x (fun y _=>hl y) hx hj]
 exact ⟨hc 0 (by omega),hc 1 (by omega),hc 2 (by omega),hc 3 (by omega),hc 4 (by omega),hc 5 (by omega)⟩
theorem dm {w:World} {base g:Nat} {e t:TypeId} {size n:Nat} {v:Value} {xs:List Value} {cs:Array Value} (h:w.ownsRow base e size v n xs) (hB:Blk w g t cs) (hne:t≠e) (X:Array Value):(w.setRow g X).ownsRow base e size v n xs:=by
 obtain ⟨h1,h2⟩:=h;refine ⟨h1,?_⟩;rcases h2 with h2 | ⟨g',cap,cur,hv,hgb,hh,r⟩
 ·exact .inl h2
 ·refine .inr ⟨g',cap,cur,hv,hgb,(setRow_other w g g' X ?_).trans hh,r⟩
  intro e3;subst e3;unfold Blk at hB;rw [hB] at hh;simp at hh;exact hne hh.2
theorem eQ:(prog.info? 47).map (·.size)=some 5:=by kernel_rfl
theorem sS {fn:Func} (h:fn.results=#[.cell 6 47,.tmp 7]) (tmps:Array Value) (w:World) (g:Nat) (X:Array Value) (e:Int) (hp:tmps.getD 6 undef = .pointer (some ⟨g,0,none⟩)) (h7:tmps.getD 7 undef = .int .i64 e) (hB:Blk w g 47 X) (hX:X.size=5) :
  (results fn tmps).run prog w = .ok (.tuple #[.agg X,.int .i64 e]) w:=by
 have hp':tmps[6]?.getD undef = .pointer (some ⟨g,0,none⟩):=by simpa using hp
 have h7':tmps[7]?.getD undef = .int .i64 e:=by simpa using h7
 simp [results,h,hp',h7',asAddr,run_loadVar_row w g 47 47 X _ _ hB underlying47 rfl (by rw [hX];exact eQ)]
theorem Tm {w:World} {g n sz:Nat} {T:TypeId} {xs:List Value} (h:Blk w g T xs.toArray) (hl:xs.length=n*sz):Rd w w.heap.size sz (some ⟨g,0,none⟩) n xs :=
 ⟨hl,fun _=>⟨g,0,rfl,h.lt,fun j u hu=>by rw [aax,h.cell,aaG];exact hu⟩⟩
theorem NP (v1 v2 v3:Value) (h1:v1.oneCell'=true:=by rfl) (h2:v2.oneCell'=true:=by rfl) (h3:v3.oneCell'=true:=by rfl):∀ v∈(#[v1,v2,v3,.slice none 0 0,.slice none 0 0]:Array Value).toList,v.oneCell'=true:=by
 intro v hv;simp only [aaq,aaw,or_false] at hv;rcases hv with rfl | rfl | rfl | rfl | rfl <;> first | assumption | rfl
theorem Tn (v1 v2 v3 v4 v5:Value) (h1:v1.oneCell'=true) (h2:v2.oneCell'=true) (h3:v3.oneCell'=true) (h4:v4.oneCell'=true) (h5:v5.oneCell'=true):∀ v∈(#[v1,v2,v3,v4,v5]:Array Value).toList,v.oneCell'=true:=by
 intro v hv;simp only [aaq,aaw,or_false] at hv;rcases hv with rfl | rfl | rfl | rfl | rfl <;> assumption
theorem Ag:∀ v∈(#[.slice none 0 0,.slice none 0 0,.slice none 0 0,.slice none 0 0,.slice none 0 0]:Array Value).toList,v.oneCell'=true:=by
 intro v hv;simp only [aaq,aaw,or_false] at hv;rcases hv with rfl | rfl | rfl | rfl | rfl <;> rfl
theorem Vk (key:Int) (A:Option Addr) (c:Nat) (l:List Ltr) (s:TS) (t:Trn) (W:World) (hA:Rd W W.heap.size 6 A l.length (l.flatMap Ltr.cl)) (hT:TurnAt W W.heap.size s t) (hn:l.length≤1000000) (hG:ShaG W) :
  Calls prog 55 #[.int .i64 key,.slice A l.length c,.agg (s.cl t)] W (Tj A c key l t W):=by
 have hTz:(s.cl t).size=5:=rfl;have hsR:=fun w' hT=>Bz s t (l.length:Int) w' hT;have hsL:=fun k w' hT h0 h2 h4=>Rl s t k w' hT h0 h2 h4;have hsO:=fun k w' hT h0 h2 h4=>Rn s t k w' hT h0 h2 h4;obtain ⟨T,hTd⟩:∃ T,s.cl t=T:=⟨_,rfl⟩
 have hTc:Hid (T=#[.slice s.a0 t.left.length s.c0,.slice s.a1 t.right.length s.c1,.slice s.a2 t.rl.length s.c2,.slice s.a3 t.rr.length s.c3,.slice s.a4 t.salts.length s.c4]):=aab hTd.symm;rw [hTd] at hTz hsR hsL hsO ⊢;replace hsR:=aab hsR;replace hsL:=aab hsL;replace hsO:=aab hsO;have BT:Blk ((W.alloc (.cells T 39)).alloc (.cells #[.slice none 0 0,.slice none 0 0,.slice none 0 0,.slice none 0 0,.slice none 0 0] 47)) W.heap.size 39 T:=(Blk.new W _ _ _ rfl).alloc _;have BM:Blk ((W.alloc (.cells T 39)).alloc (.cells #[.slice none 0 0,.slice none 0 0,.slice none 0 0,.slice none 0 0,.slice none 0 0] 47)) (W.heap.size+1) 47 #[.slice none 0 0,.slice none 0 0,.slice none 0 0,.slice none 0 0,.slice none 0 0]:=Blk.new _ _ _ _ (by simp);have hb:=bAl (bAl (aj W) (.cells T 39)) (.cells #[.slice none 0 0,.slice none 0 0,.slice none 0 0,.slice none 0 0,.slice none 0 0] 47)
 have hld:Hid (∀ w,Blk w W.heap.size 39 T→(Instr.loadAt 39 (.pointer (some ⟨W.heap.size,0,none⟩))).run prog w = .ok (.agg T) w) :=
  aab (fun w B=>bg B underlying39 rfl (by rw [hTz];kernel_rfl))
 have hme:Hid (kw key l t=if aA key=true then (if 64<l.length then 2 else if l.all Ltr.good=true then (if t.fit (l.length:Int)=true then 0 else 140) else 100) else 90):=aab rfl;go_enter func55,ntmps55;go_upto_region 1 with fail;change Code.wp _ _ _ _ ((W.alloc (.cells T 39)).alloc (.cells #[.slice none 0 0,.slice none 0 0,.slice none 0 0,.slice none 0 0,.slice none 0 0] 47));generalize (W.alloc (.cells T 39)).alloc (.cells #[.slice none 0 0,.slice none 0 0,.slice none 0 0,.slice none 0 0,.slice none 0 0] 47)=w1 at *;have q1:=bU key w1;cases hv:aA key with
 | false =>
  have he:Hid (kw key l t=90):=by show _=_;rw [hme.out,hv];rfl
  rw [hv] at q1;clear hv hme;go_wp2_with fail;refine q1.mono ?_;rintro e w1 ⟨rfl,rfl⟩;go_upto_region 2 with fail;apply wp_region_lit;refine aP (by rfl) (by rfl) (by rfl) (bg BM underlying47 rfl eQ) ?_;simp only [Act.put,aaf,aai,aah];refine aG (by rfl) (by rfl) (by rfl) (by rfl) (aQ BM eQ rfl Ag) ?_;simp only [Act.put];have BM2:=Blk.row BM #[.slice none 0 0,.slice none 0 0,.slice none 0 0,.slice none 0 0,.slice none 0 0];have hb2:=below_setRow hb (show W.heap.size≤W.heap.size+1 by omega) #[.slice none 0 0,.slice none 0 0,.slice none 0 0,.slice none 0 0,.slice none 0 0];generalize World.setRow _ (W.heap.size+1) #[.slice none 0 0,.slice none 0 0,.slice none 0 0,.slice none 0 0,.slice none 0 0]=w9 at *;go_wp2_with fail;exact bodyPost_ret (v := .tuple #[.agg #[.slice none 0 0,.slice none 0 0,.slice none 0 0,.slice none 0 0,.slice none 0 0],.int .i64 90]) (sS rfl _ _ _ _ _ (by rfl) (by rfl) BM2 rfl) rfl ⟨hb2,fun _=>by rw [he.out],fun h=>by rw [he.out] at h;omega⟩
 | true =>
  rw [hv,if_pos rfl] at hme;rw [hv] at q1;have hkv:=aab hv;clear hv;go_wp2_with fail;refine q1.mono ?_;rintro e w1 ⟨rfl,rfl⟩;clear q1;by_cases h64:64<l.length
  ·have he:Hid (kw key l t=2):=by show _=_;rw [hme.out,if_pos h64]
   have h64j:(64:Int)<(l.length:Int):=(by omega);clear hme;go_upto_region 4 with fail;apply wp_region_lit;refine aP (by rfl) (by rfl) (by rfl) (bg BM underlying47 rfl eQ) ?_;simp only [Act.put,aaf,aai,aah];refine aG (by rfl) (by rfl) (by rfl) (by rfl) (aQ BM eQ rfl Ag) ?_;simp only [Act.put];have BM2:=Blk.row BM #[.slice none 0 0,.slice none 0 0,.slice none 0 0,.slice none 0 0,.slice none 0 0];have hb2:=below_setRow hb (show W.heap.size≤W.heap.size+1 by omega) #[.slice none 0 0,.slice none 0 0,.slice none 0 0,.slice none 0 0,.slice none 0 0];generalize World.setRow _ (W.heap.size+1) #[.slice none 0 0,.slice none 0 0,.slice none 0 0,.slice none 0 0,.slice none 0 0]=w9 at *;go_wp2_with fail;exact bodyPost_ret (v := .tuple #[.agg #[.slice none 0 0,.slice none 0 0,.slice none 0 0,.slice none 0 0,.slice none 0 0],.int .i64 2]) (sS rfl _ _ _ _ _ (by rfl) (by rfl) BM2 rfl) rfl ⟨hb2,fun _=>by rw [he.out],fun h=>by rw [he.out] at h;omega⟩
  ·rw [if_neg h64] at hme
   have h64j:(l.length:Int)≤64:=(by omega);have q2:=lL A l.length c l w1 ((hA.below hb).more hb.size) (by omega);cases hx2:l.all Ltr.good with
   | false =>
    have he:Hid (kw key l t=100):=(by show _=_;rw [hme.out,hx2];rfl);rw [hx2] at q2;clear hx2 hme;go_wp2_with fail;refine q2.mono ?_;rintro e w2 ⟨rfl,b2⟩;replace BM:=BM.below b2 BM.lt;replace hb:=ah hb b2;go_upto_region 6 with fail;apply wp_region_lit;refine aP (by rfl) (by rfl) (by rfl) (bg BM underlying47 rfl eQ) ?_;simp only [Act.put,aaf,aai,aah];refine aG (by rfl) (by rfl) (by rfl) (by rfl) (aQ BM eQ rfl Ag) ?_;simp only [Act.put];have BM2:=Blk.row BM #[.slice none 0 0,.slice none 0 0,.slice none 0 0,.slice none 0 0,.slice none 0 0];have hb2:=below_setRow hb (show W.heap.size≤W.heap.size+1 by omega) #[.slice none 0 0,.slice none 0 0,.slice none 0 0,.slice none 0 0,.slice none 0 0];generalize World.setRow _ (W.heap.size+1) #[.slice none 0 0,.slice none 0 0,.slice none 0 0,.slice none 0 0,.slice none 0 0]=w9 at *;go_wp2_with fail;exact bodyPost_ret (v := .tuple #[.agg #[.slice none 0 0,.slice none 0 0,.slice none 0 0,.slice none 0 0,.slice none 0 0],.int .i64 100]) (sS rfl _ _ _ _ _ (by rfl) (by rfl) BM2 rfl) rfl ⟨hb2,fun _=>by rw [he.out],fun h=>by rw [he.out] at h;omega⟩
   | true =>
    rw [hx2,if_pos rfl] at hme;rw [hx2] at q2;replace hx2:=aab hx2;go_wp2_with fail;refine q2.mono ?_;rintro e w2 ⟨rfl,b2⟩;replace BM:=BM.below b2 BM.lt;replace BT:=BT.below b2 BT.lt;replace hb:=ah hb b2;clear q2 b2;have q3:=hsR.out w2 ((hT.below hb).more hb.size);have l0:=hld.out _ BT;cases hf:t.fit (l.length:Int) with
    | false =>
     have he:Hid (kw key l t=140):=(by show _=_;rw [hme.out,hf];rfl);rw [hf] at q3;clear hf hme;go_upto_region 7 with fail;apply wp_region_lit;refine aP (by rfl) (by rfl) (by rfl) l0 ?_;simp only [Act.put,aaf,aai,aah];go_wp2_with fail;refine q3.mono ?_;rintro e w1 ⟨rfl,b2⟩;replace BM:=BM.below b2 BM.lt;replace hb:=ah hb b2;go_upto_region 8 with fail;apply wp_region_lit;refine aP (by rfl) (by rfl) (by rfl) (bg BM underlying47 rfl eQ) ?_;simp only [Act.put,aaf,aai,aah];refine aG (by rfl) (by rfl) (by rfl) (by rfl) (aQ BM eQ rfl Ag) ?_;simp only [Act.put];have BM2:=Blk.row BM #[.slice none 0 0,.slice none 0 0,.slice none 0 0,.slice none 0 0,.slice none 0 0];have hb2:=below_setRow hb (show W.heap.size≤W.heap.size+1 by omega) #[.slice none 0 0,.slice none 0 0,.slice none 0 0,.slice none 0 0,.slice none 0 0];generalize World.setRow _ (W.heap.size+1) #[.slice none 0 0,.slice none 0 0,.slice none 0 0,.slice none 0 0,.slice none 0 0]=w9 at *;go_wp2_with fail;exact bodyPost_ret (v := .tuple #[.agg #[.slice none 0 0,.slice none 0 0,.slice none 0 0,.slice none 0 0,.slice none 0 0],.int .i64 140]) (sS rfl _ _ _ _ _ (by rfl) (by rfl) BM2 rfl) rfl ⟨hb2,fun _=>by rw [he.out],fun h=>by rw [he.out] at h;omega⟩
    | true =>
     have he:Hid (kw key l t=0):=(by show _=_;rw [hme.out,hf];rfl);rw [hf] at q3;have HF:=aab hf;clear hf hme;go_upto_region 7 with fail;apply wp_region_lit;refine aP (by rfl) (by rfl) (by rfl) l0 ?_;simp only [Act.put,aaf,aai,aah];go_wp2_with fail;refine q3.mono ?_;rintro e w1 ⟨rfl,b2⟩;replace BM:=BM.below b2 BM.lt;replace BT:=BT.below b2 BT.lt;replace hb:=ah hb b2;clear q3 b2 l0;go_upto_region 9 with fail;have hmk:=wH l.length (by omega)
     go_cut [] from 34 to 41 (fun wc=>∃ gm go_,gm≠go_∧W.heap.size+2≤gm∧W.heap.size+2≤go_∧Blk wc gm 63 ((List.replicate l.length aB).flatMap Ltr.cl).toArray∧Blk wc go_ 63 ((List.replicate l.length aB).flatMap Ltr.cl).toArray ∧
      Blk wc (W.heap.size+1) 47 #[.slice A l.length c,.slice (some ⟨gm,0,none⟩) l.length l.length,.slice (some ⟨go_,0,none⟩) l.length l.length,.slice none 0 0,.slice none 0 0]∧Blk wc W.heap.size 39 T∧Below W.heap.size W wc)
     case first =>
      have KS:Hid (∀ w',Below W.heap.size W w'→True):=aab (fun _ _=>trivial);refine fA (g:=4) KS [(0,1),(1,1),(2,1),(4,1),(5,1)] ?_;simp only [bf,aap,aar];refine ae ?_;refine ae ?_;refine ae ?_;refine ae ?_;refine ae ?_;have B0:Below W.heap.size W w1.drew:=bDr hb;replace BT:=Blk.dr BT;replace BM:=Blk.dr BM;generalize w1.drew=v0 at *;refine Cc (i:=3) (j:=6) ⟨_,rfl,fun K hK=>?_⟩ ⟨_,rfl,fun K hK=>?_⟩
      ·
       go_simp;change K _ (World.alloc v0 (.cells ((List.replicate l.length aB).flatMap Ltr.cl).toArray 63));obtain ⟨gm,hgm⟩:∃ a,a=v0.heap.size:=⟨_,rfl⟩
       have BG:=Blk.new v0 63 ((List.replicate l.length aB).flatMap Ltr.cl).toArray gm hgm;have hzgm:W.heap.size+2≤gm:=(by have:=BM.lt;omega);replace BT:=Blk.alloc BT (.cells ((List.replicate l.length aB).flatMap Ltr.cl).toArray 63);replace BM:=Blk.alloc BM (.cells ((List.replicate l.length aB).flatMap Ltr.cl).toArray 63);have B1:=bAl B0 (.cells ((List.replicate l.length aB).flatMap Ltr.cl).toArray 63);rw [←hgm];clear hgm;refine aH hK KS ?_;clear hK K;generalize World.alloc v0 (.cells ((List.replicate l.length aB).flatMap Ltr.cl).toArray 63)=v1 at *;refine dS (i:=6) ⟨_,rfl,fun K hK=>?_⟩;go_simp;change K _ (World.alloc v1 (.cells ((List.replicate l.length aB).flatMap Ltr.cl).toArray 63));obtain ⟨go_,hgo_⟩:∃ a,a=v1.heap.size:=⟨_,rfl⟩
       have BO:=Blk.new v1 63 ((List.replicate l.length aB).flatMap Ltr.cl).toArray go_ hgo_;have hne:gm≠go_:=(by have:=BG.lt;omega);replace BG:=Blk.alloc BG (.cells ((List.replicate l.length aB).flatMap Ltr.cl).toArray 63);have hzgo_:W.heap.size+2≤go_:=(by have:=BM.lt;omega);replace BT:=Blk.alloc BT (.cells ((List.replicate l.length aB).flatMap Ltr.cl).toArray 63);replace BM:=Blk.alloc BM (.cells ((List.replicate l.length aB).flatMap Ltr.cl).toArray 63);have B2:=bAl B1 (.cells ((List.replicate l.length aB).flatMap Ltr.cl).toArray 63);rw [←hgo_];clear hgo_;refine aH hK KS ?_;clear hK K;generalize World.alloc v1 (.cells ((List.replicate l.length aB).flatMap Ltr.cl).toArray 63)=v2 at *;refine dS (i:=7) ⟨_,rfl,fun K hK=>?_⟩;go_simp;refine aH hK KS ?_;clear hK K;refine dS (i:=8) ⟨_,rfl,fun K hK=>?_⟩;refine bD (by rfl) (by rfl) (by rfl) (by rfl) (aQ (X:=#[.slice A l.length c,.slice (some ⟨gm,0,none⟩) l.length l.length,.slice (some ⟨go_,0,none⟩) l.length l.length,.slice none 0 0,.slice none 0 0]) BM eQ rfl (NP _ _ _)) ?_;simp only [aa2,aa4,aa5];replace BT:=Blk.farRowT BT BM (by decide) #[.slice A l.length c,.slice (some ⟨gm,0,none⟩) l.length l.length,.slice (some ⟨go_,0,none⟩) l.length l.length,.slice none 0 0,.slice none 0 0];replace BG:=Blk.farRowT BG BM (by decide) #[.slice A l.length c,.slice (some ⟨gm,0,none⟩) l.length l.length,.slice (some ⟨go_,0,none⟩) l.length l.length,.slice none 0 0,.slice none 0 0];replace BO:=Blk.farRowT BO BM (by decide) #[.slice A l.length c,.slice (some ⟨gm,0,none⟩) l.length l.length,.slice (some ⟨go_,0,none⟩) l.length l.length,.slice none 0 0,.slice none 0 0]
       replace BM:=Blk.row BM #[.slice A l.length c,.slice (some ⟨gm,0,none⟩) l.length l.length,.slice (some ⟨go_,0,none⟩) l.length l.length,.slice none 0 0,.slice none 0 0];have B5:=below_setRow B2 (show W.heap.size≤W.heap.size+1 by omega) #[.slice A l.length c,.slice (some ⟨gm,0,none⟩) l.length l.length,.slice (some ⟨go_,0,none⟩) l.length l.length,.slice none 0 0,.slice none 0 0];refine aH hK KS ?_;clear hK K;generalize World.setRow v2 (W.heap.size+1) #[.slice A l.length c,.slice (some ⟨gm,0,none⟩) l.length l.length,.slice (some ⟨go_,0,none⟩) l.length l.length,.slice none 0 0,.slice none 0 0]=v5 at *;refine jk ?_;refine NoPanic.normal ?_;go_wp2_with fail;go_meet;exact ⟨gm,go_,hne,hzgm,hzgo_,BG,BO,BM,BT,B5⟩
      ·
       go_simp;change K _ (World.alloc v0 (.cells ((List.replicate l.length aB).flatMap Ltr.cl).toArray 63));obtain ⟨go_,hgo_⟩:∃ a,a=v0.heap.size:=⟨_,rfl⟩
       have BO:=Blk.new v0 63 ((List.replicate l.length aB).flatMap Ltr.cl).toArray go_ hgo_;have hzgo_:W.heap.size+2≤go_:=(by have:=BM.lt;omega);replace BT:=Blk.alloc BT (.cells ((List.replicate l.length aB).flatMap Ltr.cl).toArray 63);replace BM:=Blk.alloc BM (.cells ((List.replicate l.length aB).flatMap Ltr.cl).toArray 63);have B1:=bAl B0 (.cells ((List.replicate l.length aB).flatMap Ltr.cl).toArray 63);rw [←hgo_];clear hgo_;refine aH hK KS ?_;clear hK K;generalize World.alloc v0 (.cells ((List.replicate l.length aB).flatMap Ltr.cl).toArray 63)=v1 at *;refine dS (i:=3) ⟨_,rfl,fun K hK=>?_⟩;go_simp;change K _ (World.alloc v1 (.cells ((List.replicate l.length aB).flatMap Ltr.cl).toArray 63));obtain ⟨gm,hgm⟩:∃ a,a=v1.heap.size:=⟨_,rfl⟩
       have BG:=Blk.new v1 63 ((List.replicate l.length aB).flatMap Ltr.cl).toArray gm hgm;have hne:go_≠gm:=(by have:=BO.lt;omega);replace BO:=Blk.alloc BO (.cells ((List.replicate l.length aB).flatMap Ltr.cl).toArray 63);have hzgm:W.heap.size+2≤gm:=(by have:=BM.lt;omega);replace BT:=Blk.alloc BT (.cells ((List.replicate l.length aB).flatMap Ltr.cl).toArray 63);replace BM:=Blk.alloc BM (.cells ((List.replicate l.length aB).flatMap Ltr.cl).toArray 63);have B2:=bAl B1 (.cells ((List.replicate l.length aB).flatMap Ltr.cl).toArray 63);rw [←hgm];clear hgm;refine aH hK KS ?_;clear hK K;generalize World.alloc v1 (.cells ((List.replicate l.length aB).flatMap Ltr.cl).toArray 63)=v2 at *;refine dS (i:=7) ⟨_,rfl,fun K hK=>?_⟩;go_simp;refine aH hK KS ?_;clear hK K;refine dS (i:=8) ⟨_,rfl,fun K hK=>?_⟩;refine bD (by rfl) (by rfl) (by rfl) (by rfl) (aQ (X:=#[.slice A l.length c,.slice (some ⟨gm,0,none⟩) l.length l.length,.slice (some ⟨go_,0,none⟩) l.length l.length,.slice none 0 0,.slice none 0 0]) BM eQ rfl (NP _ _ _)) ?_;simp only [aa2,aa4,aa5];replace BT:=Blk.farRowT BT BM (by decide) #[.slice A l.length c,.slice (some ⟨gm,0,none⟩) l.length l.length,.slice (some ⟨go_,0,none⟩) l.length l.length,.slice none 0 0,.slice none 0 0];replace BG:=Blk.farRowT BG BM (by decide) #[.slice A l.length c,.slice (some ⟨gm,0,none⟩) l.length l.length,.slice (some ⟨go_,0,none⟩) l.length l.length,.slice none 0 0,.slice none 0 0];replace BO:=Blk.farRowT BO BM (by decide) #[.slice A l.length c,.slice (some ⟨gm,0,none⟩) l.length l.length,.slice (some ⟨go_,0,none⟩) l.length l.length,.slice none 0 0,.slice none 0 0]
       replace BM:=Blk.row BM #[.slice A l.length c,.slice (some ⟨gm,0,none⟩) l.length l.length,.slice (some ⟨go_,0,none⟩) l.length l.length,.slice none 0 0,.slice none 0 0];have B5:=below_setRow B2 (show W.heap.size≤W.heap.size+1 by omega) #[.slice A l.length c,.slice (some ⟨gm,0,none⟩) l.length l.length,.slice (some ⟨go_,0,none⟩) l.length l.length,.slice none 0 0,.slice none 0 0];refine aH hK KS ?_;clear hK K;generalize World.setRow v2 (W.heap.size+1) #[.slice A l.length c,.slice (some ⟨gm,0,none⟩) l.length l.length,.slice (some ⟨go_,0,none⟩) l.length l.length,.slice none 0 0,.slice none 0 0]=v5 at *;refine jk ?_;refine NoPanic.normal ?_;go_wp2_with fail;go_meet;exact ⟨gm,go_,hne.symm,hzgm,hzgo_,BG,BO,BM,BT,B5⟩
     case rest =>
      clear BM BT hb hmk;obtain ⟨gm,go_,hne,hzm,hzo,BG,BO,BM,BT,hb⟩:=hcut
      rename World=>w3
      have htc:Hid (∀ w,Blk w W.heap.size 39 T→w.cell? ⟨W.heap.size,0,none⟩=some (.slice s.a0 l.length s.c0)∧w.cell? ⟨W.heap.size,1,none⟩=some (.slice s.a1 l.length s.c1)∧w.cell? ⟨W.heap.size,2,none⟩=some (.slice s.a2 l.length s.c2)∧w.cell? ⟨W.heap.size,3,none⟩=some (.slice s.a3 l.length s.c3)) :=
       aab (fun w B=>by
        rw [hTc.out] at B;obtain ⟨⟨f1,f2,f3,f4,_⟩,_⟩:=Trn.fit_of HF.out;refine ⟨?_,?_,?_,?_⟩
        ·rw [←f1];exact B.cell 0
        ·rw [←f2];exact B.cell 1
        ·rw [←f3];exact B.cell 2
        ·rw [←f4];exact B.cell 3)
      rw [show List.replicate l.length aB=t.mids key l 0 from rfl] at BG;rw [show List.replicate l.length aB=t.out key l 0 by unfold Trn.out;simp [uS]] at BO;go_wp2_with fail
      go_loopw [44] (fun i wr=>∃ (k:Nat) (vL vR:Value),k≤l.length∧i = .int .i64 k∧Below W.heap.size W wr∧Blk wr W.heap.size 39 T∧Blk wr gm 63 ((t.mids key l k).flatMap Ltr.cl).toArray∧Blk wr go_ 63 ((t.out key l k).flatMap Ltr.cl).toArray ∧
       Blk wr (W.heap.size+1) 47 #[.slice A l.length c,.slice (some ⟨gm,0,none⟩) l.length l.length,.slice (some ⟨go_,0,none⟩) l.length l.length,vL,vR]∧wr.ownsRow W.heap.size 29 32 vL k ((Trn.coms t.opL fE k).flatMap ag)∧wr.ownsRow W.heap.size 29 32 vR k ((Trn.coms t.opR dB k).flatMap ag)∧Apart vL vR) (fun i _=>l.length - (intOf i).toNat)
      case atStart=>exact ⟨0,_,_,aao _,rfl,hb,BT,BG,BO,BM,World.ownsRow_nil _ _ _ _,World.ownsRow_nil _ _ _ _,Apart.nil_ _⟩
      case round =>
       clear hb BT BG BO BM;obtain ⟨k,vL,vR,hk,rfl,hb,BT,BG,BO,BM,ownL,ownR,hap⟩:=hrel;by_cases hlt:k<l.length
       ·obtain ⟨i,hi,hli⟩:=Trn.left_at HF.out hlt
        obtain ⟨p,hp,hrp⟩:=Trn.right_at HF.out hlt;obtain ⟨x,hx⟩:∃ x,l[i]?=some x:=⟨_,aac hi⟩
        obtain ⟨f1,f2,f3,f4,f5⟩:=(Trn.fit_of HF.out).1;obtain ⟨r,hr⟩:∃ r,t.rl[k]?=some r:=⟨_,aac (by omega)⟩
        obtain ⟨r2,hr2⟩:∃ r,t.rr[k]?=some r:=⟨_,aac (by omega)⟩
        obtain ⟨b0,o0,e0,l0,k0⟩:=jq hT.r0 (by omega) hli;obtain ⟨b1,o1,e1,l1,k1⟩:=jq hT.r1 (by omega) hrp;obtain ⟨b2,o2,e2,l2,k2,k3,k4⟩:=Fq hT.r2 (by omega) hr;obtain ⟨b3,o3,e3,l3,k5,k6,k7⟩:=Fq hT.r3 (by omega) hr2;obtain ⟨bx,ox,rfl,lx,kx⟩:=jS hA hi hx
        have hmid:Hid (gG key x r.1 r.2.1 r.2.2=t.midAt key l k):=by
         show _=_;unfold Trn.midAt agT;rw [aS hli,aba,aS hx,aS hr]
        have hout:Hid (gG key (t.midAt key l k) r2.1 r2.2.1 r2.2.2=t.outAt key l k):=by
         show _=_;unfold Trn.outAt agT;rw [aS hr2]
        have hms:=Trn.mids_succ (t:=t) (key:=key) hlt;have hma:=Trn.mids_at (t:=t) (key:=key) hlt;have hos:=Trn.out_succ (key:=key) (inn:=l) hrp;have hml:=Trn.mids_length t key l hk;have hol:=Trn.out_length t key l k;clear hli hrp hx hr hr2 f1 f2 f3 f4 f5;have hbz:=hb.size;have i0:(0:Int)≤(k:Int):=(by omega);have i1:(k:Int)<(l.length:Int):=(by omega);have i2:(i:Int)<(l.length:Int):=(by omega);have i3:(p:Int)<(l.length:Int):=(by omega);have i4:(0:Int)≤(i:Int):=(by omega);have i5:(0:Int)≤(p:Int):=by omega
        have KS:Hid (∀ w',Below wr.heap.size wr w'→(w'.cell? ⟨W.heap.size+1,1,none⟩=some (.slice (some ⟨gm,0,none⟩) l.length l.length)∧w'.cell? ⟨W.heap.size,0,none⟩=some (.slice (some ⟨b0,o0,none⟩) l.length s.c0)∧w'.cell? ⟨W.heap.size,2,none⟩=some (.slice (some ⟨b2,o2,none⟩) l.length s.c2) ∧
          w'.cell? ⟨b0,o0+k,none⟩=some (.int .i64 (i:Nat))∧(w'.cell? ⟨b2,o2+k*3,none⟩=some (.int .i64 r.1)∧w'.cell? ⟨b2,o2+k*3+1,none⟩=some (.int .i64 r.2.1)∧w'.cell? ⟨b2,o2+k*3+2,none⟩=some (.int .i64 r.2.2)) ∧
          (w'.cell? ⟨bx,ox+i*6,none⟩=some (.int .i64 x.a0)∧w'.cell? ⟨bx,ox+i*6+1,none⟩=some (.int .i64 x.b0)∧w'.cell? ⟨bx,ox+i*6+2,none⟩=some (.int .i64 x.a1)∧w'.cell? ⟨bx,ox+i*6+3,none⟩=some (.int .i64 x.b1)∧w'.cell? ⟨bx,ox+i*6+4,none⟩=some (.int .i64 x.a2)∧w'.cell? ⟨bx,ox+i*6+5,none⟩=some (.int .i64 x.b2)))) :=
         aab (fun w' h=>by
          obtain ⟨d0,d1,d2,d3⟩:=htc.out _ (BT.below h BT.lt);rw [e0] at d0;rw [e2] at d2;have kk:∀ q:Addr,q.block<W.heap.size→w'.cell? q=W.cell? q:=fun q hq=>(h.cell (by omega)).trans (hb.cell hq);obtain ⟨y0,y1,y2,y3,y4,y5⟩:=kx;exact ⟨(BM.below h BM.lt).cell 1,d0,d2,(kk _ l0).trans k0,⟨(kk _ l2).trans k2,(kk _ l2).trans k3,(kk _ l2).trans k4⟩,(kk _ lx).trans y0,(kk _ lx).trans y1,(kk _ lx).trans y2,(kk _ lx).trans y3,(kk _ lx).trans y4,(kk _ lx).trans y5⟩)
        have q4:Hid (∀ w,Calls prog 140 #[.int .i64 key,.agg #[.int .i64 x.a0,.int .i64 x.b0,.int .i64 x.a1,.int .i64 x.b1,.int .i64 x.a2,.int .i64 x.b2],.agg #[.int .i64 r.1,.int .i64 r.2.1,.int .i64 r.2.2]] w (Ret (.tuple #[.agg #[.int .i64 (t.midAt key l k).a0,.int .i64 (t.midAt key l k).b0,.int .i64 (t.midAt key l k).a1,.int .i64 (t.midAt key l k).b1,.int .i64 (t.midAt key l k).a2,.int .i64 (t.midAt key l k).b2],.int .i64 (oU key x)]) w)):=aab (fun w=>by
         have:=wG key x r.1 r.2.1 r.2.2 w
         rw [hmid.out] at this;exact this)
        have q5:Hid (∀ w,Calls prog 140 #[.int .i64 key,.agg #[.int .i64 (t.midAt key l k).a0,.int .i64 (t.midAt key l k).b0,.int .i64 (t.midAt key l k).a1,.int .i64 (t.midAt key l k).b1,.int .i64 (t.midAt key l k).a2,.int .i64 (t.midAt key l k).b2],.agg #[.int .i64 r2.1,.int .i64 r2.2.1,.int .i64 r2.2.2]] w (Ret (.tuple #[.agg #[.int .i64 (t.outAt key l k).a0,.int .i64 (t.outAt key l k).b0,.int .i64 (t.outAt key l k).a1,.int .i64 (t.outAt key l k).b1,.int .i64 (t.outAt key l k).a2,.int .i64 (t.outAt key l k).b2],.int .i64 (oU key (t.midAt key l k))]) w)):=aab (fun w=>by
         have:=wG key (t.midAt key l k) r2.1 r2.2.1 r2.2.2 w
         rw [hout.out] at this;exact this)
        generalize oU key x=ez at q4;generalize oU key (t.midAt key l k)=ez2 at q5;obtain ⟨z,hz⟩:∃ z,t.midAt key l k=z:=⟨_,rfl⟩
        obtain ⟨y,hy⟩:∃ z,t.outAt key l k=z:=⟨_,rfl⟩
        rw [hz] at q4 q5 hms hma;rw [hy] at q5 hos;clear hz hy hmid hout kx k0 k2 k3 k4 l0 l2 lx e0 e2;go_upto_region 13 with fail;refine aK (f:=22) KS [(0,1),(1,2),(2,1),(3,1),(4,1),(5,1),(6,2),(7,1),(8,1),(9,2),(10,1),(11,2),(12,1),(13,2),(14,1),(15,1),(16,2),(17,0),(18,1),(19,1),(20,1),(21,1),(22,3)] ?_;simp only [bf,aap,aar];refine ak ?_;refine ax ?_
        iterate 4 refine ak ?_
        refine ax ?_
        iterate 2 refine ak ?_
        refine ax ?_;refine ak ?_;refine ax ?_;refine ak ?_;refine ax ?_
        iterate 2 refine ak ?_
        refine ax ?_;refine au (fun K hK=>?_);go_simp;(first | (go_at_call 140;(with_reducible refine (q4.out _).mono ?_);rintro e w6 ⟨rfl,b6⟩;have B6:Below wr.heap.size wr w6:=ah (bDr (aj _)) b6) | skip);refine aH hK KS ?_;clear hK K
        iterate 4 refine ak ?_
        refine aN ?_
        first | simp only [aak] | simp only [aat,aak]
        clear KS q4;replace BT:=BT.below B6 BT.lt;replace BG:=BG.below B6 BG.lt;replace BO:=BO.below B6 BO.lt;replace BM:=BM.below B6 BM.lt;replace ownL:=aC ownL B6;replace ownR:=aC ownR B6;replace hb:=ah hb B6;clear B6 b6;refine aG (by rfl) (by rfl) (by rfl) (by rfl) (EC (k:=k) (x:=z) BG (by omega)) ?_;simp only [Act.put];rw [←hms];obtain ⟨X,hX⟩:∃ X,((t.mids key l (k+1)).flatMap Ltr.cl).toArray=X:=⟨_,rfl⟩
        rw [hX];have BG2:=Blk.row BG X;replace BT:=Blk.farRowT BT BG (by decide) X;replace BM:=Blk.farRowT BM BG (by decide) X;replace BO:=Blk.farRow BO hne.symm X;replace ownL:=dm ownL BG (by decide) X;replace ownR:=dm ownR BG (by decide) X;replace hb:=below_setRow hb (show W.heap.size≤gm by omega) X;clear BG;have BG:=BG2;clear BG2;generalize w6.setRow gm X=w7 at *;rw [←hX] at BG;clear hX X hms;go_wp2_with fail;refine NoPanic.normal ?_
        have KS:Hid (∀ w',Below w7.heap.size w7 w'→(w'.cell? ⟨W.heap.size+1,2,none⟩=some (.slice (some ⟨go_,0,none⟩) l.length l.length)∧w'.cell? ⟨W.heap.size,1,none⟩=some (.slice (some ⟨b1,o1,none⟩) l.length s.c1)∧w'.cell? ⟨b1,o1+k,none⟩=some (.int .i64 (p:Nat)) ∧
          w'.cell? ⟨W.heap.size+1,1,none⟩=some (.slice (some ⟨gm,0,none⟩) l.length l.length)∧w'.cell? ⟨W.heap.size,3,none⟩=some (.slice (some ⟨b3,o3,none⟩) l.length s.c3) ∧
          (w'.cell? ⟨b3,o3+k*3,none⟩=some (.int .i64 r2.1)∧w'.cell? ⟨b3,o3+k*3+1,none⟩=some (.int .i64 r2.2.1)∧w'.cell? ⟨b3,o3+k*3+2,none⟩=some (.int .i64 r2.2.2)) ∧
          (w'.cell? ⟨gm,k*6,none⟩=some (.int .i64 z.a0)∧w'.cell? ⟨gm,k*6+1,none⟩=some (.int .i64 z.b0)∧w'.cell? ⟨gm,k*6+2,none⟩=some (.int .i64 z.a1)∧w'.cell? ⟨gm,k*6+3,none⟩=some (.int .i64 z.b1)∧w'.cell? ⟨gm,k*6+4,none⟩=some (.int .i64 z.a2)∧w'.cell? ⟨gm,k*6+5,none⟩=some (.int .i64 z.b2)))) :=
         aab (fun w' h=>by
          obtain ⟨d0,d1,d2,d3⟩:=htc.out _ (BT.below h BT.lt);rw [e1] at d1;rw [e3] at d3;have hz7:=hb.size;have kk:∀ q:Addr,q.block<W.heap.size→w'.cell? q=W.cell? q:=fun q hq=>(h.cell (by omega)).trans (hb.cell hq);exact ⟨(BM.below h BM.lt).cell 2,d1,(kk _ l1).trans k1,(BM.below h BM.lt).cell 1,d3,⟨(kk _ l3).trans k5,(kk _ l3).trans k6,(kk _ l3).trans k7⟩,Vj (BG.below h BG.lt) hma⟩)
        clear hma k1 k5 k6 k7 l1 l3 e1 e3;go_upto_region 14 with fail;refine aK (f:=23) KS [(0,1),(1,2),(2,1),(3,2),(4,1),(5,1),(6,2),(7,1),(8,1),(9,2),(10,1),(11,1),(12,2),(13,1),(14,2),(15,1),(16,1),(17,2),(18,0),(19,1),(20,1),(21,1),(22,1),(23,3)] ?_;simp only [bf,aap,aar];refine ak ?_;refine ax ?_;refine ak ?_;refine ax ?_
        iterate 2 refine ak ?_
        refine ax ?_
        iterate 2 refine ak ?_
        refine ax ?_
        iterate 2 refine ak ?_
        refine ax ?_;refine ak ?_;refine ax ?_
        iterate 2 refine ak ?_
        refine ax ?_;refine au (fun K hK=>?_);go_simp;(first | (go_at_call 140;(with_reducible refine (q5.out _).mono ?_);rintro e w8 ⟨rfl,b8⟩;have B8:Below w7.heap.size w7 w8:=ah (bDr (aj _)) b8) | skip);refine aH hK KS ?_;clear hK K
        iterate 4 refine ak ?_
        refine aN ?_
        first | simp only [aak] | simp only [aat,aak]
        clear KS q5;replace BT:=BT.below B8 BT.lt;replace BG:=BG.below B8 BG.lt;replace BO:=BO.below B8 BO.lt;replace BM:=BM.below B8 BM.lt;replace ownL:=aC ownL B8;replace ownR:=aC ownR B8;replace hb:=ah hb B8;clear B8 b8;refine aG (by rfl) (by rfl) (by rfl) (by rfl) (EC (k:=p) (x:=y) BO (by omega)) ?_;simp only [Act.put];rw [←hos];obtain ⟨X,hX⟩:∃ X,((t.out key l (k+1)).flatMap Ltr.cl).toArray=X:=⟨_,rfl⟩
        rw [hX];have BO2:=Blk.row BO X;replace BT:=Blk.farRowT BT BO (by decide) X;replace BM:=Blk.farRowT BM BO (by decide) X;replace BG:=Blk.farRow BG hne X;replace ownL:=dm ownL BO (by decide) X;replace ownR:=dm ownR BO (by decide) X;replace hb:=below_setRow hb (show W.heap.size≤go_ by omega) X;clear BO;have BO:=BO2;clear BO2;generalize w8.setRow go_ X=w9 at *;rw [←hX] at BO;clear hX X hos;go_wp2_with fail;refine NoPanic.normal ?_;have q6:=yt w9;go_wp2_with fail;refine q6.mono ?_;rintro e w10 ⟨rfl,b10⟩;replace BT:=BT.below b10 BT.lt;replace BG:=BG.below b10 BG.lt;replace BO:=BO.below b10 BO.lt;replace BM:=BM.below b10 BM.lt;replace ownL:=aC ownL b10;replace ownR:=aC ownR b10;replace hb:=ah hb b10;clear b10 q6;go_wp2_with fail;obtain ⟨mid1,hmd1⟩:∃ z,t.mids key l (k+1)=z:=⟨_,rfl⟩
        obtain ⟨out1,hot1⟩:∃ z,t.out key l (k+1)=z:=⟨_,rfl⟩
        rw [hmd1] at BG;rw [hot1] at BO;replace hmd1:=aab hmd1;replace hot1:=aab hot1
        go_loopw [93] (fun i wr=>∃ (b:Nat) (vL vR:Value),b≤2∧i = .int .i64 b∧Below W.heap.size W wr∧Blk wr W.heap.size 39 T∧Blk wr gm 63 (mid1.flatMap Ltr.cl).toArray∧Blk wr go_ 63 (out1.flatMap Ltr.cl).toArray ∧
         Blk wr (W.heap.size+1) 47 #[.slice (some ⟨bx,ox,none⟩) l.length c,.slice (some ⟨gm,0,none⟩) l.length l.length,.slice (some ⟨go_,0,none⟩) l.length l.length,vL,vR]∧wr.ownsRow W.heap.size 29 32 vL (k+min b 1) ((Trn.coms t.opL fE (k+min b 1)).flatMap ag)∧wr.ownsRow W.heap.size 29 32 vR (k+(b - 1)) ((Trn.coms t.opR dB (k+(b - 1))).flatMap ag)∧Apart vL vR) (fun i _=>2 - (intOf i).toNat)
        case atStart=>exact ⟨0,_,_,by omega,rfl,hb,BT,BG,BO,BM,ownL,ownR,hap⟩
        case round =>
         clear hb BT BG BO BM ownL ownR hap;obtain ⟨b,vL,vR,hb2,rfl,hb,BT,BG,BO,BM,ownL,ownR,hap⟩:=hrel;by_cases hb1:b<2
         ·have hb01:b=0∨b=1:=by omega
          rcases hb01 with rfl | rfl
          ·
           have hix:=XG;obtain ⟨H4,hH4d⟩:∃ H4:Array Value,H4=#[.string fE,.func (.func 183) #[] #[],.func (.func 184) #[] #[],.func (.func 185) #[] #[]]:=⟨_,rfl⟩
           have hH4h:=aab hH4d;have hH4s:H4.size=4:=by rw [hH4d];rfl
           have hH4:∀ v∈H4.toList,v.oneCell'=true:=by
            intro v hv;rw [hH4d] at hv;simp only [aaq,aaw,or_false] at hv;rcases hv with rfl | rfl | rfl | rfl <;> rfl
           rw [←hH4d] at hix;clear hH4d;go_upto_region 17 with fail;apply wp_region_lit
           iterate 6 go_step
           refine aG (by rfl) (by rfl) (by rfl) (by rfl) (bP (X:=H4) (by rw [hH4s];exact zu) (by rw [hH4s];rfl) hH4) ?_;simp only [Act.put];obtain ⟨gq,hgq⟩:∃ g,g=wr.heap.size:=⟨_,rfl⟩
           have BQ:Blk (wr.alloc (.cells H4 154)) gq 154 H4:=Blk.new wr _ _ _ hgq;replace BT:=BT.alloc (.cells H4 154);replace BG:=BG.alloc (.cells H4 154);replace BO:=BO.alloc (.cells H4 154);replace BM:=BM.alloc (.cells H4 154);replace ownL:=aC ownL (bAl (aj wr) (.cells H4 154));replace ownR:=aC ownR (bAl (aj wr) (.cells H4 154));replace hb:=bAl hb (.cells H4 154);rw [←hgq];generalize wr.alloc (.cells H4 154)=w11 at *;clear hgq hix;rw [hH4h.out] at BQ;clear hH4h hH4s hH4;have q7:=Na (W.heap.size+1) (W.heap.size+1) w11 rfl;have f2:=BQ.cell 2;go_wp2_with fail;refine q7.mono ?_;rintro e w11 ⟨rfl,rfl⟩;clear q7 f2;go_upto_region 19 with fail;obtain ⟨⟨ho1,hs1⟩,ho2,hs2⟩:=wS hT l.length HF.out hlt;obtain ⟨⟨g1,g2,g3,g4,g5⟩,_⟩:=Trn.fit_of HF.out;have hT2:=(hT.below hb).more hb.size;obtain ⟨Y,hY⟩:∃ Y,(t.opL k).cl.toArray=Y:=⟨_,rfl⟩
           have q8:Hid (∀ w',Below w11.heap.size w11 w'→Calls prog 183 #[.agg T,.int .i64 (k:Nat)] w' (Ret (.agg Y) w')):=aab (fun w' h=>by
            have:=hsL.out k w' ((hT2.below h).more h.size) (by omega) (by omega) (by omega)
            rwa [hY] at this)
           have q9:Hid (∀ w',Below w11.heap.size w11 w'→Calls prog 141 #[.string fE,.agg Y] w' (Ret (.agg (ag (nX fE (t.opL k))).toArray) w')):=aab (fun w' h=>by
            have:=uf fE (t.opL k) w' ho1 (by decide) (hG.below (ah hb h))
            rwa [hY] at this)
           have hcs:Hid ((Trn.coms t.opL fE (k+1)).flatMap ag=(Trn.coms t.opL fE k).flatMap ag++ag (nX fE (t.opL k))):=aab (Trn.coms_succ _ _ _);have hcl:(ag (nX fE (t.opL k))).length=32:=(by rw [ai,rZ]);generalize nX fE (t.opL k)=Z at *
           have KS:Hid (∀ w',Below w11.heap.size w11 w'→((Instr.loadAt 39 (.pointer (some ⟨W.heap.size,0,none⟩))).run prog w' = .ok (.agg T) w'∧w'.cell? ⟨W.heap.size+1,3,none⟩=some vL∧w'.cell? ⟨gq,0,none⟩=some (.string fE)∧w'.cell? ⟨gq,1,none⟩=some (.func (.func 183) #[] #[]))) :=
            aab (fun w' h=>⟨hld.out _ (BT.below h BT.lt),(BM.below h BM.lt).cell 3,(BQ.below h BQ.lt).cell 0,(BQ.below h BQ.lt).cell 1⟩)
           clear hY g1 g2 g3 g4 g5 ho1 hs1 ho2 hs2 hT2;have ek0:k+min 0 1=k:=(by omega);have ek1:k+(0 - 1)=k:=(by omega);have ek2:k+min 1 1=k+1:=(by omega);have ek3:k+(1 - 1)=k:=(by omega);rw [ek0] at ownL;rw [ek1] at ownR;replace ek0:=aab ek2;have ek4:k+min 2 1=k+1:=(by omega);have ek5:k+(2 - 1)=k+1:=(by omega);replace ek1:=aab ek3;replace ek4:=aab ek4;replace ek5:=aab ek5;clear ek2 ek3;have hb11:=hb.size;have h63:k+1≤maxLen:=(by unfold maxLen;omega);have hby:(k+1)*32≤140737488355328:=(by omega);refine aK (f:=13) KS [(0,1),(1,1),(2,1),(3,2),(4,1),(5,2),(6,1),(7,2),(8,2),(9,1),(10,0),(11,0),(12,0),(13,3),(14,3),(15,3)] ?_;simp only [bf,aap,aar]
           iterate 3 refine ak ?_
           refine ax ?_;refine ak ?_;refine ax ?_;refine ak ?_;refine ax ?_;refine ax (v:=?vq1) (hv:=?hq1) ?_;case hq1=>(intro w hSw;(first | refine (af rfl rfl hSw).trans ?_ | refine (af rfl rfl hSw.1).trans ?_ | refine (af rfl rfl hSw.2.1).trans ?_ | refine (af rfl rfl hSw.2.2.1).trans ?_ | refine (af rfl rfl hSw.2).trans ?_ | refine (af rfl rfl hSw.2.2).trans ?_);with_reducible rfl)
           refine ak ?_;refine au (fun K hK=>?_)
           first | ((refine ji (by rfl) (by rfl) (by rfl) (jP underlying23 dN (by rw [aae];exact hcl) (by omega) (by omega) _) ?_)) | (go_simp;(first | (go_at_call 183;(with_reducible refine (q8.out _ (by with_reducible exact bDr (aj _))).mono ?_);rintro e w12 ⟨rfl,b12⟩;have B12:Below w11.heap.size w11 w12:=ah (bDr (aj _)) b12) | (go_at_call 141;(with_reducible refine (q9.out _ B12).mono ?_);rintro e w13 ⟨rfl,b13⟩;have B13:Below w11.heap.size w11 w13:=ah B12 b13) | skip))
           refine aH hK KS ?_;clear hK K;refine au (fun K hK=>?_)
           first | ((refine ji (by rfl) (by rfl) (by rfl) (jP underlying23 dN (by rw [aae];exact hcl) (by omega) (by omega) _) ?_)) | (go_simp;(first | (go_at_call 183;(with_reducible refine (q8.out _ (by with_reducible exact bDr (aj _))).mono ?_);rintro e w12 ⟨rfl,b12⟩;have B12:Below w11.heap.size w11 w12:=ah (bDr (aj _)) b12) | (go_at_call 141;(with_reducible refine (q9.out _ B12).mono ?_);rintro e w13 ⟨rfl,b13⟩;have B13:Below w11.heap.size w11 w13:=ah B12 b13) | skip))
           refine aH hK KS ?_;clear hK K;refine au (fun K hK=>?_)
           first | ((refine ji (by rfl) (by rfl) (by rfl) (jP underlying23 dN (by rw [aae];exact hcl) (by omega) (by omega) _) ?_)) | (go_simp;(first | (go_at_call 183;(with_reducible refine (q8.out _ (by with_reducible exact bDr (aj _))).mono ?_);rintro e w12 ⟨rfl,b12⟩;have B12:Below w11.heap.size w11 w12:=ah (bDr (aj _)) b12) | (go_at_call 141;(with_reducible refine (q9.out _ B12).mono ?_);rintro e w13 ⟨rfl,b13⟩;have B13:Below w11.heap.size w11 w13:=ah B12 b13) | skip))
           refine aH hK KS ?_;clear hK K;refine aN ?_
           first | simp only [aak] | simp only [aat,aak]
           refine aO w13 (ag Z) (.tmp 102) (.tmp 111) 23 W.heap.size 29 sF 32 32 _ k _ (by rfl) (by rfl) underlying23 dN rfl (by omega) (by rfl) (aC ownL B13) (by rfl) hcl aZ h63 hby (aaj hb11 B13.size) ?_;intro v' w' hown4 hg4;have own0:=aC ownL B13;have BT2:=hg4.blk own0 (BT.below B13 BT.lt) (by decide);have BG2:=hg4.blk own0 (BG.below B13 BG.lt) (by decide);have BO2:=hg4.blk own0 (BO.below B13 BO.lt) (by decide);have BM2:=hg4.blk own0 (BM.below B13 BM.lt) (by decide);have hb3:=(ah hb B13).trans (hg4.below own0 (aaj hb11 B13.size));obtain ⟨ot,hap2⟩:=ED (aC ownR B13) hap.symm hg4;rw [←hcs.out] at hown4;clear KS q8 q9 BT BG BO BM BQ own0 ownL ownR hap B12 b12 B13 b13 hg4 hcs hcl;obtain ⟨g',cap',rfl⟩:=ownsRow_succ hown4;have c3:=BM2.cell 3;have z3:=BM2.frozen 3;have fT:=BT2.far (p:=⟨W.heap.size+1,3,none⟩) (show W.heap.size≠W.heap.size+1 by omega) (.slice (some ⟨g',0,none⟩) (k+1) cap');have fG:=BG2.far (p:=⟨W.heap.size+1,3,none⟩) (show gm≠W.heap.size+1 by omega) (.slice (some ⟨g',0,none⟩) (k+1) cap');have fO:=BO2.far (p:=⟨W.heap.size+1,3,none⟩) (show go_≠W.heap.size+1 by omega) (.slice (some ⟨g',0,none⟩) (k+1) cap');have fM:=BM2.set_ 3 (.slice (some ⟨g',0,none⟩) (k+1) cap');have fb:=zQ7 hb3 (p:=⟨W.heap.size+1,3,none⟩) (show W.heap.size≤W.heap.size+1 by omega) (.slice (some ⟨g',0,none⟩) (k+1) cap');have fo:=dV (i:=3) (u:=(.slice (some ⟨g',0,none⟩) (k+1) cap')) hown4 BM2 (by decide);have fp:=dV (i:=3) (u:=(.slice (some ⟨g',0,none⟩) (k+1) cap')) ot BM2 (by decide);go_wp2_with fail;refine NoPanic.normal ?_
           go_wp2_with fail;exact ⟨⟨1,_,vR,by omega,by go_num,fb,fT,fG,fO,fM,by rw [ek0.out];exact fo,by rw [ek1.out];exact fp,hap2.symm⟩,by simp [intOf]⟩
          ·
           have hix:=XH;obtain ⟨H4,hH4d⟩:∃ H4:Array Value,H4=#[.string dB,.func (.func 186) #[] #[],.func (.func 187) #[] #[],.func (.func 188) #[] #[]]:=⟨_,rfl⟩
           have hH4h:=aab hH4d;have hH4s:H4.size=4:=by rw [hH4d];rfl
           have hH4:∀ v∈H4.toList,v.oneCell'=true:=by
            intro v hv;rw [hH4d] at hv;simp only [aaq,aaw,or_false] at hv;rcases hv with rfl | rfl | rfl | rfl <;> rfl
           rw [←hH4d] at hix;clear hH4d;go_upto_region 17 with fail;apply wp_region_lit
           iterate 6 go_step
           refine aG (by rfl) (by rfl) (by rfl) (by rfl) (bP (X:=H4) (by rw [hH4s];exact zu) (by rw [hH4s];rfl) hH4) ?_;simp only [Act.put];obtain ⟨gq,hgq⟩:∃ g,g=wr.heap.size:=⟨_,rfl⟩
           have BQ:Blk (wr.alloc (.cells H4 154)) gq 154 H4:=Blk.new wr _ _ _ hgq;replace BT:=BT.alloc (.cells H4 154);replace BG:=BG.alloc (.cells H4 154);replace BO:=BO.alloc (.cells H4 154);replace BM:=BM.alloc (.cells H4 154);replace ownL:=aC ownL (bAl (aj wr) (.cells H4 154));replace ownR:=aC ownR (bAl (aj wr) (.cells H4 154));replace hb:=bAl hb (.cells H4 154);rw [←hgq];generalize wr.alloc (.cells H4 154)=w11 at *;clear hgq hix;rw [hH4h.out] at BQ;clear hH4h hH4s hH4;have q7:=Ig (W.heap.size+1) (W.heap.size+1) w11 rfl;have f2:=BQ.cell 2;go_wp2_with fail;refine q7.mono ?_;rintro e w11 ⟨rfl,rfl⟩;clear q7 f2;go_upto_region 19 with fail;obtain ⟨⟨ho1,hs1⟩,ho2,hs2⟩:=wS hT l.length HF.out hlt;obtain ⟨⟨g1,g2,g3,g4,g5⟩,_⟩:=Trn.fit_of HF.out;have hT2:=(hT.below hb).more hb.size;obtain ⟨Y,hY⟩:∃ Y,(t.opR k).cl.toArray=Y:=⟨_,rfl⟩
           have q8:Hid (∀ w',Below w11.heap.size w11 w'→Calls prog 186 #[.agg T,.int .i64 (k:Nat)] w' (Ret (.agg Y) w')):=aab (fun w' h=>by
            have:=hsO.out k w' ((hT2.below h).more h.size) (by omega) (by omega) (by omega)
            rwa [hY] at this)
           have q9:Hid (∀ w',Below w11.heap.size w11 w'→Calls prog 141 #[.string dB,.agg Y] w' (Ret (.agg (ag (nX dB (t.opR k))).toArray) w')):=aab (fun w' h=>by
            have:=uf dB (t.opR k) w' ho2 (by decide) (hG.below (ah hb h))
            rwa [hY] at this)
           have hcs:Hid ((Trn.coms t.opR dB (k+1)).flatMap ag=(Trn.coms t.opR dB k).flatMap ag++ag (nX dB (t.opR k))):=aab (Trn.coms_succ _ _ _);have hcl:(ag (nX dB (t.opR k))).length=32:=(by rw [ai,rZ]);generalize nX dB (t.opR k)=Z at *
           have KS:Hid (∀ w',Below w11.heap.size w11 w'→((Instr.loadAt 39 (.pointer (some ⟨W.heap.size,0,none⟩))).run prog w' = .ok (.agg T) w'∧w'.cell? ⟨W.heap.size+1,4,none⟩=some vR∧w'.cell? ⟨gq,0,none⟩=some (.string dB)∧w'.cell? ⟨gq,1,none⟩=some (.func (.func 186) #[] #[]))) :=
            aab (fun w' h=>⟨hld.out _ (BT.below h BT.lt),(BM.below h BM.lt).cell 4,(BQ.below h BQ.lt).cell 0,(BQ.below h BQ.lt).cell 1⟩)
           clear hY g1 g2 g3 g4 g5 ho1 hs1 ho2 hs2 hT2;have ek0:k+min 0 1=k:=(by omega);have ek1:k+(0 - 1)=k:=(by omega);have ek2:k+min 1 1=k+1:=(by omega);have ek3:k+(1 - 1)=k:=(by omega);rw [ek2] at ownL;rw [ek3] at ownR;replace ek0:=aab ek2;have ek4:k+min 2 1=k+1:=(by omega);have ek5:k+(2 - 1)=k+1:=(by omega);replace ek1:=aab ek3;replace ek4:=aab ek4;replace ek5:=aab ek5;clear ek2 ek3;have hb11:=hb.size;have h63:k+1≤maxLen:=(by unfold maxLen;omega);have hby:(k+1)*32≤140737488355328:=(by omega);refine aK (f:=13) KS [(0,1),(1,1),(2,1),(3,2),(4,1),(5,2),(6,1),(7,2),(8,2),(9,1),(10,0),(11,0),(12,0),(13,3),(14,3),(15,3)] ?_;simp only [bf,aap,aar]
           iterate 3 refine ak ?_
           refine ax ?_;refine ak ?_;refine ax ?_;refine ak ?_;refine ax ?_;refine ax (v:=?vq2) (hv:=?hq2) ?_;case hq2=>(intro w hSw;(first | refine (af rfl rfl hSw).trans ?_ | refine (af rfl rfl hSw.1).trans ?_ | refine (af rfl rfl hSw.2.1).trans ?_ | refine (af rfl rfl hSw.2.2.1).trans ?_ | refine (af rfl rfl hSw.2).trans ?_ | refine (af rfl rfl hSw.2.2).trans ?_);with_reducible rfl)
           refine ak ?_;refine au (fun K hK=>?_)
           first | ((refine ji (by rfl) (by rfl) (by rfl) (jP underlying23 dN (by rw [aae];exact hcl) (by omega) (by omega) _) ?_)) | (go_simp;(first | (go_at_call 186;(with_reducible refine (q8.out _ (by with_reducible exact bDr (aj _))).mono ?_);rintro e w12 ⟨rfl,b12⟩;have B12:Below w11.heap.size w11 w12:=ah (bDr (aj _)) b12) | (go_at_call 141;(with_reducible refine (q9.out _ B12).mono ?_);rintro e w13 ⟨rfl,b13⟩;have B13:Below w11.heap.size w11 w13:=ah B12 b13) | skip))
           refine aH hK KS ?_;clear hK K;refine au (fun K hK=>?_)
           first | ((refine ji (by rfl) (by rfl) (by rfl) (jP underlying23 dN (by rw [aae];exact hcl) (by omega) (by omega) _) ?_)) | (go_simp;(first | (go_at_call 186;(with_reducible refine (q8.out _ (by with_reducible exact bDr (aj _))).mono ?_);rintro e w12 ⟨rfl,b12⟩;have B12:Below w11.heap.size w11 w12:=ah (bDr (aj _)) b12) | (go_at_call 141;(with_reducible refine (q9.out _ B12).mono ?_);rintro e w13 ⟨rfl,b13⟩;have B13:Below w11.heap.size w11 w13:=ah B12 b13) | skip))
           refine aH hK KS ?_;clear hK K;refine au (fun K hK=>?_)
           first | ((refine ji (by rfl) (by rfl) (by rfl) (jP underlying23 dN (by rw [aae];exact hcl) (by omega) (by omega) _) ?_)) | (go_simp;(first | (go_at_call 186;(with_reducible refine (q8.out _ (by with_reducible exact bDr (aj _))).mono ?_);rintro e w12 ⟨rfl,b12⟩;have B12:Below w11.heap.size w11 w12:=ah (bDr (aj _)) b12) | (go_at_call 141;(with_reducible refine (q9.out _ B12).mono ?_);rintro e w13 ⟨rfl,b13⟩;have B13:Below w11.heap.size w11 w13:=ah B12 b13) | skip))
           refine aH hK KS ?_;clear hK K;refine aN ?_
           first | simp only [aak] | simp only [aat,aak]
           refine aO w13 (ag Z) (.tmp 102) (.tmp 111) 23 W.heap.size 29 sF 32 32 _ k _ (by rfl) (by rfl) underlying23 dN rfl (by omega) (by rfl) (aC ownR B13) (by rfl) hcl aZ h63 hby (aaj hb11 B13.size) ?_;intro v' w' hown4 hg4;have own0:=aC ownR B13;have BT2:=hg4.blk own0 (BT.below B13 BT.lt) (by decide);have BG2:=hg4.blk own0 (BG.below B13 BG.lt) (by decide);have BO2:=hg4.blk own0 (BO.below B13 BO.lt) (by decide);have BM2:=hg4.blk own0 (BM.below B13 BM.lt) (by decide);have hb3:=(ah hb B13).trans (hg4.below own0 (aaj hb11 B13.size));obtain ⟨ot,hap2⟩:=ED (aC ownL B13) hap hg4;rw [←hcs.out] at hown4;clear KS q8 q9 BT BG BO BM BQ own0 ownL ownR hap B12 b12 B13 b13 hg4 hcs hcl;obtain ⟨g',cap',rfl⟩:=ownsRow_succ hown4;have c3:=BM2.cell 4;have z3:=BM2.frozen 4;have fT:=BT2.far (p:=⟨W.heap.size+1,4,none⟩) (show W.heap.size≠W.heap.size+1 by omega) (.slice (some ⟨g',0,none⟩) (k+1) cap');have fG:=BG2.far (p:=⟨W.heap.size+1,4,none⟩) (show gm≠W.heap.size+1 by omega) (.slice (some ⟨g',0,none⟩) (k+1) cap');have fO:=BO2.far (p:=⟨W.heap.size+1,4,none⟩) (show go_≠W.heap.size+1 by omega) (.slice (some ⟨g',0,none⟩) (k+1) cap');have fM:=BM2.set_ 4 (.slice (some ⟨g',0,none⟩) (k+1) cap');have fb:=zQ7 hb3 (p:=⟨W.heap.size+1,4,none⟩) (show W.heap.size≤W.heap.size+1 by omega) (.slice (some ⟨g',0,none⟩) (k+1) cap');have fo:=dV (i:=4) (u:=(.slice (some ⟨g',0,none⟩) (k+1) cap')) hown4 BM2 (by decide);have fp:=dV (i:=4) (u:=(.slice (some ⟨g',0,none⟩) (k+1) cap')) ot BM2 (by decide);go_wp2_with fail;refine NoPanic.normal ?_
           go_wp2_with fail;exact ⟨⟨2,vL,_,by omega,by go_num,fb,fT,fG,fO,fM,by rw [ek4.out];exact fp,(by exact fo),hap2⟩,by simp [intOf]⟩
         ·obtain rfl:b=2:=by omega
          rw [←hmd1.out] at BG;rw [←hot1.out] at BO;go_wp2_with fail;exact ⟨⟨k+1,_,_,by omega,by go_num,hb,BT,BG,BO,BM,ownL,ownR,hap⟩,by simp [intOf];omega⟩
       ·obtain rfl:k=l.length:=by omega
        rw [Trn.mids_all] at BG;have o3:vL.oneCell'=true:=(by obtain ⟨_,_,e,_⟩:=Sl.of_own ownL;rw [e];rfl);have o4:vR.oneCell'=true:=(by obtain ⟨_,_,e,_⟩:=Sl.of_own ownR;rw [e];rfl);obtain ⟨X,hX⟩:∃ X:Array Value,X=#[.slice A l.length c,.slice (some ⟨gm,0,none⟩) l.length l.length,.slice (some ⟨go_,0,none⟩) l.length l.length,vL,vR]:=⟨_,rfl⟩
        rw [←hX] at BM;have hXs:X.size=5:=(by rw [hX];rfl);have hX1:∀ v∈X.toList,v.oneCell'=true:=(by rw [hX];exact Tn _ _ _ _ _ rfl rfl rfl o3 o4);go_upto_region 22 with fail;apply wp_region_lit;refine aP (by rfl) (by rfl) (by rfl) (bg BM underlying47 rfl (by rw [hXs];exact eQ)) ?_;simp only [Act.put,aaf,aai,aah];refine aG (by rfl) (by rfl) (by rfl) (by rfl) (aQ BM (by rw [hXs];exact eQ) rfl hX1) ?_;simp only [Act.put];have BM2:=Blk.row BM X;have BG2:=Blk.farRowT BG BM (by decide) X;have BO2:=Blk.farRowT BO BM (by decide) X;have wL:=dm ownL BM (by decide) X;have wR:=dm ownR BM (by decide) X;have fb:=below_setRow hb (show W.heap.size≤W.heap.size+1 by omega) X;clear BM BG BO ownL ownR hb hap;generalize World.setRow _ (W.heap.size+1) X=wz at *;go_wp2_with fail;obtain ⟨AL,cL,rfl,RL,_⟩:=Sl.of_own wL;obtain ⟨AR,cR,rfl,RR,_⟩:=Sl.of_own wR;have hcm:∀ f tg,(Trn.coms f tg l.length).length=l.length:=fun f tg=>by simp [Trn.coms]
        have hcl:(⟨A,some ⟨gm,0,none⟩,some ⟨go_,0,none⟩,AL,AR,c,l.length,l.length,cL,cR⟩:MS).cl (jT key l t)=X:=by
         rw [hX];unfold MS.cl jT;dsimp only;rw [Trn.mid_length,Trn.out_length,hcm,hcm]
        refine bodyPost_ret (v := .tuple #[.agg X,.int .i64 0]) (sS rfl _ _ _ _ _ (by rfl) (by rfl) BM2 hXs) rfl ⟨fb,fun h=>absurd he.out h,fun _=>⟨_,rfl,rfl,by rw [hcl],⟨?_,?_,?_,?_,?_,NM _ _ _,NM _ _ _⟩,?_,?_,?_,?_⟩⟩
        ·exact (hA.below fb).more fb.size
        ·show Rd wz _ 6 _ (t.mid key l l.length).length _
         rw [Trn.mid_length];exact Tm BG2 (by rw [flat_length (sz:=6) _ (fun _ _=>rfl)];show (t.mid key l l.length).length*6=_;rw [Trn.mid_length])
        ·show Rd wz _ 6 _ (t.out key l l.length).length _
         rw [Trn.out_length];exact Tm BO2 (by rw [flat_length (sz:=6) _ (fun _ _=>rfl)];show (t.out key l l.length).length*6=_;rw [Trn.out_length])
        ·show Rd wz _ 32 _ (Trn.coms t.opL fE l.length).length _
         rw [hcm];exact RL
        ·show Rd wz _ 32 _ (Trn.coms t.opR dB l.length).length _
         rw [hcm];exact RR
        ·show RdT wz _ 6 _ (t.mid key l l.length).length _
         rw [Trn.mid_length];exact RdT.of_blk BG2 (by rw [flat_length (sz:=6) _ (fun _ _=>rfl)];show (t.mid key l l.length).length*6=_;rw [Trn.mid_length])
        ·show RdT wz _ 6 _ (t.out key l l.length).length _
         rw [Trn.out_length];exact RdT.of_blk BO2 (by rw [flat_length (sz:=6) _ (fun _ _=>rfl)];show (t.out key l l.length).length*6=_;rw [Trn.out_length])
        ·show RdT wz _ 32 _ (Trn.coms t.opL fE l.length).length _
         rw [hcm];exact RdT.of_own wL
        ·show RdT wz _ 32 _ (Trn.coms t.opR dB l.length).length _
         rw [hcm];exact RdT.of_own wR
def Ld:Value := .agg #[.int .i64 0,.int .i64 0,.int .u8 0,.int .u8 0,.int .u8 0,.int .u8 0,.int .u8 0,.int .u8 0,.int .u8 0,.int .u8 0,.int .u8 0,.int .u8 0,.int .u8 0,.int .u8 0,.int .u8 0,.int .u8 0,.int .u8 0,.int .u8 0,.int .u8 0,.int .u8 0,.int .u8 0,.int .u8 0,.int .u8 0,.int .u8 0,.int .u8 0,.int .u8 0,.int .u8 0,.int .u8 0,.int .u8 0,.int .u8 0,.int .u8 0,.int .u8 0,.int .u8 0,.int .u8 0,.slice none 0 0]
theorem yC:(prog.info? 85).map (fun i=>(i.zero,i.size,i.bytes))=some (some Ld,35,72):=by kernel_rfl
theorem PR (x:Lnk) (A:Option Addr) (n c:Nat) (h:x.prev.length=32):prog.built 85 [(0,.int .i64 x.node),(1,.int .i64 x.no),(2,.agg (ag x.prev).toArray),(3,.slice A n c)]=some (x.cl (.slice A n c)).toArray:=by
 have hl:(ag x.prev).length=32:=by rw [ai,h]
 have hz:(ag (aF 32)).length=32:=by rw [ai];simp [aF]
 have e:prog.built 85 [(0,.int .i64 x.node),(1,.int .i64 x.no),(2,.agg (ag x.prev).toArray),(3,.slice A n c)] =
   Instr.fill (fun i=>#[(0,1),(1,1),(2,32),(34,1)][i]?) (Lnk.cl ⟨x.node,x.no,aF 32,[]⟩ (.slice none 0 0)).toArray [(2,.agg (ag x.prev).toArray),(3,.slice A n c)]:=by kernel_rfl
 rw [e,yj (off:=2) (size:=32) rfl (by show (ag x.prev).toArray.size=32;rw [aae,hl]) (by rw [aae];simp [Lnk.cl,hz])];have ec0:(Lnk.cl ⟨x.node,x.no,aF 32,[]⟩ (.slice none 0 0)).toArray=(([.int .i64 x.node,.int .i64 x.no]:List Value)++(ag (aF 32)++[Value.slice none 0 0])).toArray:=rfl;rw [show (Value.agg (ag x.prev).toArray).cells=(ag x.prev).toArray from rfl,zX _ _ (ag x.prev) _ 2 _ ec0 rfl (by rw [hl,hz])];rw [yj (off:=34) (size:=1) rfl rfl (by rw [aae];simp [hl]),Ie];refine congrArg some ?_;show (#[Value.slice A n c]:Array Value).zipIdx.foldl _ _=_;have ec:(([.int .i64 x.node,.int .i64 x.no]:List Value)++(ag x.prev++[Value.slice none 0 0])).toArray=((([.int .i64 x.node,.int .i64 x.no]:List Value)++ag x.prev)++([Value.slice none 0 0]++[])).toArray:=by simp
 have:=zX (([.int .i64 x.node,.int .i64 x.no]:List Value)++ag x.prev) [Value.slice none 0 0] [Value.slice A n c] [] 34 _ ec (by simp [hl]) rfl
 rw [this];unfold Lnk.cl
 simp
def IX (l:List Lnk) (node:Int) (d:List Nat):Int :=
 if chainE l=0 then (if (0≤node∧node<24)∧((0<l.length→node=(l.getD 0 uZ).node)∧d.length≤65536) then (if l.length=1024 then 2 else 0) else 1) else chainE l
def Le (l:List Lnk) (vs:List Value) (node:Int) (d:List Nat) (w:World) (r:Ending) (w':World):Prop :=
 Below w.heap.size w w'∧(IX l node d≠0→r = .returned (.tuple #[.slice none 0 0,.int .i64 (IX l node d)])) ∧
 (IX l node d=0→∃ v A c,r = .returned (.tuple #[v,.int .i64 0])∧w'.ownsRow w.heap.size 85 35 v (l.length+1) (kP l vs++(⟨node,(l.length:Int),fV l,d⟩:Lnk).cl (.slice A d.length c))∧RdT w' 5 1 A d.length (ag d))
theorem WB (A:Option Addr) (c:Nat) (l:List Lnk) (vs:List Value) (node:Int) (Ad:Option Addr) (cd:Nat) (d:List Nat) (W:World) (hA:LksAt W W.heap.size A l vs) (hn:l.length≤1000000) (hcap:l.length≤c) (hnilA:A=none→c=0)
  (hD:Rd W W.heap.size 1 Ad d.length (ag d)) (hnilD:Ad=none→d.length=0∧cd=0) (hdn:d.length≤1000000) (hG:ShaG W) :
  Calls prog 63 #[.slice A l.length c,.int .i64 node,.slice Ad d.length cd] W (Le l vs node d W):=by
 have q1:=IK A c l vs W hA hn hcap hG;have hae:Hid (IX l node d=if chainE l=0 then (if (0≤node∧node<24)∧((0<l.length→node=(l.getD 0 uZ).node)∧d.length≤65536) then (if l.length=1024 then 2 else 0) else 1) else chainE l):=aab rfl;obtain ⟨E,hE⟩:∃ E,IX l node d=E:=⟨_,rfl⟩
 unfold Le;rw [hE] at hae ⊢;go_enter func63,ntmps63;go_wp2_with fail;refine q1.mono ?_;rintro e w2 ⟨rfl,b2⟩;clear q1;by_cases hc:chainE l=0
 rotate_left 1
 ·rw [if_neg hc] at hae
  generalize chainE l=ec at *;go_wp2_with fail;go_ret2;exact ⟨b2,fun _=>by rw [hae.out];rfl,fun h=>absurd (hae.out.symm.trans h) hc⟩
 rw [if_pos hc] at hae;rw [hc];replace hc:=aab hc;have hb:=b2;have hbz:=hb.size;obtain ⟨B,hB⟩:∃ B,Hid (B=decide ((0≤node∧node<24)∧((0<l.length→node=(l.getD 0 uZ).node)∧d.length≤65536))):=⟨_,aab rfl⟩
 have hae2:Hid (E=if B=true then (if l.length=1024 then 2 else 0) else 1):=by
  show _=_;rw [hae.out,hB.out];simp only [decide_eq_true_eq]
 clear hae;go_upto_region 4 with fail;go_cut [37] from 14 to 36 (fun s37 wc=>s37 = .bool (!B)∧wc=w2)
 case first =>
  by_cases n1:node<0
  ·have hb1:B=false:=by rw [hB.out];exact decide_eq_false (fun h=>by omega)
   subst hb1;go_wp2_with fail;go_meet;exact ⟨rfl,rfl⟩
  by_cases n2:24≤node
  ·have hb1:B=false:=by rw [hB.out];exact decide_eq_false (fun h=>by omega)
   subst hb1;go_wp2_with fail;go_meet;exact ⟨rfl,rfl⟩
  by_cases n3:0<l.length
  ·obtain ⟨y,hy⟩:∃ y,l[0]?=some y:=⟨_,aac n3⟩
   obtain ⟨b,off,Ay,cy,rfl,hbb,hyo,hRd,hrg⟩:=hA.at_ hy;have c0:W.cell? ⟨b,off,none⟩=some (.int .i64 y.node):=(by simpa using hrg 0 _ rfl);have c1:=(b2.cell (p:=⟨b,off,none⟩) hbb).trans c0;have n3i:(0:Int)<(l.length:Int):=(by omega);rw [aS hy] at hB;generalize y.node=yn at *;cases e0:(node != yn)
   rotate_left 1
   ·have hb1:B=false:=by rw [hB.out];exact decide_eq_false (fun h=>by have:=h.2.1 n3;rw [this] at e0;simp at e0)
    subst hb1;go_wp2_with fail;go_meet;exact ⟨rfl,rfl⟩
   by_cases n5:(65536:Int)<(d.length:Int)
   ·have hb1:B=false:=by rw [hB.out];exact decide_eq_false (fun h=>by omega)
    subst hb1;go_wp2_with fail;go_meet;exact ⟨rfl,rfl⟩
   ·have hb1:B=true:=by rw [hB.out];exact decide_eq_true ⟨⟨by omega,by omega⟩,fun _=>by simpa using e0,by omega⟩
    subst hb1;go_wp2_with fail;go_meet;exact ⟨rfl,rfl⟩
  ·have n3i:¬(0:Int)<(l.length:Int):=by omega
   by_cases n5:(65536:Int)<(d.length:Int)
   ·have hb1:B=false:=by rw [hB.out];exact decide_eq_false (fun h=>by omega)
    subst hb1;go_wp2_with fail;go_meet;exact ⟨rfl,rfl⟩
   ·have hb1:B=true:=by rw [hB.out];exact decide_eq_true ⟨⟨by omega,by omega⟩,fun h=>absurd h n3,by omega⟩
    subst hb1;go_wp2_with fail;go_meet;exact ⟨rfl,rfl⟩
 case rest =>
  obtain ⟨rfl,rfl⟩:=hcut;cases B
  ·have he:Hid (E=1):=aab hae2.out
   go_wp2_with fail;go_ret2;exact ⟨b2,fun _=>by rw [he.out];rfl,fun h=>by rw [he.out] at h;omega⟩
  have he:Hid (E=if l.length=1024 then 2 else 0):=aab hae2.out;by_cases h1024:l.length=1024
  ·have he2:Hid (E=2):=by show _=_;rw [he.out,if_pos h1024]
   have e4:(l.length:Int)=1024:=(by omega);go_wp2_with fail;go_ret2;exact ⟨b2,fun _=>by rw [he2.out];rfl,fun h=>by rw [he2.out] at h;omega⟩
  have he2:Hid (E=0):=by show _=_;rw [he.out,if_neg h1024]
  have e4:¬(l.length:Int)=1024:=by omega
  have hG2:=hG.below b2;have hA2:=(hA.below b2).more hbz;have hD2:=(hD.below b2).more hbz;have q2:=Nv A c l vs wc hA2 hn hG2;have hX32:=Eu l;obtain ⟨X,hX⟩:∃ X,fV l=X:=⟨_,rfl⟩
  rw [hX] at q2 hX32;unfold dig at q2;clear hA hD;go_wp2_with fail;refine q2.mono ?_;rintro e w3 ⟨rfl,b3⟩;have q3:=RX Ad d.length cd d w3 ((hD2.below b3).more b3.size) hnilD hdn;clear q2;go_wp2_with fail;refine q3.mono ?_;rintro e w4 ⟨v4,rfl,b4,own4⟩;obtain ⟨A4,c4,rfl,R4,_⟩:=Sl.of_own own4;clear q3;have hb4:=ah (ah b2 b3) b4;have hA4:=(((hA2.below b3).more b3.size).below b4).more b4.size;dsimp only;go_step;refine lT (by rfl) (by rfl) (by rfl) (PR ⟨node,(l.length:Int),X,d⟩ A4 d.length c4 hX32) ?_;simp only [Act.put,aaf,aai,aah];have hYo:∀ u∈(Lnk.cl ⟨node,(l.length:Int),X,d⟩ (.slice A4 d.length c4)),u.oneCell'=true:=Lnk.one _ _ rfl
  have hYs:(Lnk.cl ⟨node,(l.length:Int),X,d⟩ (.slice A4 d.length c4)).toArray.size=35:=by
   rw [aae];simp [Lnk.cl,ai,hX32]
  obtain ⟨Y,hYd⟩:∃ Y,(Lnk.cl ⟨node,(l.length:Int),X,d⟩ (.slice A4 d.length c4)).toArray=Y:=⟨_,rfl⟩
  replace hYo:∀ u∈Y.toList,u.oneCell'=true:=by rw [←hYd];simpa using hYo
  rw [hYd] at hYs ⊢;replace hYd:Lnk.cl ⟨node,(l.length:Int),X,d⟩ (.slice A4 d.length c4)=Y.toList:=by rw [←hYd]
  iterate 3 go_step
  refine aG (by rfl) (by rfl) (by rfl) (by rfl) (bP (X:=Y) (by rw [hYs];exact gu) (by rw [hYs];rfl) hYo) ?_;simp only [Act.put];obtain ⟨g8,hg8⟩:∃ g,g=w4.heap.size:=⟨_,rfl⟩
  have BY:=Blk.new w4 85 Y g8 hg8;have hb5:=bAl hb4 (.cells Y 85);have hA5:=(hA4.below (bAl (aj w4) (.cells Y 85))).more (show w4.heap.size≤(w4.alloc (.cells Y 85)).heap.size by simp);have T5:RdT (w4.alloc (.cells Y 85)) 5 1 A4 d.length (ag d):=(RdT.of_own own4).keep (fun g cs B=>B.alloc _);rw [←hg8];clear hg8;generalize w4.alloc (.cells Y 85)=w5 at *;have KS:Hid (∀ w',Below w5.heap.size w5 w'→((Instr.loadAt 85 (.pointer (some ⟨g8,0,none⟩))).run prog w' = .ok (.agg Y) w'∧True)):=aab (fun w' h=>⟨bg (BY.below h BY.lt) underlying85 rfl (by rw [hYs];exact gu),trivial⟩);obtain ⟨i0,hi,hz0,hz1,hz2⟩:=info_parts yC;have hlo:(kP l vs).length=l.length*35:=hA5.1.1
  have hnews:∀ j u,Y.toList[j]?=some u→(w5.drew.alloc (.cells Y 85)).cell? ((⟨w5.heap.size,0,none⟩:Addr).add j)=some u:=fun j u hu=>by
   rw [dX,aax,(Blk.new w5.drew 85 Y w5.heap.size rfl).cell];simpa using hu
  cases A with
  | some p =>
   have hold:∀ b,(some p:Option Addr)=some b→∀ j u,(kP l vs)[j]?=some u→(w5.drew.alloc (.cells Y 85)).cell? (b.add j)=some u:=by
    intro b hbp j u hu
    have hpos:0<l.length:=by
     have:=(aag.1 hu).1
     rw [hlo] at this;omega
    obtain ⟨b',off',e,hlt,hc⟩:=hA5.1.2 hpos;rw [hbp] at e;injection e with e
    subst e;rw [dX];exact ((bAl (bDr (aj w5)) (.cells Y 85)).cell (p:=⟨b',off'+j,none⟩) hlt).trans (hc j u hu)
   go_upto_region 9 with fail;refine aK (f:=8) KS [(0,1),(1,1),(2,1),(3,1),(4,1),(5,1),(6,2),(7,0),(8,3),(9,3),(10,3)] ?_;simp only [bf,aap,aar]
   iterate 6 refine ak ?_
   refine ax (v:=?vq1) (hv:=?hq1) ?_;case hq1=>(intro w hSw;(first | refine (af rfl rfl hSw).trans ?_ | refine (af rfl rfl hSw.1).trans ?_ | refine (af rfl rfl hSw.2.1).trans ?_ | refine (af rfl rfl hSw.2.2.1).trans ?_ | refine (af rfl rfl hSw.2).trans ?_ | refine (af rfl rfl hSw.2.2).trans ?_);with_reducible rfl)
   refine au (fun K hK=>?_)
   first | ((refine ji (by rfl) (by rfl) (by rfl) (jP underlying22 yC hYs (by omega) (by omega) _) ?_)) | (go_simp)
   refine aH hK KS ?_;clear hK K;refine aN ?_
   first | simp only [aak] | simp only [aat,aak]
   refine wpList_append_grows (w5.drew.alloc (.cells Y 85)) (by rfl) (.tmp 54) (.tmp 56) 22 (by rfl) 85 i0 Ld 35 72 underlying22 hi hz0 hz1 hz2 rfl (by omega) (some p) l.length l.length (kP l vs) (by rfl) (by intro h;cases h) hlo hold ⟨w5.heap.size,0,none⟩ 1 1 Y.toList (by rfl) (by rw [Array.length_toList,hYs]) hnews hYo (by omega) (by unfold maxLen;omega) (by omega) ?_;intro v' w' hown hgr;have hb7:Below W.heap.size W w':=gz (bAl (bDr hb5) (.cells Y 85)) hgr (aad _) (by intro r e;cases e);have b6:Below w5.heap.size w5 w':=gz (bAl (bDr (aj w5)) (.cells Y 85)) hgr (aad _) (by intro r e;cases e);go_wp2_with fail;refine NoPanic.normal ?_;go_wp2_with fail;go_ret2;exact ⟨hb7,fun h=>absurd he2.out h,fun _=>⟨v',A4,c4,rfl,by rw [hX,hYd];exact own_base hown (by simp;have:=hb5.size;omega),T5.keep (fun g cs B=>B.below b6 B.lt)⟩⟩
  | none =>
   have h0:l.length=0:=by
    by_cases h:0<l.length
    ·obtain ⟨b',off',e,_⟩:=hA5.1.2 h
     cases e
    ·omega
   obtain rfl:l=[]:=abo.1 h0;go_upto_region 9 with fail;refine aK (f:=8) KS [(0,1),(1,1),(2,1),(3,1),(4,1),(5,1),(6,2),(7,0),(8,3),(9,3),(10,3)] ?_;simp only [bf,aap,aar]
   iterate 6 refine ak ?_
   refine ax (v:=?vq2) (hv:=?hq2) ?_;case hq2=>(intro w hSw;(first | refine (af rfl rfl hSw).trans ?_ | refine (af rfl rfl hSw.1).trans ?_ | refine (af rfl rfl hSw.2.1).trans ?_ | refine (af rfl rfl hSw.2.2.1).trans ?_ | refine (af rfl rfl hSw.2).trans ?_ | refine (af rfl rfl hSw.2.2).trans ?_);with_reducible rfl)
   refine au (fun K hK=>?_)
   first | ((refine ji (by rfl) (by rfl) (by rfl) (jP underlying22 yC hYs (by omega) (by omega) _) ?_)) | (go_simp)
   refine aH hK KS ?_;clear hK K;refine aN ?_
   first | simp only [aak] | simp only [aat,aak]
   refine wpList_append_grows (w5.drew.alloc (.cells Y 85)) (by rfl) (.tmp 54) (.tmp 56) 22 (by rfl) 85 i0 Ld 35 72 underlying22 hi hz0 hz1 hz2 rfl (by omega) none ([]:List Lnk).length ([]:List Lnk).length (kP [] vs) (by rfl) (fun _=>⟨rfl,rfl⟩) hlo (fun b h=>by cases h) ⟨w5.heap.size,0,none⟩ 1 1 Y.toList (by rfl) (by rw [Array.length_toList,hYs]) hnews hYo (by omega) (by unfold maxLen;omega) (by omega) ?_;intro v' w' hown hgr;have hb7:Below W.heap.size W w':=gz (bAl (bDr hb5) (.cells Y 85)) hgr (aad _) (by intro r e;cases e);have b6:Below w5.heap.size w5 w':=gz (bAl (bDr (aj w5)) (.cells Y 85)) hgr (aad _) (by intro r e;cases e);go_wp2_with fail;refine NoPanic.normal ?_;go_wp2_with fail;go_ret2;exact ⟨hb7,fun h=>absurd he2.out h,fun _=>⟨v',A4,c4,rfl,by rw [hX,hYd];exact own_base hown (by simp;have:=hb5.size;omega),T5.keep (fun g cs B=>B.below b6 B.lt)⟩⟩
def OfAt (w:World) (B:Nat) (X:Array Value) (o:Ofc):Prop:=∃ A c vs Au cu,X=#[.int .i64 o.no,.int .i64 o.secret,.slice A o.chain.length c,.slice Au o.used.length cu]∧LksAt w B A o.chain vs∧o.chain.length≤c∧(A=none→c=0)∧Rd w B 32 Au o.used.length (o.used.flatMap ag)∧(∀ x∈o.used,dL x)∧(Au=none→o.used.length=0∧cu=0)
def JwAt (w:World) (B:Nat) (J:Array Value) (j:Jw):Prop:=∃ A1 A2 c1 c2 s,J=sQ A1 A2 c1 c2 j.bare j.proofs s j.mix j.hand∧Rd w B 6 A1 j.bare.length (j.bare.flatMap Ltr.cl)∧Rd w B 6 A2 j.proofs.length (j.proofs.flatMap Ltr.cl)∧MixAt w B s j.mix∧j.hand.ok
section
variable {w w':World} {B B':Nat} {X:Array Value} {o:Ofc} {j:Jw}
theorem OfAt.below (h:OfAt w B X o) (b:Below B w w'):OfAt w' B X o:=by obtain ⟨A,c,vs,Au,cu,h1,h2,h3,h4,h5,h6⟩:=h;exact ⟨A,c,vs,Au,cu,h1,h2.below b,h3,h4,h5.below b,h6⟩
theorem OfAt.more (h:OfAt w B X o) (b:B≤B'):OfAt w B' X o:=by obtain ⟨A,c,vs,Au,cu,h1,h2,h3,h4,h5,h6⟩:=h;exact ⟨A,c,vs,Au,cu,h1,h2.more b,h3,h4,h5.more b,h6⟩
theorem JwAt.below (h:JwAt w B X j) (b:Below B w w'):JwAt w' B X j:=by obtain ⟨A1,A2,c1,c2,s,h1,h2,h3,h4,h5⟩:=h;exact ⟨A1,A2,c1,c2,s,h1,h2.below b,h3.below b,h4.below b,h5⟩
theorem JwAt.more (h:JwAt w B X j) (b:B≤B'):JwAt w B' X j:=by obtain ⟨A1,A2,c1,c2,s,h1,h2,h3,h4,h5⟩:=h;exact ⟨A1,A2,c1,c2,s,h1,h2.more b,h3.more b,h4.more b,h5⟩
end
def KeepsW (w w2:World):Prop:=∀ (g:Nat) (T:TypeId) (cs:Array Value),T=63∨T=29∨T=85∨T=5∨T=199→Blk w g T cs→Blk w2 g T cs
theorem KeepsW.refl (w:World):KeepsW w w:=fun _ _ _ _ h=>h
theorem KeepsW.trans {a b c:World} (h:KeepsW a b) (k:KeepsW b c):KeepsW a c:=fun g T cs hT B=>k g T cs hT (h g T cs hT B)
theorem KeepsW.below {a b:World} (h:Below a.heap.size a b):KeepsW a b:=fun _ _ _ _ B=>B.below h B.lt
theorem IY {w w2:World} {base sz n:Nat} {e:TypeId} {v:Value} {xs:List Value} (h:w.ownsRow base e sz v n xs) (hk:∀ g cs,Blk w g e cs→Blk w2 g e cs):w2.ownsRow base e sz v n xs:=by
 refine ⟨h.1,h.2.imp_right ?_⟩;rintro ⟨g,cap,cur,hv,hb,hg,r⟩;exact ⟨g,cap,cur,hv,hb,hk g cur hg,r⟩
def RetWork (o:Ofc) (rest:Int) (h:Hd) (inn:List Ltr) (t:Trn) (w:World) (r:Ending) (w':World):Prop :=
 Below w.heap.size w w'∧(dh o rest h inn t≠0→r = .returned (.tuple #[.agg bK,.agg bC.toArray,.int .i64 (dh o rest h inn t)])) ∧
 (dh o rest h inn t=0→∃ X J,r = .returned (.tuple #[.agg X,.agg J,.int .i64 0])∧∀ w2,KeepsW w' w2→(o.chain=[]∨Below w.heap.size w w2)→OfAt w2 w2.heap.size X (oK o rest h inn t)∧JwAt w2 w2.heap.size J (lh o rest h inn t))
theorem NQ (h:Hd) (v:Int):h.cl.toArray.setIfInBounds 6 (.int .i64 v)=({ h with many:=v } : Hd).cl.toArray:=by
 rw [aaf];rfl
theorem NR {h:Hd} (ho:h.ok) {d:List Nat} (hd:d.length=32):(h.cl.take 7++ag d++h.cl.drop (7+(ag d).length))=({ h with root:=d } : Hd).cl:=by
 have h1:(ag h.root).length=32:=by rw [ai,ho.2.2.2.2.2.2.2.1.1]
 have h2:(ag d).length=32:=by rw [ai,hd]
 rw [h2];unfold Hd.cl;rw [abm (by simp),aaH (by simp)];rw [show (7+32:Nat)=([Value.int .i64 h.line,.int .i64 h.at_,.int .i64 h.arrive,.int .i64 h.leg,.int .i64 h.from_,.int .i64 h.to_,.int .i64 h.many]:List Value).length+(ag h.root).length from by rw [h1];rfl,←aaZ,←aan,List.drop_left];rw [aaZ]
theorem Hd.ok_many {h:Hd} (ho:h.ok) {v:Int} (hv:inI v):({ h with many:=v } : Hd).ok:=by
 obtain ⟨h0,h1,h2,h3,h4,h5,h6,h7,h8,h9,h10⟩:=ho;exact ⟨h0,h1,h2,h3,h4,h5,hv,h7,h8,h9,h10⟩
theorem Hd.ok_root {h:Hd} (ho:h.ok) {d:List Nat} (hd:dL d):({ h with root:=d } : Hd).ok:=by
 obtain ⟨h0,h1,h2,h3,h4,h5,h6,h7,h8,h9,h10⟩:=ho;exact ⟨h0,h1,h2,h3,h4,h5,h6,hd,h8,h9,h10⟩
theorem sU:dL fB:=⟨rfl,fun x hx=>by obtain rfl:=List.eq_of_mem_replicate hx;decide⟩
theorem Lh {l:List Lnk} {vs:List Value} (h:vs.length=l.length) (K:Lnk) (v:Value):kP (l++[K]) (vs++[v])=kP l vs++K.cl v:=by
 unfold kP;rw [List.zip_append h.symm,aaP]
 simp
theorem xB (l:List Ltr):(l.flatMap Ltr.cl).length=l.length*6:=by
 induction l with
 | nil=>rfl
 | cons x l ih=>rw [aaF,aan,ih,aas];show 6+_=_;omega
theorem NS (v0 v1 a0 a1 a2 a3 a4 b0 b1 b2 b3 b4:Value) (h:List Value):((oV v0 v1 a0 a1 a2 a3 a4 h).toArray.toList.take 2++(#[b0,b1,b2,b3,b4]:Array Value).toList++(oV v0 v1 a0 a1 a2 a3 a4 h).toArray.toList.drop (2+(#[b0,b1,b2,b3,b4]:Array Value).size)).toArray=(oV v0 v1 b0 b1 b2 b3 b4 h).toArray:=rfl
theorem Tq (v0 v1 a0 a1 a2 a3 a4:Value) {h k:List Value} (hh:h.length=42) (hk:k.length=42):((oV v0 v1 a0 a1 a2 a3 a4 h).toArray.toList.take 7++k.toArray.toList++(oV v0 v1 a0 a1 a2 a3 a4 h).toArray.toList.drop (7+k.toArray.size)).toArray=(oV v0 v1 a0 a1 a2 a3 a4 k).toArray:=by
 have e1:(oV v0 v1 a0 a1 a2 a3 a4 h).toArray.toList.drop (7+k.toArray.size)=[]:=by
  refine List.drop_of_length_le ?_;rw [aae,hk];show h.length+7≤_;omega
 rw [e1,abe];rfl
def KeptT (N:Nat) (w w':World):Prop:=∀ (k:Nat) (T:TypeId) (cs:Array Value),k<N→Blk w k T cs→T≠25→Blk w' k T cs
theorem KeptT.refl (N:Nat) (w:World):KeptT N w w:=fun _ _ _ _ h _=>h
theorem KeptT.trans {N:Nat} {a b c:World} (h:KeptT N a b) (k:KeptT N b c):KeptT N a c:=fun g T cs hg B hT=>k g T cs hg (h g T cs hg B hT) hT
theorem KeptT.below {N:Nat} {a b:World} (h:Below a.heap.size a b):KeptT N a b:=fun _ _ _ _ B _=>B.below h B.lt
structure MixT (w:World) (s:MS) (m:Mx):Prop where
 t1:RdT w 63 6 s.a1 m.mid.length (m.mid.flatMap Ltr.cl)
 t2:RdT w 63 6 s.a2 m.out.length (m.out.flatMap Ltr.cl)
 t3:RdT w 29 32 s.a3 m.left.length (m.left.flatMap ag)
 t4:RdT w 29 32 s.a4 m.right.length (m.right.flatMap ag)
theorem MixT.keep {w w':World} {s:MS} {m:Mx} (h:MixT w s m) (hk:∀ g T cs,T=63∨T=29→Blk w g T cs→Blk w' g T cs):MixT w' s m :=
 ⟨h.t1.keep fun g cs=>hk g _ cs (.inl rfl),h.t2.keep fun g cs=>hk g _ cs (.inl rfl),h.t3.keep fun g cs=>hk g _ cs (.inr rfl),h.t4.keep fun g cs=>hk g _ cs (.inr rfl)⟩
theorem Blk.farTy {w:World} {g g' i:Nat} {t t':TypeId} {cs cs':Array Value} (h:Blk w g t cs) (h2:Blk w g' t' cs') (hne:t≠t') (u:Value):Blk (w.setCell ⟨g',i,none⟩ u) g t cs:=h.far (p:=⟨g',i,none⟩) (by
 intro e;have e2:g=g':=e;subst e2;unfold Blk at h h2;rw [h] at h2;simp at h2;exact hne h2.2) u
theorem sW {T U:TypeId} (h:T=63∨T=29) (h1:U≠63) (h2:U≠29):T≠U:=fun e=>by
 rcases h with h | h
 ·exact h1 (e▸h)
 ·exact h2 (e▸h)
theorem Tt {P:Program} {o:Oper} {a:Act} {w w':World} {ts:TypeId} {n:Nat} {parts:Array (Nat×Operand)} {vals:Array (Nat×Value)} {v:Value}
  (ho:o.op = .buildSlice ts n parts) (hp:parts.toList.map (fun (i,x)=>(i,a.eval x))=vals.toList) (hr:(Instr.buildSlice ts n vals).run P w = .ok v w'):(execOp a.eval o).run P w = .ok (.value v) w':=by
 have e:(parts.map fun (i,x)=>(i,a.eval x))=vals:=by
  apply Array.toList_inj.1;rw [Array.toList_map];exact hp
 unfold execOp;rw [ho];simp only [Sem.run_bind,e,hr,Result.andThen_ok,Sem.run_pure]
theorem FW {F:Fence} {n:Nat} {P:Program} {ops:Array Oper} {rest:List Oper} {o:Oper} {a:Act} {w w':World} {Q:Exit→Act→World→Prop} {ts:TypeId} {m:Nat} {parts:Array (Nat×Operand)} {vals:Array (Nat×Value)} {v:Value}
  (hgd:Region.wanted o (yielded ops a.tmps)=true) (ho:o.op = .buildSlice ts m parts) (hp:parts.toList.map (fun (i,x)=>(i,a.eval x))=vals.toList) (hr:(Instr.buildSlice ts m vals).run P w = .ok v w') (h:wpListIn F n P ops Q rest (a.put o.dst v) w'):wpListIn F n P ops Q (o::rest) a w :=
 BigFrame.wpListIn_want hgd fun K hK=>by
  refine ⟨fun f hf=>(by unfold Oper.about at hf;rw [ho] at hf;cases hf),?_⟩
  have e:=Tt ho hp hr
  have hs:o.semAt F.round a.eval=execOp a.eval o:=by
   cases F.round with
   | none=>rfl
   | some l=>exact Oper.semAt_some _ _ _ (by rw [ho];intro c h;cases h)
  rw [hs,e]
  exact hK _ _ h
theorem zx {F:Fence} {n:Nat} {P:Program} {ops:Array Oper} {rest:List Oper} {o:Oper} {a:Act} {w:World} {Q:Exit→Act→World→Prop} (hgd:Region.wanted o (yielded ops a.tmps)=true) {ty:TypeId} {x:Operand} (ho:o.op = .load ty x) {q v:Value} (hx:a.eval x=q)
  (hl:(Instr.loadAt ty q).run P w = .ok v w) (h:wpListIn F n P ops Q rest (a.put o.dst v) w):wpListIn F n P ops Q (o::rest) a w :=
 BigFrame.wpListIn_want hgd fun K hK=>by
  refine ⟨fun f hf=>(by unfold Oper.about at hf;rw [ho] at hf;cases hf),?_⟩
  have e:=af ho hx hl
  have hs:o.semAt F.round a.eval=execOp a.eval o:=by
   cases F.round with
   | none=>rfl
   | some l=>exact Oper.semAt_some _ _ _ (by rw [ho];intro c h;cases h)
  rw [hs,e]
  exact hK _ _ h
theorem KeptT.kept {N:Nat} {w W W':World} {row:Option Nat} {B:Nat} (h:KeptT N w W) (hg:W.grownBy W' row) (hr:∀ r,row=some r→B≤r∧∃ o:Obj,W.heap[r]?=some o∧o.isCells=false):KeptT N w W' :=
 fun k T cs hk B' hT=>Blk.kept (h k T cs hk B' hT) hg hr
theorem IZ {W W':World} {base sz n:Nat} {e:TypeId} {v v':Value} {xs:List Value} (hown:W.ownsRow base e sz v n xs) (hg:Grew W W' v v'):KeepsOthers W W' :=
 ⟨hg.size,fun k o hk ho=>by
  have hlt:=(aaI.1 hk).1
  by_cases hb:some k=v.ownBlock
  ·exfalso
   rcases hown.2 with ⟨hv,_⟩ | ⟨g,cap,cur,hv,_,hh,_⟩
   ·rw [hv] at hb;cases hb
   ·rw [hv] at hb
    injection hb with hb
    have hb2:k=g:=hb
    subst hb2
    rw [hh] at hk
    injection hk with hk
    rw [←hk] at ho
    cases ho
  ·exact (hg.other hlt hb).trans hk⟩
theorem I4 {K:Nat→Prop} {W W':World} {v v':Value} (hg:Grew W W' v v') (hK:∀ g,K g→some g≠v.ownBlock):KeepsC K W W' :=
 ⟨hg.size,fun k _ _ _ hk hc=>hg.other (aaI.1 hc).1 (hK k hk)⟩
theorem PS {w:World} {base sz n g:Nat} {e t:TypeId} {v:Value} {xs:List Value} {cs:Array Value} (h:w.ownsRow base e sz v n xs) (B:Blk w g t cs) (hne:t≠e):some g≠v.ownBlock:=by
 intro hb;rcases h.2 with ⟨hv,_⟩ | ⟨g',cap,cur,hv,_,hh,_⟩
 ·rw [hv] at hb;cases hb
 ·rw [hv] at hb
  injection hb with hb
  have hb2:g=g':=hb;subst hb2;unfold Blk at B;rw [B] at hh;simp at hh;exact hne hh.2
theorem EE {w:World} {base sz n g:Nat} {e:TypeId} {v:Value} {xs:List Value} (h:w.ownsRow base e sz v n xs) (hg:g<base):some g≠v.ownBlock:=by
 intro hb;rcases h.2 with ⟨hv,_⟩ | ⟨g',cap,cur,hv,hb',_⟩
 ·rw [hv] at hb;cases hb
 ·rw [hv] at hb
  injection hb with hb
  have hb2:g=g':=hb;omega
theorem Lj {w:World} {base sz n g:Nat} {e:TypeId} {v:Value} {xs:List Value} (h:w.ownsRow base e sz v n xs) (hg:w.heap.size≤g):some g≠v.ownBlock:=by
 intro hb;rcases h.2 with ⟨hv,_⟩ | ⟨g',cap,cur,hv,_,hh,_⟩
 ·rw [hv] at hb;cases hb
 ·rw [hv] at hb
  injection hb with hb
  have hb2:g=g':=hb
  have:=(aaI.1 hh).1
  omega
theorem KeptT.grew {N sz n:Nat} {e:TypeId} {w W W':World} {v v':Value} {xs:List Value} (h:KeptT N w W) (hown:W.ownsRow N e sz v n xs) (hg:Grew W W' v v'):KeptT N w W':=fun k T cs hk B hT =>
 (hg.other (h k T cs hk B hT).lt (EE hown hk)).trans (h k T cs hk B hT)
theorem KeptT.setO {N g i:Nat} {w W:World} {cs:Array Value} (h:KeptT N w W) (BX:Blk W g 25 cs) (u:Value):KeptT N w (W.setCell ⟨g,i,none⟩ u):=fun k T cs' hk B hT=>(h k T cs' hk B hT).farTy BX hT u
theorem oM (u:List (List Nat)) (d:List Nat) (l:List (List Nat)):iL u (d::l)=if d∈u then none else iL (vH d u) l:=rfl
theorem vF:∀ {a b u:List (List Nat)},iL u (a++b)=(iL u a).bind (fun v=>iL v b)
 | [],b,u=>rfl
 | d::a,b,u=>by
  rw [aaN,oM,oM]
  split
  ·rfl
  ·exact vF
theorem I5 {u v:List (List Nat)} {pre inn:List Ltr} {x:Ltr} (h:iL u (pre.map kD)=some v) (hp:pre++[x] <+: inn) (hx:kD x∈v):iL u (inn.map kD)=none:=by
 obtain ⟨r,hr⟩:=hp;rw [←hr,aaT,aaT,aaZ,vF,h];show iL v (kD x::_)=none;rw [oM,if_pos hx]
theorem I7 {u v:List (List Nat)} {pre:List Ltr} {x:Ltr} (h:iL u (pre.map kD)=some v) (hx:kD x ∉ v):iL u ((pre++[x]).map kD)=some (vH (kD x) v):=by
 rw [aaT,vF,h];show iL v [kD x]=_;rw [oM,if_neg hx];rfl
theorem Ll {h:Hd} (hf:h.open_.formed=true) {out:List Ltr} (hl:out.length≤64):(h.for_ out).formed=true:=by
 unfold Hd.formed at hf ⊢;simp only [aal,decide_eq_true_eq] at hf ⊢;obtain ⟨⟨h1,h2,h3⟩,⟨h4,h5,h6⟩,h7,h8,h9⟩:=hf;refine ⟨⟨h1,h2,h3⟩,⟨h4,h5,h6⟩,h7,h8,?_⟩;show 0≤(out.length:Int)∧(out.length:Int)≤64;omega
theorem Tu {o:Ofc} (hg:o.good=true) {d:List Nat} (hd:d.length≤65536):IX o.chain o.no d=if o.chain.length<1024 then 0 else 2:=by
 unfold Ofc.good at hg;simp only [aal,decide_eq_true_eq,aau] at hg;obtain ⟨⟨hno,_⟩,⟨hch,hall⟩,_⟩:=hg
 have hl:o.chain.length≤1024:=by
  unfold chainE at hch
  split at hch
  ·cases hch
  ·omega
 have hf:0<o.chain.length→o.no=(o.chain.getD 0 uZ).node:=fun h0=>by
  rw [aS (aac h0)];exact (hall _ (List.getElem_mem _)).symm
 unfold IX;rw [if_pos hch,if_pos ⟨hno,hf,hd⟩];by_cases h:o.chain.length<1024
 ·rw [if_pos h,if_neg (by omega)]
 ·rw [if_neg h,if_pos (by omega)]
def WC (S:Hd):List Nd:=[.int S.line,.int S.at_,.int S.arrive,.int S.leg,.int S.from_,.int S.to_,.int S.many,.dig S.root,.int S.time]
theorem Vl {S:Hd} (h:S.ok):∀ x∈WC S,x.ok:=by
 obtain ⟨h0,h1,h2,h3,h4,h5,h6,h7,h8,_⟩:=h;intro x hx;simp only [WC,aaq,aaw,or_false] at hx;rcases hx with rfl | rfl | rfl | rfl | rfl | rfl | rfl | rfl | rfl
 ·exact h0
 ·exact h1
 ·exact h2
 ·exact h3
 ·exact h4
 ·exact h5
 ·exact h6
 ·exact h7
 ·exact h8
theorem NT {w:World} {base sz n c:Nat} {e:TypeId} {A:Option Addr} {xs:List Value} (h:w.ownsRow base e sz (.slice A n c) n xs):n≤c∧(A=none→n=0∧c=0):=by
 rcases h.2 with ⟨hv,h0⟩ | ⟨g,cap,cur,hv,_,_,hn,_⟩
 ·injection hv with h1 h2 h3
  subst h1;subst h3;exact ⟨by omega,fun _=>⟨h0,rfl⟩⟩
 ·injection hv with h1 h2 h3
  subst h1;subst h3;exact ⟨hn,fun h=>by cases h⟩
theorem OfAt.of_rows {w:World} {o o':Ofc} {vs:List Value} {A0:Option Addr} {K:Lnk} {Ax Ae Av:Option Addr} {cx ce cv b1 b2:Nat} (hA2:LksAt w w.heap.size A0 o.chain vs) (hc:o'.chain=o.chain++[K]) (hK:K.ok)
  (own1:w.ownsRow b1 85 35 (.slice Ax (o.chain.length+1) cx) (o.chain.length+1) (kP o.chain vs++K.cl (.slice Ae K.data.length ce))) (hD:RdT w 5 1 Ae K.data.length (ag K.data))
  (own2:w.ownsRow b2 29 32 (.slice Av o'.used.length cv) o'.used.length (o'.used.flatMap ag)) (hu:∀ y∈o'.used,dL y) :
  OfAt w w.heap.size #[.int .i64 o'.no,.int .i64 o'.secret,.slice Ax (o.chain.length+1) cx,.slice Av o'.used.length cv] o':=by
 have hl:o'.chain.length=o.chain.length+1:=by rw [hc,aan,List.length_singleton]
 obtain ⟨c1,c2⟩:=NT own1;obtain ⟨c3,c4⟩:=NT own2;refine ⟨Ax,cx,vs++[.slice Ae K.data.length ce],Av,cv,by rw [hl],⟨?_,?_,?_,?_⟩,by rw [hl];exact c1,fun h=>absurd (c2 h).1 (by omega),(RdT.of_own own2).rd,hu,c4⟩
 ·rw [hl,hc,Lh hA2.2.1]
  exact (RdT.of_own own1).rd
 ·rw [hl,aan,hA2.2.1];rfl
 ·intro k x hx
  rw [hc] at hx;rcases aa0 k o.chain.length with h | h
  ·rw [aaO h] at hx
   obtain ⟨Ad,cd,e,r⟩:=hA2.2.2.1 k x hx;exact ⟨Ad,cd,by rw [aaO (by rw [hA2.2.1];exact h)];exact e,r⟩
  ·rw [aaz h] at hx
   have hk:k - o.chain.length=0:=by
    have:=(aag.1 hx).1
    simp at this;omega
   rw [hk] at hx;injection hx with hx
   subst hx;exact ⟨Ae,ce,by rw [aaz (by rw [hA2.2.1];exact h),hA2.2.1,hk];rfl,hD.rd⟩
 ·intro x hx
  rw [hc] at hx;rcases aaL.1 hx with hx | hx
  ·exact hA2.2.2.2 x hx
  ·obtain rfl:x=K:=by simpa using hx
   exact hK
theorem Tv (l:List Lnk):dL (fV l):=by
 unfold fV;cases l.getLast? with
 | none=>exact ⟨dZ _ _,kE _⟩
 | some x=>exact ⟨dZ _ _,kE _⟩
theorem Tz {w:World} {g:Nat} {T:TypeId} {v:Value} (h:Blk w g T #[v]):w.setCell ⟨g,0,none⟩ v=w:=by
 rw [setCell_eq_setRow w g 0 #[v] T (0,0) v h];exact setRow_self w g _ T (0,0) h
theorem FX {x:Ltr} (h:x.good=true):x.ok:=by
 have hv:∀ {n:Int},aA n=true→inI n:=fun h=>by
  obtain ⟨h1,h2,_⟩:=(lH _).1 h;unfold inI;omega
 obtain ⟨a0,b0⟩:=kG h 0;obtain ⟨a1,b1⟩:=kG h 1;obtain ⟨a2,b2⟩:=kG h 2;exact ⟨⟨hv a0,hv b0⟩,⟨hv a1,hv b1⟩,hv a2,hv b2⟩
theorem results3 {P:Program} {fn:Func} {p q u:Tmp} {ty ty2 ty3:TypeId} (h:fn.results=#[.cell p ty,.cell q ty2,.cell u ty3]) (tmps:Array Value) (w:World) (g1 g2 g3:Nat) (t1 t2:TypeId) (c1 c2:Array Value) (v:Value) (d1 d2:TypeDesc)
  (hp:tmps.getD p undef = .pointer (some ⟨g1,0,none⟩)) (hq:tmps.getD q undef = .pointer (some ⟨g2,0,none⟩)) (hu:tmps.getD u undef = .pointer (some ⟨g3,0,none⟩))
  (B1:Blk w g1 t1 c1) (B2:Blk w g2 t2 c2)
  (u1:P.underlying ty=some d1) (k1:(match d1 with | .struct _ | .array _ _=>true | _=>false)=true) (i1:(P.info? ty).map (·.size)=some c1.size)
  (u2:P.underlying ty2=some d2) (k2:(match d2 with | .struct _ | .array _ _=>true | _=>false)=true) (i2:(P.info? ty2).map (·.size)=some c2.size)
  (h3:(loadVar ty3 ⟨g3,0,none⟩).run P w = .ok v w) :
  (results fn tmps).run P w = .ok (.tuple #[.agg c1,.agg c2,v]) w:=by
 have hp':tmps[p]?.getD undef = .pointer (some ⟨g1,0,none⟩):=by simpa using hp
 have hq':tmps[q]?.getD undef = .pointer (some ⟨g2,0,none⟩):=by simpa using hq
 have hu':tmps[u]?.getD undef = .pointer (some ⟨g3,0,none⟩):=by simpa using hu
 simp [results,h,hp',hq',hu',asAddr,run_loadVar_row w g1 t1 ty c1 (0,0) d1 B1 u1 k1 i1,run_loadVar_row w g2 t2 ty2 c2 (0,0) d2 B2 u2 k2 i2,h3]
theorem EF {w:World} {g:Nat} {e:Int} (h:Blk w g 42 #[.int .i64 e]):(loadVar 42 ⟨g,0,none⟩).run prog w = .ok (.int .i64 e) w:=by
 have c0:w.cell? ⟨g,0,none⟩=some (.int .i64 e):=h.cell 0;simp [loadVar,go_sem,c0]
def NU (xb jb eb:Nat):List Deferred:=[{ target := .fn (.func 50) #[],args:=#[.pointer (some ⟨eb,0,none⟩)] },{ target := .fn (.func 49) #[.pointer (some ⟨eb,0,none⟩),.pointer (some ⟨xb,0,none⟩),.pointer (some ⟨jb,0,none⟩)],args:=#[] }]
theorem lq {P:Program} {fn:Func} {tmps:Array Value} {R:Ending→World→Prop} {fv:Fn} {cap dargs:Array Value} {ds:List Deferred} {u:FrameMode} {w:World} {f:FuncId} {args:Array Value} (hu:u ≠ .run)
  (hi:(invoke (.fn fv cap) dargs).run P w = .ok (.enter f args) w)
  (h:CallsD P f args u w fun
    | .returned _,u',w'=>gV P fn tmps R ds (settle u') w'
    | .panicked chain,u',w'=>gV P fn tmps R ds (raised u' chain) w'
    | .outgrown,_,w'=>R .outgrown w') :
  gV P fn tmps R ({ target := .fn fv cap,args:=dargs }::ds) u w:=⟨hu,.inr ⟨fv,cap,f,args,rfl,hi,h⟩⟩
section
variable {tmps:Array Value} {R:Ending→World→Prop} {xb jb eb:Nat} {X J:Array Value} (h10:tmps.getD 10 undef = .pointer (some ⟨xb,0,none⟩)) (h11:tmps.getD 11 undef = .pointer (some ⟨jb,0,none⟩)) (h12:tmps.getD 12 undef = .pointer (some ⟨eb,0,none⟩)) (hX:X.size=4) (hJ:J.size=49)
include h10 h11 h12 hX hJ
theorem EG {e:Int} (he:e≠0) {w:World} (BX:Blk w xb 25 X) (BJ:Blk w jb 49 J) (BE:Blk w eb 42 #[.int .i64 e])
  (hR:R (.returned (.tuple #[.agg bK,.agg bC.toArray,.int .i64 e])) ((w.setRow xb bK).setRow jb bC.toArray)) :
  gV prog Tryz.f13 tmps R [{ target := .fn (.func 49) #[.pointer (some ⟨eb,0,none⟩),.pointer (some ⟨xb,0,none⟩),.pointer (some ⟨jb,0,none⟩)],args:=#[] }] .returning w:=by
 refine lq (f:=49) (args:=#[.pointer (some ⟨eb,0,none⟩),.pointer (some ⟨xb,0,none⟩),.pointer (some ⟨jb,0,none⟩)]) (by simp) (by simp [go_sem]) ?_;refine (Wu eb xb jb e he X J hX hJ .returning w BE BX BJ).mono ?_;rintro r u' w' ⟨rfl,rfl,rfl⟩;have BJ1:=BJ.farRowT BX (by decide) bK;have BE1:=(BE.farRowT BX (by decide) bK).farRowT BJ1 (by decide) bC.toArray;have BX1:=(BX.row bK).farRowT BJ1 (by decide) bC.toArray;exact ⟨_,results3 rfl _ _ xb jb eb 25 49 _ _ _ _ _ h10 h11 h12 BX1 (BJ1.row _) underlying25 rfl iM underlying49 rfl (by rw [dW];exact eG) (EF BE1),hR⟩
theorem Lm {e old:Int} (he:e≠0) {w:World} (BX:Blk w xb 25 X) (BJ:Blk w jb 49 J) (BE:Blk w eb 42 #[.int .i64 old])
  (hR:R (.returned (.tuple #[.agg bK,.agg bC.toArray,.int .i64 e])) (((w.setCell ⟨eb,0,none⟩ (.int .i64 e)).setRow xb bK).setRow jb bC.toArray)) :
  gV prog Tryz.f13 tmps R (NU xb jb eb) (.panicking [{ v := .iface 42 (.int .i64 e),recovered:=false }]) w:=by
 refine lq (f:=50) (args:=#[.pointer (some ⟨eb,0,none⟩)]) (by simp) (by simp [go_sem]) ?_;refine (wV ⟨eb,0,none⟩ e old [] w (BE.cell 0) (BE.frozen 0)).mono ?_;rintro r u' w' ⟨rfl,rfl,rfl⟩;have ne1:xb≠eb:=fun h=>by subst h;unfold Blk at BX BE;rw [BX] at BE;simp at BE
 have ne2:jb≠eb:=fun h=>by subst h;unfold Blk at BJ BE;rw [BJ] at BE;simp at BE
 exact EG h10 h11 h12 hX hJ he (BX.far (p:=⟨eb,0,none⟩) ne1 _) (BJ.far (p:=⟨eb,0,none⟩) ne2 _) (BE.set_ 0 _) hR
theorem PT {w:World} (BX:Blk w xb 25 X) (BJ:Blk w jb 49 J) (BE:Blk w eb 42 #[.int .i64 0])
  (hR:R (.returned (.tuple #[.agg X,.agg J,.int .i64 0])) w):gV prog Tryz.f13 tmps R (NU xb jb eb) .returning w:=by
 refine lq (f:=50) (args:=#[.pointer (some ⟨eb,0,none⟩)]) (by simp) (by simp [go_sem]) ?_;refine (sG ⟨eb,0,none⟩ w).mono ?_;rintro r u' w' ⟨rfl,rfl,hw⟩;rw [hw];clear hw;refine lq (f:=49) (args:=#[.pointer (some ⟨eb,0,none⟩),.pointer (some ⟨xb,0,none⟩),.pointer (some ⟨jb,0,none⟩)]) (by simp [settle]) (by simp [go_sem]) ?_;refine (Xn eb xb jb (settle .returning) w BE).mono ?_;rintro r u' w' ⟨rfl,rfl,hw⟩;rw [hw];clear hw;exact ⟨_,results3 rfl _ _ xb jb eb 25 49 _ _ _ _ _ h10 h11 h12 BX BJ underlying25 rfl (by rw [hX];exact iM) underlying49 rfl (by rw [hJ];exact eG) (EF BE),hR⟩
theorem Lp {e:Int} (he:e≠0) {w:World} (BX:Blk w xb 25 X) (BJ:Blk w jb 49 J) (BE:Blk w eb 42 #[.int .i64 e])
  (hR:R (.returned (.tuple #[.agg bK,.agg bC.toArray,.int .i64 e])) ((w.setRow xb bK).setRow jb bC.toArray)):gV prog Tryz.f13 tmps R (NU xb jb eb) .returning w:=by
 refine lq (f:=50) (args:=#[.pointer (some ⟨eb,0,none⟩)]) (by simp) (by simp [go_sem]) ?_;refine (sG ⟨eb,0,none⟩ w).mono ?_;rintro r u' w' ⟨rfl,rfl,hw⟩;rw [hw];clear hw;exact EG h10 h11 h12 hX hJ he BX BJ BE hR
end
def eqL (l r:List Ltr):Bool:=decide (l.length=r.length)&&(List.range l.length).all (fun j=>(l.getD j aB).eqB (r.getD j aB))
theorem TB (A B:Option Addr) (c d:Nat) (l r:List Ltr) (W:World) (hA:Rd W W.heap.size 6 A l.length (l.flatMap Ltr.cl)) (hB:Rd W W.heap.size 6 B r.length (r.flatMap Ltr.cl)) (hn:l.length≤1000000) :
  Calls prog 86 #[.slice A l.length c,.slice B r.length d] W (Ret (.bool (eqL l r)) W):=by
 obtain ⟨v,hv⟩:∃ v,Hid (v=eqL l r):=⟨_,aab rfl⟩
 rw [←hv.out];go_enter func86,ntmps86;cases e0:((l.length:Int) != (r.length:Int))
 rotate_left 1
 ·have hv2:Hid (v=false):=by
   show _=_;rw [hv.out];unfold eqL;rw [decide_eq_false (fun h=>by rw [h] at e0;simp at e0)];rfl
  go_wp2_with fail;go_ret;exact ⟨aI hv2.out.symm,aj W⟩
 have hlr:Hid (l.length=r.length):=aab (by have h9:(l.length:Int)=(r.length:Int):=(by simpa using e0);omega);go_upto_region 3 with fail;go_wp2_with fail;go_loopw [13] (fun i wr=>∃ k:Nat,k≤l.length∧i = .int .i64 k∧Below W.heap.size W wr∧Hid (∀ j,j<k→(l.getD j aB).eqB (r.getD j aB)=true)) (fun i _=>l.length - (intOf i).toNat)
 case atStart=>exact ⟨0,aao _,rfl,aj W,aab (fun j h=>by omega)⟩
 case round =>
  obtain ⟨k,hkn,rfl,hb,hF⟩:=hrel;by_cases hlt:k<l.length
  ·obtain ⟨x,hx⟩:∃ x,Hid (l[k]?=some x):=⟨_,aab (aac hlt)⟩
   obtain ⟨y,hy⟩:∃ y,Hid (r[k]?=some y):=⟨_,aab (aac (by have:=hlr.out;omega))⟩
   obtain ⟨b1,o1,rfl,l1,c0,c1,c2,c3,c4,c5⟩:=jS (hA.below hb) hlt hx.out;obtain ⟨b2,o2,rfl,l2,t0,t1,t2,t3,t4,t5⟩:=jS (hB.below hb) (by have:=hlr.out;omega) hy.out;have hbz:=hb.size;have i0:(0:Int)≤(k:Int):=(by omega);have i1:(k:Int)<(l.length:Int):=(by omega);have i2:(k:Int)<(r.length:Int):=by have:=hlr.out;omega
   have KS:Hid (∀ w',Below wr.heap.size wr w'→((w'.cell? ⟨b1,o1+k*6,none⟩=some (.int .i64 x.a0)∧w'.cell? ⟨b1,o1+k*6+1,none⟩=some (.int .i64 x.b0)∧w'.cell? ⟨b1,o1+k*6+2,none⟩=some (.int .i64 x.a1)∧w'.cell? ⟨b1,o1+k*6+3,none⟩=some (.int .i64 x.b1)∧w'.cell? ⟨b1,o1+k*6+4,none⟩=some (.int .i64 x.a2)∧w'.cell? ⟨b1,o1+k*6+5,none⟩=some (.int .i64 x.b2)) ∧
     (w'.cell? ⟨b2,o2+k*6,none⟩=some (.int .i64 y.a0)∧w'.cell? ⟨b2,o2+k*6+1,none⟩=some (.int .i64 y.b0)∧w'.cell? ⟨b2,o2+k*6+2,none⟩=some (.int .i64 y.a1)∧w'.cell? ⟨b2,o2+k*6+3,none⟩=some (.int .i64 y.b1)∧w'.cell? ⟨b2,o2+k*6+4,none⟩=some (.int .i64 y.a2)∧w'.cell? ⟨b2,o2+k*6+5,none⟩=some (.int .i64 y.b2)))) :=
    aab (fun w' h=>by
     have k1:∀ j,w'.cell? ⟨b1,j,none⟩=wr.cell? ⟨b1,j,none⟩:=fun j=>h.cell (p:=⟨b1,j,none⟩) (by show b1<_;omega);have k2:∀ j,w'.cell? ⟨b2,j,none⟩=wr.cell? ⟨b2,j,none⟩:=fun j=>h.cell (p:=⟨b2,j,none⟩) (by show b2<_;omega);exact ⟨⟨(k1 _).trans c0,(k1 _).trans c1,(k1 _).trans c2,(k1 _).trans c3,(k1 _).trans c4,(k1 _).trans c5⟩,(k2 _).trans t0,(k2 _).trans t1,(k2 _).trans t2,(k2 _).trans t3,(k2 _).trans t4,(k2 _).trans t5⟩)
   have hq:=EX x y;unfold Ltr.agg at hq;have hxy:Hid ((l.getD k aB).eqB (r.getD k aB)=x.eqB y):=aab (by rw [aS hx.out,aS hy.out]);generalize x.eqB y=bz at *;clear c0 c1 c2 c3 c4 c5 t0 t1 t2 t3 t4 t5;go_upto_region 6 with fail;refine aK (f:=8) KS [(0,1),(1,1),(2,1),(3,2),(4,1),(5,1),(6,1),(7,2),(8,3)] ?_;simp only [bf,aap,aar]
   iterate 3 refine ak ?_
   refine ax ?_
   iterate 3 refine ak ?_
   refine ax ?_;refine aN ?_
   first | simp only [aak] | simp only [aat,aak]
   cases bz with
   | false =>
    have hv2:Hid (v=false):=by
     show _=_;rw [hv.out];unfold eqL;rw [abt];exact .inr (abn.2 ⟨k,aaE.2 hlt,by rw [hxy.out];simp⟩)
    go_wp2_with fail;refine NoPanic.normal ?_;go_wp2_with fail;go_ret;exact ⟨aI hv2.out.symm,bDr hb⟩
   | true =>
    have hF2:Hid (∀ j,j<k+1→(l.getD j aB).eqB (r.getD j aB)=true):=aab (fun j hj=>by
     rcases aa0 j k with h | h
     ·exact hF.out j h
     ·obtain rfl:j=k:=by omega
      exact hxy.out)
    go_wp2_with fail;refine NoPanic.normal ?_;go_wp2_with fail;exact ⟨⟨k+1,by omega,by go_num,bDr hb,hF2⟩,by simp [intOf];omega⟩
  ·have hv2:Hid (v=true):=by
    show _=_;rw [hv.out];unfold eqL;rw [decide_eq_true hlr.out,aaM,aau];intro j hj;exact hF.out j (by have:=aaE.1 hj;omega)
   go_wp2_with fail;go_ret;exact ⟨aI hv2.out.symm,hb⟩
theorem Vm (l r:List Ltr):eqL l r=decide (l=r):=by
 unfold eqL;rw [abb,aal,decide_eq_true_eq,decide_eq_true_eq,aau];constructor
 ·rintro ⟨h1,h2⟩
  refine List.ext_getElem h1 fun i hi hj=>?_
  have:=Ltr.eqB_iff.1 (h2 i (aaE.2 hi))
  rwa [aS (aac hi),aS (aac hj)] at this
 ·rintro rfl
  exact ⟨rfl,fun i _=>Ltr.eqB_iff.2 rfl⟩
theorem Vo (kb ib jb:Nat) (key:Int) (A A1 A2:Option Addr) (c c1 c2:Nat) (inn bare proofs:List Ltr) (s:MS) (m:Mx) (h:Hd) (W:World) (BK:Blk W kb 3 #[.int .i64 key]) (BI:Blk W ib 34 #[.slice A inn.length c])
  (BJ:Blk W jb 49 (sQ A1 A2 c1 c2 bare proofs s m h)) (hA:Rd W W.heap.size 6 A inn.length (inn.flatMap Ltr.cl)) (h1:Rd W W.heap.size 6 A1 bare.length (bare.flatMap Ltr.cl)) (h2:Rd W W.heap.size 6 A2 proofs.length (proofs.flatMap Ltr.cl))
  (hn:inn.length≤1000000∧bare.length≤1000000∧proofs.length≤1000000) (hG:ShaG W) :
  Calls prog 83 #[.pointer (some ⟨kb,0,none⟩),.pointer (some ⟨ib,0,none⟩),.pointer (some ⟨jb,0,none⟩)] W (Ret (.bool (df key inn bare proofs)) W):=by
 have k0:=BK.cell 0;have i0:=BI.cell 0;have j0:W.cell? ⟨jb,0,none⟩=some (.slice A1 bare.length c1):=BJ.cell 0;have j1:W.cell? ⟨jb,1,none⟩=some (.slice A2 proofs.length c2):=BJ.cell 1;have q:=zF key A A1 A2 inn.length bare.length proofs.length c c1 c2 inn bare proofs W hA h1 h2 (by omega) (by omega) (by omega) hG;generalize df key inn bare proofs=V at *;go_enter func83,ntmps83;go_wp2_with fail;refine q.mono ?_;rintro e w2 ⟨rfl,b2⟩;go_wp2_with fail;go_ret;exact ⟨rfl,b2⟩
theorem WF (jb rb bb lb:Nat) (rest:Int) (A C A1 A2:Option Addr) (c d c1 c2:Nat) (bits:List Int) (l:List Opn) (bare proofs:List Ltr) (s:MS) (m:Mx) (h:Hd) (W:World) (BR:Blk W rb 3 #[.int .i64 rest]) (BB:Blk W bb 35 #[.slice A bits.length c])
  (BL:Blk W lb 56 #[.slice C l.length d]) (BJ:Blk W jb 49 (sQ A1 A2 c1 c2 bare proofs s m h)) (h1:Rd W W.heap.size 6 A1 bare.length (bare.flatMap Ltr.cl)) (hM:MixAt W W.heap.size s m)
  (hA:Rd W W.heap.size 1 A bits.length (ints bits)) (hC:Rd W W.heap.size 36 C l.length (l.flatMap Opn.cl)) (hok:∀ o∈l,o.ok)
  (hn:m.inn.length≤1000000∧m.mid.length≤1000000∧m.out.length≤1000000∧m.left.length≤1000000∧m.right.length≤1000000∧bits.length≤1000000∧l.length≤1000000) (hG:ShaG W) :
  Calls prog 85 #[.pointer (some ⟨jb,0,none⟩),.pointer (some ⟨rb,0,none⟩),.pointer (some ⟨bb,0,none⟩),.pointer (some ⟨lb,0,none⟩)] W (Ret (.bool (eqL m.inn bare&&kz rest m bits l)) W):=by
 have j0:W.cell? ⟨jb,0,none⟩=some (.slice A1 bare.length c1):=BJ.cell 0;have j2:W.cell? ⟨jb,2,none⟩=some (.slice s.a0 m.inn.length s.c0):=BJ.cell 2;have q:=TB s.a0 A1 s.c0 c1 m.inn bare W hM.r0 h1 hn.1;have q2:=fun w (b:Below W.heap.size W w)=>RI rest s m A c bits C d l w ((hM.below b).more b.size) ((hA.below b).more b.size) ((hC.below b).more b.size) hok hn (hG.below b);replace q2:=aab q2;have hMz:Hid (s.cl m=#[.slice s.a0 m.inn.length s.c0,.slice s.a1 m.mid.length s.c1,.slice s.a2 m.out.length s.c2,.slice s.a3 m.left.length s.c3,.slice s.a4 m.right.length s.c4]):=aab rfl;generalize kz rest m bits l=V at *;cases hE:eqL m.inn bare with
 | false =>
  rw [hE] at q;clear hE q2;go_enter func85,ntmps85;go_wp2_with fail;refine q.mono ?_;rintro e w2 ⟨rfl,b2⟩;go_wp2_with fail;go_ret;exact ⟨rfl,b2⟩
 | true =>
  rw [hE] at q;clear hE;go_enter func85,ntmps85;go_wp2_with fail;refine q.mono ?_;rintro e w2 ⟨rfl,b2⟩;have BJ2:=BJ.below b2 BJ.lt;have r0:=(BR.below b2 BR.lt).cell 0;have b0:=(BB.below b2 BB.lt).cell 0;have l0:=(BL.below b2 BL.lt).cell 0;have e2:w2.cell? ⟨jb,2,none⟩=some (.slice s.a0 m.inn.length s.c0):=BJ2.cell 2;have e3:w2.cell? ⟨jb,3,none⟩=some (.slice s.a1 m.mid.length s.c1):=BJ2.cell 3;have e4:w2.cell? ⟨jb,4,none⟩=some (.slice s.a2 m.out.length s.c2):=BJ2.cell 4;have e5:w2.cell? ⟨jb,5,none⟩=some (.slice s.a3 m.left.length s.c3):=BJ2.cell 5;have e6:w2.cell? ⟨jb,6,none⟩=some (.slice s.a4 m.right.length s.c4):=BJ2.cell 6;have q3:=q2.out w2 b2;rw [hMz.out] at q3;clear q q2 j0 j2;go_wp2_with fail;refine q3.mono ?_;rintro e w3 ⟨rfl,b3⟩;go_wp2_with fail;go_ret;exact ⟨rfl,ah b2 b3⟩
def NV (key:Int) (h:Hd) (out:List Ltr):Bool:=h.signed key&&(decide (h.many=(out.length:Int))&&decide (h.root=kN out))
theorem Vp (kb jb:Nat) (key:Int) (ik:inI key) (A1 A2:Option Addr) (c1 c2:Nat) (bare proofs:List Ltr) (s:MS) (m:Mx) (h:Hd) (ho:h.ok) (W:World) (BK:Blk W kb 3 #[.int .i64 key]) (BJ:Blk W jb 49 (sQ A1 A2 c1 c2 bare proofs s m h))
  (hM:Rd W W.heap.size 6 s.a2 m.out.length (m.out.flatMap Ltr.cl)) (hok:∀ x∈m.out,x.ok) (hn:m.out.length≤1000) (hG:ShaG W) :
  Calls prog 88 #[.pointer (some ⟨kb,0,none⟩),.pointer (some ⟨jb,0,none⟩)] W (Ret (.bool (NV key h m.out)) W):=by
 have hcl:Hid (h.cl.length=42):=aab (Hd.cl_length ho);have hro:=ho.2.2.2.2.2.2.2.1;have hq:=fun w=>UH h.root (kN m.out) hro.1 (wO _).1 w;have q1:Hid (∀ w',Below W.heap.size W w'→Calls prog 34 #[.int .i64 key,.agg h.cl.toArray] w' (Ret (.bool (h.signed key)) w')):=aab (fun w' b=>SG key h ho ik w' (hG.below b));have q2:Hid (∀ w',Below W.heap.size W w'→Calls prog 25 #[.slice s.a2 m.out.length s.c2] w' (Ret (dig (kN m.out)) w')):=aab (fun w' b=>NE s.a2 s.c2 m.out hok w' ((hM.below b).more b.size) hn (hG.below b));have hHB:Hid (NV key h m.out=(h.signed key&&(decide (h.many=(m.out.length:Int))&&decide (h.root=kN m.out)))):=aab rfl
 have hJ:∀ w',Below W.heap.size W w'→∀ j u,h.cl[j]?=some u→w'.cell? ⟨jb,7+j,none⟩=some u:=fun w' b j u hu=>by
  rw [(BJ.below b BJ.lt).cell];unfold sQ;rw [FP];exact hu
 have hc:=Hd.cells ho
 have KS:Hid (∀ w',Below W.heap.size W w'→((Instr.loadAt 33 (.pointer (some ⟨jb,7,none⟩))).run prog w' = .ok (.agg h.cl.toArray) w'∧(Instr.loadAt 29 (.pointer (some ⟨jb,14,none⟩))).run prog w' = .ok (.agg (ag h.root).toArray) w' ∧
   w'.cell? ⟨kb,0,none⟩=some (.int .i64 key)∧w'.cell? ⟨jb,13,none⟩=some (.int .i64 h.many)∧w'.cell? ⟨jb,4,none⟩=some (.slice s.a2 m.out.length s.c2))):=aab (fun w' b =>
  ⟨run_loadAt_mid (P:=prog) w' jb 7 33 h.cl _ (fun j u hu=>hJ w' b j u hu) underlying33 rfl (by rw [hcl.out];exact cO),
   fF (fun j u hu=>by
    have hj:j<32:=by have:=(aag.1 hu).1;rw [ai,hro.1] at this;exact this
    have:=hJ w' b (7+j) u (by rw [hc.2.2.2.2.2.2.2.1 j hj];exact hu)
    rwa [←aay] at this) hro.1,
   (BK.below b BK.lt).cell 0,hJ w' b 6 _ hc.2.2.2.2.2.2.1,(BJ.below b BJ.lt).cell 4⟩)
 clear hJ hc;unfold dig at q2;generalize h.cl.toArray=H at *;generalize h.many=M at *;generalize (ag h.root).toArray=R at *;generalize (ag (kN m.out)).toArray=R2 at *;obtain ⟨D,hD⟩:∃ D,decide (h.root=kN m.out)=D:=⟨_,rfl⟩
 rw [hD] at hq hHB;clear hD;obtain ⟨V,hV⟩:∃ V,NV key h m.out=V:=⟨_,rfl⟩
 rw [hV] at hHB ⊢;clear hV;cases hS:h.signed key with
 | false =>
  have hv:Hid (V=false):=aab (by rw [hHB.out,hS];rfl);rw [hS] at q1;clear hS hHB;go_enter func88,ntmps88;go_upto_region 1 with fail;refine fA (g:=0) KS [(0,2),(1,1),(2,2),(3,0),(4,1),(5,1),(6,1),(7,1),(8,1),(9,1),(10,1),(11,1),(12,1),(13,1),(14,1),(15,1),(16,1),(17,1),(18,1),(19,1),(20,1),(21,0),(22,1),(23,1),(24,0)] ?_;simp only [bf,aap,aar];refine az ?_;refine ae ?_;refine az (v:=?vq1) (hv:=?hq1) ?_;case hq1=>(intro w hSw;(first | refine (af rfl rfl hSw).trans ?_ | refine (af rfl rfl hSw.1).trans ?_ | refine (af rfl rfl hSw.2.1).trans ?_ | refine (af rfl rfl hSw.2.2.1).trans ?_ | refine (af rfl rfl hSw.2).trans ?_ | refine (af rfl rfl hSw.2.2).trans ?_);with_reducible rfl)
  refine bW (fun K hK=>?_);go_simp;(first | (go_at_call 34;(with_reducible refine (q1.out _ (by with_reducible exact bDr (aj _))).mono ?_);rintro e w6 ⟨rfl,b6⟩;have B6:Below W.heap.size W w6:=ah (bDr (aj _)) b6) | skip);refine aH hK KS ?_;clear hK K;refine ae ?_;refine ay ?_;refine ay ?_;refine ay ?_;refine ay ?_;refine ay ?_;refine ay ?_;refine ay ?_;refine ay ?_;refine ae ?_;refine ae ?_;refine ay ?_;refine ay ?_;refine ay ?_;refine ay ?_;refine ay ?_;refine ay ?_;refine bW (fun K hK=>?_);go_simp;(first | (go_at_call 34;(with_reducible refine (q1.out _ (by with_reducible exact bDr (aj _))).mono ?_);rintro e w6 ⟨rfl,b6⟩;have B6:Below W.heap.size W w6:=ah (bDr (aj _)) b6) | skip);refine aH hK KS ?_;clear hK K;refine ay ?_;refine ae ?_;refine bW (fun K hK=>?_);go_simp;(first | (go_at_call 34;(with_reducible refine (q1.out _ (by with_reducible exact bDr (aj _))).mono ?_);rintro e w6 ⟨rfl,b6⟩;have B6:Below W.heap.size W w6:=ah (bDr (aj _)) b6) | skip);refine aH hK KS ?_;clear hK K;refine jk ?_;refine NoPanic.normal ?_;go_wp2_with fail;go_ret;exact ⟨aI hv.out.symm,B6⟩
 | true =>
  rw [hS] at q1;by_cases hm:M=(m.out.length:Int)
  ·have hv:Hid (V=D):=aab (by rw [hHB.out,hS,decide_eq_true hm];rfl)
   have hm2:(M==(m.out.length:Int))=true:=(by rw [beq_iff_eq];exact hm);clear hS hHB hm;go_enter func88,ntmps88;go_upto_region 1 with fail;refine fA (g:=0) KS [(0,2),(1,1),(2,2),(3,0),(4,1),(5,1),(6,1),(7,2),(8,1),(9,1),(10,2),(11,1),(12,1),(13,1),(14,1),(15,1),(16,1),(17,2),(18,1),(19,1),(20,2),(21,0),(22,1),(23,1),(24,0)] ?_;simp only [bf,aap,aar];refine az ?_;refine ae ?_;refine az (v:=?vq2) (hv:=?hq2) ?_;case hq2=>(intro w hSw;(first | refine (af rfl rfl hSw).trans ?_ | refine (af rfl rfl hSw.1).trans ?_ | refine (af rfl rfl hSw.2.1).trans ?_ | refine (af rfl rfl hSw.2.2.1).trans ?_ | refine (af rfl rfl hSw.2).trans ?_ | refine (af rfl rfl hSw.2.2).trans ?_);with_reducible rfl)
   refine bW (fun K hK=>?_);go_simp;(first | (go_at_call 34;(with_reducible refine (q1.out _ (by with_reducible exact bDr (aj _))).mono ?_);rintro e w6 ⟨rfl,b6⟩;have B6:Below W.heap.size W w6:=ah (bDr (aj _)) b6) | (go_at_call 25;(with_reducible refine (q2.out _ B6).mono ?_);rintro e w7 ⟨rfl,b7⟩;have B7:Below W.heap.size W w7:=ah B6 b7) | skip);refine aH hK KS ?_;clear hK K;refine ae ?_;refine ae ?_;refine ae ?_;refine az ?_;refine ae ?_;refine ae ?_;refine az ?_;refine ae ?_;refine ae ?_;refine ae ?_;refine ae ?_;refine ae ?_;refine ae ?_;refine az (v:=?vq3) (hv:=?hq3) ?_;case hq3=>(intro w hSw;(first | refine (af rfl rfl hSw).trans ?_ | refine (af rfl rfl hSw.1).trans ?_ | refine (af rfl rfl hSw.2.1).trans ?_ | refine (af rfl rfl hSw.2.2.1).trans ?_ | refine (af rfl rfl hSw.2).trans ?_ | refine (af rfl rfl hSw.2.2).trans ?_);with_reducible rfl)
   refine ae ?_;refine ae ?_;refine az ?_;refine bW (fun K hK=>?_);go_simp;(first | (go_at_call 34;(with_reducible refine (q1.out _ (by with_reducible exact bDr (aj _))).mono ?_);rintro e w6 ⟨rfl,b6⟩;have B6:Below W.heap.size W w6:=ah (bDr (aj _)) b6) | (go_at_call 25;(with_reducible refine (q2.out _ B6).mono ?_);rintro e w7 ⟨rfl,b7⟩;have B7:Below W.heap.size W w7:=ah B6 b7) | skip);refine aH hK KS ?_;clear hK K;refine ae ?_;refine ae ?_;refine bW (fun K hK=>?_);go_simp;(first | (go_at_call 34;(with_reducible refine (q1.out _ (by with_reducible exact bDr (aj _))).mono ?_);rintro e w6 ⟨rfl,b6⟩;have B6:Below W.heap.size W w6:=ah (bDr (aj _)) b6) | (go_at_call 25;(with_reducible refine (q2.out _ B6).mono ?_);rintro e w7 ⟨rfl,b7⟩;have B7:Below W.heap.size W w7:=ah B6 b7) | skip);refine aH hK KS ?_;clear hK K;refine jk ?_;refine NoPanic.normal ?_;go_wp2_with fail;go_ret;exact ⟨aI hv.out.symm,B7⟩
  ·have hv:Hid (V=false):=aab (by rw [hHB.out,hS,decide_eq_false hm];rfl)
   have hm2:(M==(m.out.length:Int))=false:=(by rw [beq_eq_false_iff_ne];exact hm);clear hS hHB hm;go_enter func88,ntmps88;go_upto_region 1 with fail;refine fA (g:=0) KS [(0,2),(1,1),(2,2),(3,0),(4,1),(5,1),(6,1),(7,2),(8,1),(9,1),(10,2),(11,1),(12,1),(13,1),(14,1),(15,1),(16,1),(17,1),(18,1),(19,1),(20,1),(21,0),(22,1),(23,1),(24,0)] ?_;simp only [bf,aap,aar];refine az ?_;refine ae ?_;refine az (v:=?vq4) (hv:=?hq4) ?_;case hq4=>(intro w hSw;(first | refine (af rfl rfl hSw).trans ?_ | refine (af rfl rfl hSw.1).trans ?_ | refine (af rfl rfl hSw.2.1).trans ?_ | refine (af rfl rfl hSw.2.2.1).trans ?_ | refine (af rfl rfl hSw.2).trans ?_ | refine (af rfl rfl hSw.2.2).trans ?_);with_reducible rfl)
   refine bW (fun K hK=>?_);go_simp;(first | (go_at_call 34;(with_reducible refine (q1.out _ (by with_reducible exact bDr (aj _))).mono ?_);rintro e w6 ⟨rfl,b6⟩;have B6:Below W.heap.size W w6:=ah (bDr (aj _)) b6) | skip);refine aH hK KS ?_;clear hK K;refine ae ?_;refine ae ?_;refine ae ?_;refine az ?_;refine ae ?_;refine ae ?_;refine az ?_;refine ae ?_;refine ae ?_;refine ae ?_;refine ae ?_;refine ay ?_;refine ay ?_;refine ay ?_;refine ay ?_;refine ay ?_;refine ay ?_;refine bW (fun K hK=>?_);go_simp;(first | (go_at_call 34;(with_reducible refine (q1.out _ (by with_reducible exact bDr (aj _))).mono ?_);rintro e w6 ⟨rfl,b6⟩;have B6:Below W.heap.size W w6:=ah (bDr (aj _)) b6) | skip);refine aH hK KS ?_;clear hK K;refine ay ?_;refine ae ?_;refine bW (fun K hK=>?_);go_simp;(first | (go_at_call 34;(with_reducible refine (q1.out _ (by with_reducible exact bDr (aj _))).mono ?_);rintro e w6 ⟨rfl,b6⟩;have B6:Below W.heap.size W w6:=ah (bDr (aj _)) b6) | skip);refine aH hK KS ?_;clear hK K;refine jk ?_;refine NoPanic.normal ?_;go_wp2_with fail;go_ret;exact ⟨aI hv.out.symm,B6⟩
theorem TD {key:Int} {m:Mx} {bits:List Int} {l:List Opn} (h:kz key m bits l=true):m.out.length≤64∧m.out.all Ltr.good=true:=by
 unfold kz at h;simp only [aal] at h;obtain ⟨h1,h2,_⟩:=h;unfold Mx.lens at h1;have h3:=of_decide_eq_true h1;unfold Mx.form at h2;simp only [aal,decide_eq_true_eq] at h2;exact ⟨by omega,h2.2.2.2.2.1⟩
theorem xC (key rest:Int) (ik:inI key) (A C D:Option Addr) (c c2 d:Nat) (inn:List Ltr) (J:Array Value) (j:Jw) (bits:List Int) (l:List Opn) (W:World) (hA:Rd W W.heap.size 6 A inn.length (inn.flatMap Ltr.cl)) (hJ:JwAt W W.heap.size J j)
  (hB:Rd W W.heap.size 1 C bits.length (ints bits)) (hL:Rd W W.heap.size 36 D l.length (l.flatMap Opn.cl)) (hok:∀ o∈l,o.ok)
  (hn:inn.length≤1000000∧j.bare.length≤1000000∧j.proofs.length≤1000000∧bits.length≤1000000∧l.length≤1000000) (hm:j.mix.inn.length≤1000000∧j.mix.mid.length≤1000000∧j.mix.out.length≤1000000∧j.mix.left.length≤1000000∧j.mix.right.length≤1000000) (hG:ShaG W) :
  Calls prog 20 #[.int .i64 key,.int .i64 rest,.slice A inn.length c,.agg J,.slice C bits.length c2,.slice D l.length d] W (Ret (.int .i64 (jc key rest inn j bits l)) W):=by
 have hmf:∀ (fn:Fn) (first cap:Array Value) (w:World),(Instr.makeFunc fn first cap).run prog w = .ok (.func fn first cap) w:=fun _ _ _ _=>rfl;obtain ⟨A1,A2,d1,d2,s,hJe,r1,r2,hM,ho⟩:=hJ;obtain ⟨n1,n2,n3,n4,n5⟩:=hn;obtain ⟨V,hV⟩:∃ V,Hid (jc key rest inn j bits l=V):=⟨_,aab rfl⟩
 rw [hV.out];rw [hJe];obtain ⟨JC,hJC⟩:∃ JC,sQ A1 A2 d1 d2 j.bare j.proofs s j.mix j.hand=JC:=⟨_,rfl⟩
 rw [hJC];go_enter func20,ntmps20;go_upto_region 1 with fail;have BK:Blk ((((((W.alloc (.cells #[.int .i64 key] 3)).alloc (.cells #[.int .i64 rest] 3)).alloc (.cells #[.slice A inn.length c] 34)).alloc (.cells JC 49)).alloc (.cells #[.slice C bits.length c2] 35)).alloc (.cells #[.slice D l.length d] 56)) W.heap.size 3 #[.int .i64 key]:=(((((Blk.new W _ _ _ rfl).alloc _).alloc _).alloc _).alloc _).alloc _;have BR:Blk ((((((W.alloc (.cells #[.int .i64 key] 3)).alloc (.cells #[.int .i64 rest] 3)).alloc (.cells #[.slice A inn.length c] 34)).alloc (.cells JC 49)).alloc (.cells #[.slice C bits.length c2] 35)).alloc (.cells #[.slice D l.length d] 56)) (W.heap.size+1) 3 #[.int .i64 rest]:=((((Blk.new _ _ _ _ (by simp)).alloc _).alloc _).alloc _).alloc _;have BI:Blk ((((((W.alloc (.cells #[.int .i64 key] 3)).alloc (.cells #[.int .i64 rest] 3)).alloc (.cells #[.slice A inn.length c] 34)).alloc (.cells JC 49)).alloc (.cells #[.slice C bits.length c2] 35)).alloc (.cells #[.slice D l.length d] 56)) (W.heap.size+1+1) 34 #[.slice A inn.length c]:=(((Blk.new _ _ _ _ (by simp)).alloc _).alloc _).alloc _;have BJ:Blk ((((((W.alloc (.cells #[.int .i64 key] 3)).alloc (.cells #[.int .i64 rest] 3)).alloc (.cells #[.slice A inn.length c] 34)).alloc (.cells JC 49)).alloc (.cells #[.slice C bits.length c2] 35)).alloc (.cells #[.slice D l.length d] 56)) (W.heap.size+1+1+1) 49 JC:=((Blk.new _ _ _ _ (by simp)).alloc _).alloc _;have BB:Blk ((((((W.alloc (.cells #[.int .i64 key] 3)).alloc (.cells #[.int .i64 rest] 3)).alloc (.cells #[.slice A inn.length c] 34)).alloc (.cells JC 49)).alloc (.cells #[.slice C bits.length c2] 35)).alloc (.cells #[.slice D l.length d] 56)) (W.heap.size+1+1+1+1) 35 #[.slice C bits.length c2]:=(Blk.new _ _ _ _ (by simp)).alloc _
 have BL:Blk ((((((W.alloc (.cells #[.int .i64 key] 3)).alloc (.cells #[.int .i64 rest] 3)).alloc (.cells #[.slice A inn.length c] 34)).alloc (.cells JC 49)).alloc (.cells #[.slice C bits.length c2] 35)).alloc (.cells #[.slice D l.length d] 56)) (W.heap.size+1+1+1+1+1) 56 #[.slice D l.length d]:=Blk.new _ _ _ _ (by simp);have hb:=bAl (bAl (bAl (bAl (bAl (bAl (aj W) (.cells #[.int .i64 key] 3)) (.cells #[.int .i64 rest] 3)) (.cells #[.slice A inn.length c] 34)) (.cells JC 49)) (.cells #[.slice C bits.length c2] 35)) (.cells #[.slice D l.length d] 56);generalize (((((W.alloc (.cells #[.int .i64 key] 3)).alloc (.cells #[.int .i64 rest] 3)).alloc (.cells #[.slice A inn.length c] 34)).alloc (.cells JC 49)).alloc (.cells #[.slice C bits.length c2] 35)).alloc (.cells #[.slice D l.length d] 56)=w1 at *;rw [←hJC] at BJ;replace hJC:=aab hJC
 obtain ⟨asks,hasks⟩:∃ asks:List Ask,asks=[⟨83,#[.pointer (some ⟨W.heap.size,0,none⟩),.pointer (some ⟨W.heap.size+1+1,0,none⟩),.pointer (some ⟨W.heap.size+1+1+1,0,none⟩)],df key inn j.bare j.proofs,3⟩,
  ⟨85,#[.pointer (some ⟨W.heap.size+1+1+1,0,none⟩),.pointer (some ⟨W.heap.size+1,0,none⟩),.pointer (some ⟨W.heap.size+1+1+1+1,0,none⟩),.pointer (some ⟨W.heap.size+1+1+1+1+1,0,none⟩)],eqL j.mix.inn j.bare&&kz rest j.mix bits l,4⟩,
  ⟨88,#[.pointer (some ⟨W.heap.size,0,none⟩),.pointer (some ⟨W.heap.size+1+1+1,0,none⟩)],NV key j.hand j.mix.out,2⟩]:=⟨_,rfl⟩
 have hVa:V=mX asks:=by
  rw [←hV.out,hasks];unfold jc mX mX mX mX;simp only [Vm];rfl
 have hq:Hid (∀ k a,asks[k]?=some a→(∀ x∈asks.take k,x.ok=true)→∀ w',Below w1.heap.size w1 w'→Calls prog a.f a.cap w' (Ret (.bool a.ok) w')):=aab (fun k a ha hall w' h=>by
  have hb2:=ah hb h;have BJ2:=BJ.below h BJ.lt;rw [hasks] at ha hall
  match k,ha with
  | 0,ha=>injection ha with ha;subst ha;exact Vo W.heap.size (W.heap.size+1+1) (W.heap.size+1+1+1) key A A1 A2 c d1 d2 inn j.bare j.proofs s j.mix j.hand w' (BK.below h BK.lt) (BI.below h BI.lt) BJ2 ((hA.below hb2).more hb2.size) ((r1.below hb2).more hb2.size) ((r2.below hb2).more hb2.size) ⟨n1,n2,n3⟩ (hG.below hb2)
  | 1,ha=>injection ha with ha;subst ha;exact WF (W.heap.size+1+1+1) (W.heap.size+1) (W.heap.size+1+1+1+1) (W.heap.size+1+1+1+1+1) rest C D A1 A2 c2 d d1 d2 bits l j.bare j.proofs s j.mix j.hand w' (BR.below h BR.lt) (BB.below h BB.lt) (BL.below h BL.lt) BJ2 ((r1.below hb2).more hb2.size) ((hM.below hb2).more hb2.size) ((hB.below hb2).more hb2.size) ((hL.below hb2).more hb2.size) hok ⟨hm.1,hm.2.1,hm.2.2.1,hm.2.2.2.1,hm.2.2.2.2,n4,n5⟩ (hG.below hb2)
  | 2,ha =>
   injection ha with ha;subst ha
   have h2:=hall _ (by simp;exact .inr rfl);dsimp only at h2;rw [aal] at h2;obtain ⟨h3,h4⟩:=TD h2.2;exact Vp W.heap.size (W.heap.size+1+1+1) key ik A1 A2 d1 d2 j.bare j.proofs s j.mix j.hand ho w' (BK.below h BK.lt) BJ2 ((hM.r2.below hb2).more hb2.size) (fun x hx=>FX (aau.1 h4 x hx)) (by omega) (hG.below hb2)
  | k+3,ha=>simp at ha)
 have hen:Hid (∀ a∈asks,∀ args w,(callFunc a.f args).run prog w = .ok (.enter a.f args) w):=aab (fun a ha args w=>by
  rw [hasks] at ha;simp only [aaq,aaw,or_false] at ha;rcases ha with rfl | rfl | rfl
  ·exact enters_of func83 (by kernel_rfl) rfl args w
  ·exact enters_of func85 (by kernel_rfl) rfl args w
  ·exact enters_of func88 (by kernel_rfl) rfl args w)
 have hl3:asks.length=3:=by rw [hasks];rfl
 have BP:Blk (w1.alloc (.cells #[.func (.func 83) #[] #[.pointer (some ⟨W.heap.size,0,none⟩),.pointer (some ⟨W.heap.size+1+1,0,none⟩),.pointer (some ⟨W.heap.size+1+1+1,0,none⟩)],.int .i64 3,.func (.func 85) #[] #[.pointer (some ⟨W.heap.size+1+1+1,0,none⟩),.pointer (some ⟨W.heap.size+1,0,none⟩),.pointer (some ⟨W.heap.size+1+1+1+1,0,none⟩),.pointer (some ⟨W.heap.size+1+1+1+1+1,0,none⟩)],.int .i64 4,.func (.func 88) #[] #[.pointer (some ⟨W.heap.size,0,none⟩),.pointer (some ⟨W.heap.size+1+1+1,0,none⟩)],.int .i64 2] 136)) w1.heap.size 136 (asks.flatMap Ask.cl).toArray:=by
  rw [hasks];exact Blk.new w1 _ _ _ rfl
 have hbp:=bAl (aj w1) (.cells #[.func (.func 83) #[] #[.pointer (some ⟨W.heap.size,0,none⟩),.pointer (some ⟨W.heap.size+1+1,0,none⟩),.pointer (some ⟨W.heap.size+1+1+1,0,none⟩)],.int .i64 3,.func (.func 85) #[] #[.pointer (some ⟨W.heap.size+1+1+1,0,none⟩),.pointer (some ⟨W.heap.size+1,0,none⟩),.pointer (some ⟨W.heap.size+1+1+1+1,0,none⟩),.pointer (some ⟨W.heap.size+1+1+1+1+1,0,none⟩)],.int .i64 4,.func (.func 88) #[] #[.pointer (some ⟨W.heap.size,0,none⟩),.pointer (some ⟨W.heap.size+1+1+1,0,none⟩)],.int .i64 2] 136);clear hV;replace hVa:=aab hVa;clear BK BR BI BJ BB BL hJC hasks;go_wp2_with fail;go_loopw [23] (fun i wr=>∃ k:Nat,k≤asks.length∧i = .int .i64 k∧Below w1.heap.size w1 wr∧Blk wr w1.heap.size 136 (asks.flatMap Ask.cl).toArray∧Hid (∀ x∈asks.take k,x.ok=true)) (fun i _=>asks.length - (intOf i).toNat)
 case atStart=>exact ⟨0,aao _,rfl,hbp,BP,aab (by simp)⟩
 case round =>
  clear hbp BP;obtain ⟨k,hkn,rfl,hbr,BP,hp⟩:=hrel;by_cases hlt:k<asks.length
  ·obtain ⟨a,ha⟩:∃ a,asks[k]?=some a:=⟨_,aac hlt⟩
   have hcl:∀ j,j<2→(asks.flatMap Ask.cl)[k*2+j]?=a.cl[j]?:=fun j hj=>jh asks k j a (fun _ _=>rfl) ha hj;have c0:wr.cell? ⟨w1.heap.size,k*2,none⟩=some (.func (.func a.f) #[] a.cap):=(by rw [BP.cell,aaG];exact hcl 0 (by omega));have c1:wr.cell? ⟨w1.heap.size,k*2+1,none⟩=some (.int .i64 a.err):=(by rw [BP.cell,aaG];exact hcl 1 (by omega));have q:=hq.out k a ha hp.out;have he:=hen.out a (aam ha);have h1:Hid (a.ok=true→∀ x∈asks.take (k+1),x.ok=true):=aab (Il hp.out ha);have h2:Hid (a.ok=false→V=a.err):=aab (fun h=>by rw [hVa.out];exact FM hp.out ha h);have i0:(0:Int)≤(k:Int):=(by omega);have i1:(k:Int)<3:=(by omega);obtain ⟨f,cap,ok,err⟩:=a;dsimp only at c0 c1 q he h1 h2;clear hcl ha;have hbn:=bAl hbr (.cells #[.func (.func f) #[] cap,.int .i64 err] 136);have BC:=Blk.new wr 136 #[.func (.func f) #[] cap,.int .i64 err] _ rfl;have BP2:=BP.alloc (.cells #[.func (.func f) #[] cap,.int .i64 err] 136);go_wp2_with fail;refine (q _ hbn).mono ?_;rintro e w2 ⟨rfl,b2⟩;have c3:w2.cell? ⟨wr.heap.size,1,none⟩=some (.int .i64 err):=(BC.below b2 BC.lt).cell 1;have hb2:=ah hbn b2;have BP3:=BP2.below b2 BP2.lt;clear q he;cases ok
   ·have hv:=aab (h2.out rfl)
    go_wp2_with fail;go_ret;exact ⟨eX hv.out.symm,ah hb hb2⟩
   ·have hp2:=aab (h1.out rfl)
    go_wp2_with fail;exact ⟨⟨k+1,by omega,by go_num,hb2,BP3,hp2⟩,by simp [intOf];omega⟩
  ·obtain rfl:k=asks.length:=by omega
   have hv:Hid (V=0):=by
    show _=_;rw [hVa.out];exact Ik (by have:=hp.out;rwa [abk] at this)
   have i1:¬(asks.length:Int)<3:=(by omega);go_wp2_with fail;go_ret;exact ⟨eX hv.out.symm,ah hb hbr⟩
section
variable {P:Program} {ops:Array Oper} {Q:Exit→Act→World→Prop} {md:Region.Mode}
def upd (L:Nat→Bool) (i:Nat):Nat→Bool:=fun k=>k==i||L k
theorem I8 {L:Nat→Bool} {i:Nat} : upd L i i=true:=by simp [upd]
theorem upd_ne {L:Nat→Bool} {i k:Nat} (h:k≠i):upd L i k=L k:=by simp [upd,h]
def sZ (md:Region.Mode) (ops:Array Oper):List (List Nat):=ops.toList.map fun o=>(o.after.toList.filter (Region.binds md)).map (·.on)
theorem NW {i:Nat} {o:Oper} (h:ops[i]?=some o):(sZ md ops).getD i []=(o.after.toList.filter (Region.binds md)).map (·.on):=by
 unfold sZ;rw [aaU,aaD,Array.getElem?_toList,h];rfl
theorem yD {i:Nat} {listed:Array Bool} : i∈Region.ready md ops listed↔listed.getD i true=false∧∃ o,ops[i]?=some o∧∀ d∈(sZ md ops).getD i [],listed.getD d false=true:=by
 rw [mem_ready];constructor
 ·rintro ⟨h1,o,ho,h2⟩
  refine ⟨h1,o,ho,fun d hd=>?_⟩;rw [NW ho] at hd;obtain ⟨e,he,rfl⟩:=aaK.1 hd;obtain ⟨he,hb⟩:=List.mem_filter.1 he;exact h2 e (Array.mem_toList_iff.1 he) hb
 ·rintro ⟨h1,o,ho,h2⟩
  refine ⟨h1,o,ho,fun e he hb=>h2 _ ?_⟩;rw [NW ho];exact aaK.2 ⟨e,List.mem_filter.2 ⟨Array.mem_toList_iff.2 he,hb⟩,rfl⟩
theorem ready_nil {listed:Array Bool} (hs:listed.size=ops.size) (hlt:∀ i,i<ops.size→∀ d∈(sZ md ops).getD i [],d<i) (h:Region.ready md ops listed=[]):∀ i,i<ops.size→listed.getD i false=true:=by
 intro i;induction i using Nat.strongRecOn with
 | ind i ih =>
  intro hi;cases hc:listed.getD i false with
  | true=>rfl
  | false =>
   have:i∈Region.ready md ops listed:=yD.2 ⟨by rw [abu,abd (by omega)] at hc ⊢;exact hc,ops[i],abd hi,fun d hd=>ih d (hlt i hi d hd) (by have:=hlt i hi d hd;omega)⟩
   rw [h] at this;cases this
theorem PU {Inv:(Nat→Bool)→Act→World→Prop} (hlt:∀ i,i<ops.size→∀ d∈(sZ md ops).getD i [],d<i)
  (step:∀ i o L a w,ops[i]?=some o→L i=false→(∀ d∈(sZ md ops).getD i [],L d=true)→Inv L a w→wpOp P ops Q i (Inv (upd L i)) a w)
  (done:∀ L a w,(∀ i,i<ops.size→L i=true)→Inv L a w→Q .normal a w):∀ (g:Nat) (U:List Nat) (listed:Array Bool) (a:Act) (w:World),
   U.length≤g→listed.size=ops.size→(∀ k,k<ops.size→listed.getD k false=false→k∈U)→Inv (fun k=>listed.getD k false) a w→wpAny P md ops Q g listed a w:=by
 intro g;induction g with
 | zero =>
  intro U listed a w hU hs hk h
  have hall:∀ i,i<ops.size→listed.getD i false=true:=fun i hi=>by
   cases hc:listed.getD i false with
   | true=>rfl
   | false =>
    have:=hk i hi hc
    rw [abo.1 (Nat.le_zero.1 hU)] at this;cases this
  refine ⟨?_,done _ _ _ hall h⟩;cases hr:Region.ready md ops listed with
  | nil=>rfl
  | cons i r =>
   obtain ⟨h1,o,ho,_⟩:=yD.1 (show i∈Region.ready md ops listed by rw [hr];exact List.mem_cons_self ..);have hi:=(aaI.1 ho).1;have h2:=hall i hi;rw [abu,abd (by omega)] at h1 h2;simp only [Option.getD_some] at h1 h2;rw [h1] at h2;cases h2
 | succ g ih =>
  intro U listed a w hU hs hk h;refine ⟨fun hr=>done _ _ _ (ready_nil hs hlt hr) h,fun i hi=>?_⟩;obtain ⟨h1,o,ho,hd⟩:=yD.1 hi;have hil:=(aaI.1 ho).1
  have h2:listed.getD i false=false:=by
   rw [abu,abd (by omega)] at h1 ⊢;exact h1
  have hup:(fun k=>(listed.setIfInBounds i true).getD k false)=upd (fun k=>listed.getD k false) i:=by
   funext k
   by_cases hki:k=i
   ·subst hki
    rw [I8,abu,Array.getElem?_setIfInBounds_self_of_lt (by omega)];rfl
   ·rw [upd_ne hki,abu,Array.getElem?_setIfInBounds_ne (Ne.symm hki),←abu]
  refine wpOp_mono (fun a' w' h'=>?_) (step i o _ a w ho h2 hd h);refine ih (U.erase i) _ a' w' ?_ (by rw [Array.size_setIfInBounds,hs]) (fun k hks hkf=>?_) (by rw [hup];exact h')
  ·rw [List.length_erase_of_mem (hk i hil h2)];omega
  ·have e:=congrFun hup k
   rw [hkf] at e;by_cases hki:k=i
   ·subst hki;rw [I8] at e;cases e
   ·rw [upd_ne hki] at e
    exact (List.mem_erase_of_ne hki).2 (hk k hks e.symm)
def dE (a:Act):List Nat→List Value→Act
 | d::sl,v::vs=>dE (a.put (some d) v) sl vs
 | _,_=>a
def Dz (sl:List Nat) (dst:Option Nat) (v:Value) (vs:List Value):List Value:=match dst with
 | none=>vs
 | some d=>vs.set (sl.idxOf d) v
theorem Vq {a:Act} {d:Nat} {x v:Value} : (a.put (some d) x).put (some d) v=a.put (some d) v:=by
 simp [Act.put]
theorem put_comm {a:Act} {d e:Nat} {x v:Value} (h:d≠e):(a.put (some d) x).put (some e) v=(a.put (some e) v).put (some d) x:=by
 simp only [Act.put];rw [Array.setIfInBounds_comm _ _ h]
theorem I9 {d:Nat} {v:Value} : ∀ {sl:List Nat} {vs:List Value} {a:Act},d ∉ sl→(dE a sl vs).put (some d) v=dE (a.put (some d) v) sl vs
 | [],_,_,_=>rfl
 | _::_,[],_,_=>rfl
 | e::sl,x::vs,a,h=>by
  rw [dE,dE,I9 (fun h'=>h (aa8 _ h')),put_comm (show e≠d from fun e'=>h (by rw [e'];exact List.mem_cons_self ..))]
theorem Ja {d:Nat} {v:Value} : ∀ {sl:List Nat} {vs:List Value} {a:Act},sl.Nodup→d∈sl→vs.length=sl.length→(dE a sl vs).put (some d) v=dE a sl (Dz sl (some d) v vs)
 | [],_,_,_,h,_=>by cases h
 | _::_,[],_,_,_,h=>by simp at h
 | e::sl,x::vs,a,hn,hd,hl=>by
  obtain ⟨hn1,hn2⟩:=List.nodup_cons.1 hn;by_cases he:e=d
  ·subst he
   have:Dz (e::sl) (some e) v (x::vs)=v::vs:=by simp [Dz]
   rw [this,dE,dE,I9 hn1,Vq]
  ·have hd':d∈sl:=by
    rcases aaq.1 hd with h | h
    ·exact absurd h.symm he
    ·exact h
   have:Dz (e::sl) (some d) v (x::vs)=x::Dz sl (some d) v vs:=by
    simp only [Dz];rw [List.idxOf_cons,beq_eq_false_iff_ne.2 he,cond_false,aah]
   rw [this,dE,dE,Ja hn2 hd' (by simpa using hl)]
theorem Jb {sl:List Nat} {dst:Option Nat} {v:Value} {vs:List Value} : (Dz sl dst v vs).length=vs.length:=by
 cases dst with
 | none=>rfl
 | some d=>simp [Dz]
theorem oW {id:Nat} {l:List Oper} {a:Act} {w:World} (sl:List Nat) (deps:List (List Nat)) (J:(Nat→Bool)→List Value→World→Prop) (vs0:List Value) (h0:dE a sl vs0=a) (init:J (fun _=>false) vs0 w.drew)
  (step:∀ i o L vs w,l[i]?=some o→L i=false→(∀ d∈deps.getD i [],L d=true)→vs.length=sl.length→J L vs w →
   ∀ K':Act→World→Prop,(∀ v w',J (upd L i) (Dz sl o.dst v vs) w'→K' ((dE a sl vs).put o.dst v) w')→if Region.wanted o (yielded l.toArray (dE a sl vs).tmps)=true then Oper.wp P o (dE a sl vs) w K' (NoPanic Q) else K' ((dE a sl vs).put o.dst undef) w)
  (done:∀ L vs w,(∀ i,i<l.length→L i=true)→vs.length=sl.length→J L vs w→Q .normal (dE a sl vs) w)
  (hm:P.follows .mixedOrders=true:=by kernel_rfl) (hdeps:sZ .any l.toArray=deps:=by kernel_rfl)
  (hB:(decide (vs0.length=sl.length)&&(decide sl.Nodup&&((deps.zipIdx.all fun p=>p.1.all (fun d=>decide (d<p.2)))&&l.all fun o=>o.dst.all (fun d=>decide (d∈sl)))))=true:=by kernel_rfl):(Code.region id l.toArray true).wp P Q a w:=by
 simp only [aal,decide_eq_true_eq,aau] at hB;obtain ⟨b1,b2,b3,b4⟩:=hB;refine wp_region_noPanic (wp_region_any hm ?_);refine PU (Inv:=fun L a' w'=>∃ vs,vs.length=sl.length∧a'=dE a sl vs∧J L vs w') ?_ ?_ ?_ _ (List.range l.length) _ _ _ (by simp) (by simp) (fun k hk _=>aaE.2 (by simpa using hk)) ⟨vs0,b1,h0.symm,?_⟩
 ·intro i hi d hd
  rw [hdeps] at hd;have hi':i<deps.length:=by rw [←hdeps];unfold sZ;simpa using hi
  rw [aaU,aac hi'] at hd
  have:=b3 (deps[i],i) (by rw [List.mem_zipIdx_iff_getElem?];exact aac hi') d hd
  exact this
 ·rintro i o L a' w' ho hL hd ⟨vs,hv,rfl,hJ⟩
  rw [hdeps] at hd;have ho':l[i]?=some o:=by simpa using ho
  refine wpOp_step ho fun K' hK=>step i o L vs w' ho' hL hd hv hJ K' fun v w2 h2=>hK _ _ ⟨Dz sl o.dst v vs,by rw [Jb,hv],?_,h2⟩;cases hdst:o.dst with
  | none=>rfl
  | some d =>
   have:=b4 o (aam ho')
   rw [hdst] at this;exact Ja b2 (by simpa using this) hv
 ·rintro L a' w' hall ⟨vs,hv,rfl,hJ⟩
  exact NoPanic.normal (done L vs w' (fun i hi=>hall i (by simpa using hi)) hv hJ)
 ·have:(fun k=>(Array.replicate l.toArray.size false).getD k false)=fun _=>false:=by
   funext k
   rw [abu,Array.getElem?_replicate]
   split <;> rfl
  rw [this];exact init
end
theorem Lr:hS.cl.toArray.size=42:=by rw [aae];rfl
theorem FY {P:Program} {fn:Func} {p:Tmp} {ty:TypeId} (h:fn.results=#[.cell p ty]) (tmps:Array Value) (w:World) (g:Nat) (t:TypeId) (cs:Array Value) (fr:Nat×Nat) (d:TypeDesc)
  (hp:tmps.getD p undef = .pointer (some ⟨g,0,none⟩)) (hg:w.heap[g]?=some (.cells cs t fr))
  (hu:P.underlying ty=some d) (hd:(match d with | .struct _ | .array _ _=>true | _=>false)=true) (hi:(P.info? ty).map (·.size)=some cs.size) :
  (results fn tmps).run P w = .ok (.agg cs) w:=by
 have hp':tmps[p]?.getD undef = .pointer (some ⟨g,0,none⟩):=by simpa using hp
 simp [results,h,hp',asAddr,run_loadVar_row w g t ty cs fr d hg hu hd hi]
theorem Ah (W:World):Calls prog 44 #[] W (Ret (.agg hS.cl.toArray) W):=by
 go_enter func44,ntmps44;go_upto_region 1 with fail;change Code.wp _ _ _ _ (W.alloc (.cells dM.cl.toArray 33));have BH:=Blk.new W 33 dM.cl.toArray _ rfl;have hb:=bAl (aj W) (.cells dM.cl.toArray 33);generalize W.alloc (.cells dM.cl.toArray 33)=w1 at *;apply wp_region_lit
 iterate 6 go_step
 obtain ⟨cs,hcs⟩:∃ cs,hS.cl.toArray=cs:=⟨_,rfl⟩
 have hl:cs.size=42:=by rw [←hcs];exact Lr
 have h1:∀ v∈cs.toList,v.oneCell'=true:=by rw [←hcs];simpa using Hd.one hS
 refine aG (v := .agg cs) (by rfl) (by rfl) (by rfl) (by rw [←hcs];rfl) (aQ BH (by rw [hl];exact cO) (by rw [hl];simpa using Hd.cl_length qg) h1) ?_;replace hcs:=aab hcs;have hb2:=below_setRow hb (aad _) cs;have BH2:=BH.row cs;generalize w1.setRow W.heap.size cs=w2 at *;go_wp2_with fail;exact bodyPost_ret (v := .agg cs) (FY rfl _ _ W.heap.size 33 _ (0,0) _ rfl BH2 underlying33 rfl (by rw [hl];exact cO)) rfl ⟨by rw [hcs.out],hb2⟩
theorem Ls {P:Program} {o:Oper} {a:Act} {w:World} {Q:Exit→Act→World→Prop} {ops:Array Oper} {K:Act→World→Prop} {E:Prop} (hgd:Region.wanted o (yielded ops a.tmps)=true) {ty:TypeId} {x:Operand} (ho:o.op = .load ty x) {q v:Value} (hx:a.eval x=q)
  (hl:(Instr.loadAt ty q).run P w = .ok v w) (h:K (a.put o.dst v) w):if Region.wanted o (yielded ops a.tmps)=true then Oper.wp P o a w K Q else E:=by
 rw [if_pos hgd];unfold Oper.wp;rw [af ho hx hl];exact h
structure GW (o:Ofc) (rest:Int) (h:Hd) (inn:List Ltr) (t:Trn) (w:World) (X J:Array Value) (E:Int):Prop where
 e:E=dh o rest h inn t
 x4:X.size=4
 x1:∀ v∈X.toList,v.oneCell'=true
 j49:J.size=49
 j1:∀ v∈J.toList,v.oneCell'=true
 at_:dh o rest h inn t=0→∀ w2,KeepsW w w2→OfAt w2 w2.heap.size X (oK o rest h inn t)∧JwAt w2 w2.heap.size J (lh o rest h inn t)
section
variable {o:Ofc} {rest:Int} {h:Hd} {inn:List Ltr} {t:Trn} {w w2:World} {X J:Array Value} {E:Int}
theorem GW.keep (g:GW o rest h inn t w X J E) (k:KeepsW w w2):GW o rest h inn t w2 X J E:={ g with at_:=fun h0 w3 k3=>g.at_ h0 w3 (k.trans k3) }
theorem EH {w:World} {B:Nat} {X:Array Value} {o:Ofc} (h:OfAt w B X o):X.size=4∧∀ v∈X.toList,v.oneCell'=true:=by
 obtain ⟨A,c,vs,Au,cu,rfl,_⟩:=h;refine ⟨rfl,fun v hv=>?_⟩;simp only [aaq,aaw,or_false] at hv;rcases hv with rfl | rfl | rfl | rfl <;> rfl
theorem yE {w:World} {B:Nat} {J:Array Value} {j:Jw} (h:JwAt w B J j):J.size=49∧∀ v∈J.toList,v.oneCell'=true:=by
 obtain ⟨A1,A2,c1,c2,s,rfl,_,_,_,ho⟩:=h;constructor
 ·have:=Hd.cl_length ho
  unfold sQ oV;rw [aae];simp only [aas];omega
 ·intro v hv
  unfold sQ at hv;exact xx ⟨rfl,rfl,rfl,rfl,rfl,rfl,rfl⟩ (Hd.one j.hand) v (by simpa using hv)
theorem GW.of_ret {w':World} {r:Ending} (hr:RetWork o rest h inn t w r w') (hc:o.chain=[]∨dh o rest h inn t≠0):Below w.heap.size w w'∧∃ X J,r = .returned (.tuple #[.agg X,.agg J,.int .i64 (dh o rest h inn t)])∧GW o rest h inn t w' X J (dh o rest h inn t):=by
 obtain ⟨hb,hno,hyes⟩:=hr;refine ⟨hb,?_⟩;by_cases h0:dh o rest h inn t=0
 ·obtain ⟨X,J,rfl,hat⟩:=hyes h0
  have hc':o.chain=[]:=hc.resolve_right (fun h=>h h0);obtain ⟨a,b⟩:=hat w' (KeepsW.refl w') (.inl hc');exact ⟨X,J,by rw [h0],rfl,(EH a).1,(EH a).2,(yE b).1,(yE b).2,fun _ w2 k=>hat w2 k (.inl hc')⟩
 ·refine ⟨bK,bC.toArray,hno h0,rfl,rfl,?_,dW,by simpa using qL,fun h=>absurd h h0⟩
  intro v hv;unfold bK at hv;simp only [aaq,aaw,or_false] at hv;rcases hv with rfl | rfl | rfl | rfl <;> rfl
end
structure JW (o:Ofc) (rest:Int) (h:Hd) (inn:List Ltr) (t:Trn) (OC LC TC:Array Value) (w0:World) (b0 b1 b2 b3 b4 b5 b6 b7 b8 b9 b10 b11 b12 b13 b14:Bool) (v0 v1 v2 v3 v4 v5 v6 v7 v8 v9 v10 v11 v14:Value) (X J:Array Value) (g1 g2:Nat) (w:World):Prop where
 below:Below w0.heap.size w0 w
 p0:b0=true→v0 = .agg OC
 p1:b1=true→v1 = .agg h.cl.toArray
 p2:b2=true→v2 = .agg LC
 p3:b3=true→∃ g,v3 = .slice (some ⟨g,0,none⟩) 1 1∧Blk w g 63 LC
 p4:b4=true→v4 = .agg TC
 c6:b6=true→b5=true
 c7:b7=true→b6=true
 c8:b8=true→b6=true
 c9:b9=true→b6=true
 c12:b12=true→b7=true∧b10=true
 c13:b13=true→b8=true∧b11=true
 c14:b14=true→b9=true
 p5:b5=true→v5 = .tuple #[.agg X,.agg J,.int .i64 (dh o rest h inn t)]∧GW o rest h inn t w X J (dh o rest h inn t)
 p6:b6=true→v6 = .tuple #[.agg X,.agg J,.int .i64 (dh o rest h inn t)]
 p7:b7=true→v7 = .agg X
 p8:b8=true→v8 = .agg J
 p9:b9=true→v9 = .int .i64 (dh o rest h inn t)
 p10:b10=true→v10 = .pointer (some ⟨g1,0,none⟩)∧w0.heap.size≤g1∧Blk w g1 25 (if b12=true then X else bK)
 p11:b11=true→v11 = .pointer (some ⟨g2,0,none⟩)∧w0.heap.size≤g2∧Blk w g2 49 (if b13=true then J else bC.toArray)
 p14:b14=true→v14 = .int .i64 (dh o rest h inn t)
section
variable {o:Ofc} {rest:Int} {h:Hd} {inn:List Ltr} {t:Trn} {OC LC TC:Array Value} {w0 w w':World} {b0 b1 b2 b3 b4 b5 b6 b7 b8 b9 b10 b11 b12 b13 b14:Bool} {v0 v1 v2 v3 v4 v5 v6 v7 v8 v9 v10 v11 v14:Value} {X J:Array Value} {g1 g2:Nat}
theorem JW.grow (H:JW o rest h inn t OC LC TC w0 b0 b1 b2 b3 b4 b5 b6 b7 b8 b9 b10 b11 b12 b13 b14 v0 v1 v2 v3 v4 v5 v6 v7 v8 v9 v10 v11 v14 X J g1 g2 w) (b:Below w.heap.size w w'):JW o rest h inn t OC LC TC w0 b0 b1 b2 b3 b4 b5 b6 b7 b8 b9 b10 b11 b12 b13 b14 v0 v1 v2 v3 v4 v5 v6 v7 v8 v9 v10 v11 v14 X J g1 g2 w' :=
 { H with
  below:=ah H.below b
  p3:=fun h3=>by obtain ⟨g,e,B⟩:=H.p3 h3;exact ⟨g,e,B.below b B.lt⟩
  p5:=fun h5=>⟨(H.p5 h5).1,(H.p5 h5).2.keep (KeepsW.below b)⟩
  p10:=fun h10=>by obtain ⟨e,hg,B⟩:=H.p10 h10;exact ⟨e,hg,B.below b B.lt⟩
  p11:=fun h11=>by obtain ⟨e,hg,B⟩:=H.p11 h11;exact ⟨e,hg,B.below b B.lt⟩ }
theorem JW.start (b:Below w0.heap.size w0 w):JW o rest h inn t OC LC TC w0 false false false false false false false false false false false false false false false v0 v1 v2 v3 v4 v5 v6 v7 v8 v9 v10 v11 v14 X J g1 g2 w :=
 ⟨b,fun h=>(by cases h),fun h=>(by cases h),fun h=>(by cases h),fun h=>(by cases h),fun h=>(by cases h),fun h=>(by cases h),fun h=>(by cases h),fun h=>(by cases h),fun h=>(by cases h),fun h=>(by cases h),fun h=>(by cases h),fun h=>(by cases h),fun h=>(by cases h),fun h=>(by cases h),fun h=>(by cases h),fun h=>(by cases h),fun h=>(by cases h),fun h=>(by cases h),fun h=>(by cases h),fun h=>(by cases h)⟩
theorem JW.s3 (H:JW o rest h inn t OC LC TC w0 b0 b1 b2 b3 b4 b5 b6 b7 b8 b9 b10 b11 b12 b13 b14 v0 v1 v2 v3 v4 v5 v6 v7 v8 v9 v10 v11 v14 X J g1 g2 w):JW o rest h inn t OC LC TC w0 b0 b1 b2 true b4 b5 b6 b7 b8 b9 b10 b11 b12 b13 b14 v0 v1 v2 (.slice (some ⟨w.heap.size,0,none⟩) 1 1) v4 v5 v6 v7 v8 v9 v10 v11 v14 X J g1 g2 (w.alloc (.cells LC 63)) :=
 { H.grow (bAl (aj w) _) with p3:=fun _=>⟨_,rfl,Blk.new w 63 LC _ rfl⟩ }
theorem JW.s5 (H:JW o rest h inn t OC LC TC w0 b0 b1 b2 b3 b4 false b6 b7 b8 b9 b10 b11 b12 b13 b14 v0 v1 v2 v3 v4 v5 v6 v7 v8 v9 v10 v11 v14 X J g1 g2 w) (b:Below w.heap.size w w') {X' J':Array Value} (G:GW o rest h inn t w' X' J' (dh o rest h inn t)) :
  JW o rest h inn t OC LC TC w0 b0 b1 b2 b3 b4 true b6 b7 b8 b9 b10 b11 b12 b13 b14 v0 v1 v2 v3 v4 (.tuple #[.agg X',.agg J',.int .i64 (dh o rest h inn t)]) v6 v7 v8 v9 v10 v11 v14 X' J' g1 g2 w':=by
 have h6:b6=false:=by cases b6 <;> first | rfl | exact absurd (H.c6 rfl) (by simp)
 subst h6;have h7:b7=false:=by cases b7 <;> first | rfl | exact absurd (H.c7 rfl) (by simp)
 have h8:b8=false:=by cases b8 <;> first | rfl | exact absurd (H.c8 rfl) (by simp)
 have h9:b9=false:=by cases b9 <;> first | rfl | exact absurd (H.c9 rfl) (by simp)
 subst h7 h8 h9;have h12:b12=false:=by cases b12 <;> first | rfl | exact absurd (H.c12 rfl).1 (by simp)
 have h13:b13=false:=by cases b13 <;> first | rfl | exact absurd (H.c13 rfl).1 (by simp)
 subst h12 h13;have H':=H.grow b
 exact { H' with
  c6:=fun h=>by cases h
  p5:=fun _=>⟨rfl,G⟩
  p6:=fun h=>by cases h
  p7:=fun h=>by cases h
  p8:=fun h=>by cases h
  p10:=fun h=>by have:=H'.p10 h;simpa using this
  p11:=fun h=>by have:=H'.p11 h;simpa using this }
theorem JW.s10 (H:JW o rest h inn t OC LC TC w0 b0 b1 b2 b3 b4 b5 b6 b7 b8 b9 false b11 b12 b13 b14 v0 v1 v2 v3 v4 v5 v6 v7 v8 v9 v10 v11 v14 X J g1 g2 w):JW o rest h inn t OC LC TC w0 b0 b1 b2 b3 b4 b5 b6 b7 b8 b9 true b11 b12 b13 b14 v0 v1 v2 v3 v4 v5 v6 v7 v8 v9 (.pointer (some ⟨w.heap.size,0,none⟩)) v11 v14 X J w.heap.size g2 (w.alloc (.cells bK 25)):=by
 have h12:b12=false:=by cases b12 <;> first | rfl | exact absurd (H.c12 rfl).2 (by simp)
 subst h12
 exact { H.grow (bAl (aj w) _) with
  c12:=fun h=>by cases h
  p10:=fun _=>⟨rfl,H.below.size,Blk.new w 25 bK _ rfl⟩ }
theorem JW.s11 (H:JW o rest h inn t OC LC TC w0 b0 b1 b2 b3 b4 b5 b6 b7 b8 b9 b10 false b12 b13 b14 v0 v1 v2 v3 v4 v5 v6 v7 v8 v9 v10 v11 v14 X J g1 g2 w):JW o rest h inn t OC LC TC w0 b0 b1 b2 b3 b4 b5 b6 b7 b8 b9 b10 true b12 b13 b14 v0 v1 v2 v3 v4 v5 v6 v7 v8 v9 v10 (.pointer (some ⟨w.heap.size,0,none⟩)) v14 X J g1 w.heap.size (w.alloc (.cells bC.toArray 49)):=by
 have h13:b13=false:=by cases b13 <;> first | rfl | exact absurd (H.c13 rfl).2 (by simp)
 subst h13
 exact { H.grow (bAl (aj w) _) with
  c13:=fun h=>by cases h
  p11:=fun _=>⟨rfl,H.below.size,Blk.new w 49 bC.toArray _ rfl⟩ }
theorem CZ {w:World} {g:Nat} {T:TypeId} {cs:Array Value} (B:Blk w g T cs) (hT:T=25∨T=49) (X:Array Value):KeepsW w (w.setRow g X):=fun k T' cs' h' B'=>by
 refine B'.farRowT B ?_ X;rcases hT with rfl | rfl <;> rcases h' with rfl | rfl | rfl | rfl | rfl <;> decide
theorem JW.s12 (H:JW o rest h inn t OC LC TC w0 b0 b1 b2 b3 b4 b5 b6 true b8 b9 true b11 false b13 b14 v0 v1 v2 v3 v4 v5 v6 v7 v8 v9 v10 v11 v14 X J g1 g2 w):JW o rest h inn t OC LC TC w0 b0 b1 b2 b3 b4 b5 b6 true b8 b9 true b11 true b13 b14 v0 v1 v2 v3 v4 v5 v6 v7 v8 v9 v10 v11 v14 X J g1 g2 (w.setRow g1 X):=by
 obtain ⟨e,hg,B⟩:=H.p10 rfl
 exact { H with
  below:=below_setRow H.below hg X
  p3:=fun h3=>by obtain ⟨g,e,B3⟩:=H.p3 h3;exact ⟨g,e,B3.farRowT B (by decide) X⟩
  p5:=fun h5=>⟨(H.p5 h5).1,(H.p5 h5).2.keep (CZ B (.inl rfl) X)⟩
  c12:=fun _=>⟨rfl,rfl⟩
  p10:=fun _=>⟨e,hg,B.row X⟩
  p11:=fun h11=>by obtain ⟨e,hg,B3⟩:=H.p11 h11;exact ⟨e,hg,B3.farRowT B (by decide) X⟩ }
theorem JW.s13 (H:JW o rest h inn t OC LC TC w0 b0 b1 b2 b3 b4 b5 b6 b7 true b9 b10 true b12 false b14 v0 v1 v2 v3 v4 v5 v6 v7 v8 v9 v10 v11 v14 X J g1 g2 w):JW o rest h inn t OC LC TC w0 b0 b1 b2 b3 b4 b5 b6 b7 true b9 b10 true b12 true b14 v0 v1 v2 v3 v4 v5 v6 v7 v8 v9 v10 v11 v14 X J g1 g2 (w.setRow g2 J):=by
 obtain ⟨e,hg,B⟩:=H.p11 rfl
 exact { H with
  below:=below_setRow H.below hg J
  p3:=fun h3=>by obtain ⟨g,e,B3⟩:=H.p3 h3;exact ⟨g,e,B3.farRowT B (by decide) J⟩
  p5:=fun h5=>⟨(H.p5 h5).1,(H.p5 h5).2.keep (CZ B (.inr rfl) J)⟩
  c13:=fun _=>⟨rfl,rfl⟩
  p10:=fun h10=>by obtain ⟨e,hg,B3⟩:=H.p10 h10;exact ⟨e,hg,B3.farRowT B (by decide) J⟩
  p11:=fun _=>⟨e,hg,B.row J⟩ }
end
end Go.Proofs.YthbibbkbaphpkaaGreatDoor
