/- Office: caught (recover), must; walked. -/
import Derived.Test.YthbibbkbaphpkaaGreatDoorMan
set_option maxHeartbeats 16000000
set_option maxRecDepth 1000000
namespace Go.Proofs.YthbibbkbaphpkaaGreatDoor
open _root_.Go.Proofs.Tryz
section
open Go.RowKit
theorem FK (e:Int) (w:World):(Instr.typeAssert (.iface 42 (.int .i64 e)) 20 42 true).run prog w = .ok (.tuple #[.int .i64 e,.bool true]) w:=by kernel_rfl
theorem wV (p:Addr) (e old:Int) (older:List PanicEntry) (w:World) (hc:w.cell? p=some (.int .i64 old)) (hz:w.frozen? p=false) :
  CallsD prog 50 #[.pointer (some p)] (.panicking ({ v := .iface 42 (.int .i64 e),recovered:=false }::older)) w fun r u' w' =>
   r = .returned (.tuple #[])∧u' = .panicking ({ v := .iface 42 (.int .i64 e),recovered:=true }::older)∧w'=w.setCell p (.int .i64 e):=by
 have hta:=FK e;refine callsD_of_wpS func50 rfl fun c₀ cs hu=>?_
 simp only [ntmps50,aae,aas,List.length_nil,Nat.reduceAdd,Nat.reduceSub,aaV,
   aaW,aaX,aaY,aaJ,aaN]
 apply wpS_seq;apply wpS_region;simp [wpOpsS,go_sem,recoverD,hu,Exit.thenS];refine wpS_of_wp ?_;go_wp2
 exact ⟨rfl,_,rfl,.tuple #[],by simp [results,results50],rfl,rfl,rfl⟩
theorem sG (p:Addr) (w:World) :
  CallsD prog 50 #[.pointer (some p)] .returning w fun r u' w' =>
   r = .returned (.tuple #[])∧u' = .returning∧w'=w:=by
 refine callsD_of_wpS func50 rfl fun c₀ cs hu=>?_
 simp only [ntmps50,aae,aas,List.length_nil,Nat.reduceAdd,Nat.reduceSub,aaV,
   aaW,aaX,aaY,aaJ,aaN]
 apply wpS_seq;apply wpS_region;simp [wpOpsS,go_sem,recoverD,hu,Exit.thenS];refine wpS_of_wp ?_;go_wp2
 exact ⟨rfl,.returning,by cases c₀;simp_all,.tuple #[],by simp [results,results50],rfl,rfl,rfl⟩
theorem Pq {fn:Func} {tmps:Array Value} {R:Ending→World→Prop} (p:Addr) (w:World) (v:Value)
  (hr:(results fn tmps).run prog w = .ok v w) (h:R (.returned v) w) :
  Leaves prog fn tmps R [{ target := .fn (.func 50) #[],args:=#[.pointer (some p)] }] .returning w:=by
 refine leaves_cons (f:=50) (args:=#[.pointer (some p)]) (by simp) (by simp [go_sem]) ?_;refine (sG p w).mono ?_;rintro r u' w' ⟨rfl,rfl,rfl⟩;exact ⟨v,hr,h⟩
theorem Ku {fn:Func} {tmps:Array Value} {R:Ending→World→Prop} (p:Addr) (e old:Int) (w:World) (v:Value) (hc:w.cell? p=some (.int .i64 old)) (hz:w.frozen? p=false)
  (hr:(results fn tmps).run prog (w.setCell p (.int .i64 e)) = .ok v (w.setCell p (.int .i64 e))) (h:R (.returned v) (w.setCell p (.int .i64 e))) :
  Leaves prog fn tmps R [{ target := .fn (.func 50) #[],args:=#[.pointer (some p)] }] (.panicking [{ v := .iface 42 (.int .i64 e),recovered:=false }]) w:=by
 refine leaves_cons (f:=50) (args:=#[.pointer (some p)]) (by simp) (by simp [go_sem]) ?_;refine (wV p e old [] w hc hz).mono ?_;rintro r u' w' ⟨rfl,rfl,rfl⟩;exact ⟨v,hr,h⟩
def RP (e:Int) (w:World) (r:Ending) (w':World):Prop :=
 w=w'∧((e=0∧r = .returned (.tuple #[]))∨(e≠0∧r = .panicked [{ v := .iface 42 (.int .i64 e),recovered:=false }]))
theorem qf (e:Int) (w:World):Calls prog 51 #[.int .i64 e] w (RP e w):=by
 by_cases h:e=0
 ·subst h
  go_enter func51,ntmps51;go_wp2
  exact bodyPost_ret (results_none rfl _ _ _) rfl ⟨rfl,.inl ⟨rfl,rfl⟩⟩
 ·have hb:(e != 0)=true:=by simpa using h
  go_enter func51,ntmps51;go_wp2
  exact ⟨rfl,rfl,.inr ⟨h,rfl⟩⟩
end
section
open Go Go.RowKit
structure Ask where
 f:Nat
 cap:Array Value
 ok:Bool
 err:Int
def Ask.cl (a:Ask):List Value:=[.func (.func a.f) #[] a.cap,.int .i64 a.err]
def mX:List Ask→Int
 | []=>0
 | a::l=>if a.ok=true then mX l else a.err
theorem FM:∀ {l:List Ask} {k:Nat} {a:Ask},(∀ x∈l.take k,x.ok=true)→l[k]?=some a→a.ok=false→mX l=a.err
 | [],k,a,_,h,_=>by simp at h
 | x::l,0,a,_,h,hb=>by
  simp at h;subst h;unfold mX;rw [hb];rfl
 | x::l,k+1,a,hp,h,hb=>by
  have hx:=hp x (by simp);unfold mX;rw [if_pos hx];exact FM (k:=k) (fun y hy=>hp y (by rw [abq];exact aa8 _ hy)) (by simpa using h) hb
theorem Ik:∀ {l:List Ask},(∀ x∈l,x.ok=true)→mX l=0
 | [],_=>rfl
 | x::l,h=>by
  unfold mX;rw [if_pos (h x (by simp))];exact Ik (fun y hy=>h y (aa8 _ hy))
def ui (l:List Ask) (w:World) (r:Ending) (w':World):Prop :=
 Below w.heap.size w w'∧(((∀ x∈l,x.ok=true)∧r = .returned (.tuple #[]))∨((∃ x∈l,x.ok=false)∧r = .panicked [{ v := .iface 42 (.int .i64 (mX l)),recovered:=false }]))
theorem Il {l:List Ask} {k:Nat} {a:Ask} (h:∀ x∈l.take k,x.ok=true) (ha:l[k]?=some a) (hb:a.ok=true):∀ x∈l.take (k+1),x.ok=true:=by
 obtain ⟨hk,e⟩:=aag.1 ha;intro x hx;rw [aaB hk] at hx;rcases aaL.1 hx with hx | hx
 ·exact h x hx
 ·obtain rfl:x=l[k]:=by simpa using hx
  rw [e];exact hb
theorem wW (A:Option Addr) (c:Nat) (l:List Ask) (W:World) (hA:Rd W W.heap.size 2 A l.length (l.flatMap Ask.cl)) (hn:l.length≤1000)
  (hq:∀ k a,l[k]?=some a→(∀ x∈l.take k,x.ok=true)→∀ w',Below W.heap.size W w'→Calls prog a.f a.cap w' (Ret (.bool a.ok) w'))
  (hen:∀ a∈l,∀ args w,(callFunc a.f args).run prog w = .ok (.enter a.f args) w) :
  Calls prog 52 #[.slice A l.length c] W (ui l W):=by
 replace hq:=aab hq;replace hen:=aab hen;go_enter func52,ntmps52;go_wp2_with fail;go_loopw [6] (fun i wr=>∃ k:Nat,k≤l.length∧i = .int .i64 k∧Below W.heap.size W wr∧Hid (∀ x∈l.take k,x.ok=true)) (fun i _=>l.length - (intOf i).toNat)
 case atStart=>exact ⟨0,aao _,rfl,aj W,aab (by simp)⟩
 case round =>
  obtain ⟨k,hkn,rfl,hb,hp⟩:=hrel;by_cases hlt:k<l.length
  ·obtain ⟨a,ha⟩:∃ a,l[k]?=some a:=⟨_,aac hlt⟩
   obtain ⟨b,off,rfl,hbb,hc⟩:=(hA.below hb).2 (by omega);have hcl:∀ j,j<2→(l.flatMap Ask.cl)[k*2+j]?=a.cl[j]?:=fun j hj=>jh l k j a (fun _ _=>rfl) ha hj;have c0:wr.cell? ⟨b,off+k*2,none⟩=some (.func (.func a.f) #[] a.cap):=hc (k*2) _ (hcl 0 (by omega));have c1:wr.cell? ⟨b,off+k*2+1,none⟩=some (.int .i64 a.err):=(by rw [aay];exact hc (k*2+1) _ (hcl 1 (by omega)));have q:=hq.out k a ha hp.out;have he:=hen.out a (aam ha);have h1:Hid (a.ok=true→∀ x∈l.take (k+1),x.ok=true):=aab (Il hp.out ha);have h2:Hid (a.ok=false→mX l=a.err∧∃ x∈l,x.ok=false):=aab (fun h=>⟨FM hp.out ha h,a,aam ha,h⟩);obtain ⟨f,cap,ok,err⟩:=a;dsimp only at c0 c1 q he h1 h2;clear hc hcl ha;have hbn:=bAl hb (.cells #[.func (.func f) #[] cap,.int .i64 err] 110);have BC:=Blk.new wr 110 #[.func (.func f) #[] cap,.int .i64 err] _ rfl;go_wp2_with fail;refine (q _ hbn).mono ?_;rintro e w2 ⟨rfl,b2⟩;have c3:w2.cell? ⟨wr.heap.size,1,none⟩=some (.int .i64 err):=(BC.below b2 BC.lt).cell 1;have hb2:=ah hbn b2;clear q he;cases ok
   ·obtain ⟨h3,h4⟩:=h2.out rfl
    go_wp2_with fail;exact ⟨rfl,hb2,.inr ⟨h4,by rw [h3]⟩⟩
   ·have hp2:=aab (h1.out rfl)
    go_wp2_with fail;exact ⟨⟨k+1,by omega,by go_num,hb2,hp2⟩,by simp [intOf];omega⟩
  ·obtain rfl:k=l.length:=by omega
   rw [abk] at hp;go_wp2_with fail;go_end0;exact ⟨hb,.inl ⟨hp.out,rfl⟩⟩
end
section
open Go.RowKit
inductive Nb where
 | int (n:Int)
 | txt (A:Option Addr) (c:Nat) (d:List Nat)
def Nb.val:Nb→Value
 | .int n => .iface 3 (.int .i64 n)
 | .txt A c d => .iface 83 (.slice A d.length c)
def Nb.it:Nb→It
 | .int n => .int n
 | .txt _ _ d => .text (dgS d)
def Nb.ok (w:World) (B:Nat):Nb→Prop
 | .int n=>inI n
 | .txt A _ d=>Rd w B 1 A d.length (ag d)∧okB d∧0<d.length∧d.length≤1000000
theorem sH (d:List Nat):(dgS d).size=d.length:=by simp [dgS,dgB,ByteArray.size]
theorem Nb.it_ok {w:World} {B:Nat} {x:Nb} (h:x.ok w B):x.it.ok:=by
 cases x with
 | int n=>exact h
 | txt A c d=>show (dgS d).size≤1000000;rw [sH];exact h.2.2.2
theorem wX {w:World} {B c:Nat} {A:Option Addr} {d:List Nat} (h:Rd w B 1 A d.length (ag d)) (h0:0<d.length) (ho:okB d):(convert 83 9 (.slice A d.length c)).run prog w = .ok (.string (dgS d)) w:=by
 obtain ⟨b,off,rfl,_,hc⟩:=h.2 h0
 have:=run_convert_bytes_back (P:=prog) w 83 9 5 ⟨b,off,none⟩ c (dgB d) underlying83 underlying5 underlying9 (fun j hj=>by
  have hj':j<d.length:=by simpa [dgB] using hj
  rw [dX,JU ho j hj];refine hc j _ ?_;simp [ag,hj'])
 rw [show (dgB d).length=d.length by simp [dgB]] at this;exact this
theorem Kv (A:Option Addr) (n c:Nat) (w:World):(Instr.typeAssert (.iface 83 (.slice A n c)) 20 3 true).run prog w = .ok (.tuple #[.int .i64 0,.bool false]) w:=by kernel_rfl
theorem Io (A:Option Addr) (n c:Nat) (w:World):(Instr.typeAssert (.iface 83 (.slice A n c)) 20 83 true).run prog w = .ok (.tuple #[.slice A n c,.bool true]) w:=by kernel_rfl
theorem Ns (A:Option Addr) (n c:Nat) (l:List Nb) (W:World) (hA:Rd W W.heap.size 1 A n (l.map Nb.val)) (hok:∀ x∈l,x.ok W W.heap.size) (hn:n≤100) :
  Calls prog 175 #[.slice A n c] W (kL 1 (bZ (l.map Nb.it)).length (ag (bZ (l.map Nb.it))) W):=by
 obtain rfl:l.length=n:=by have:=hA.1;rw [aaQ,aaA] at this;exact this
 go_enter func175,ntmps175;go_wp2_with fail;have BV:=Blk.new W 169 #[.int .i64 3,.int .i64 0,.string ⟨#[]⟩,.slice none 0 0] _ rfl;have hb:=bAl (aj W) (.cells #[.int .i64 3,.int .i64 0,.string ⟨#[]⟩,.slice none 0 0] 169);generalize W.alloc (.cells #[.int .i64 3,.int .i64 0,.string ⟨#[]⟩,.slice none 0 0] 169)=w1 at *;go_loopw [13] (fun i wr=>∃ (k:Nat) (v:Value),k≤l.length∧i = .int .i64 k∧Below W.heap.size W wr∧Blk wr W.heap.size 169 #[.int .i64 3,.int .i64 0,.string ⟨#[]⟩,v]∧wr.ownsRow (W.heap.size+1) 169 4 v k (((l.take k).map Nb.it).flatMap It.cells)) (fun i _=>l.length - (intOf i).toNat)
 case atStart=>exact ⟨0,_,aao _,rfl,hb,BV,World.ownsRow_nil _ _ _ _⟩
 case round =>
  clear hb BV;obtain ⟨k,v,hk,rfl,hb,BV,hown⟩:=hrel;have c3:wr.cell? ⟨W.heap.size,3,none⟩=some v:=BV.cell 3;have z3:=BV.frozen 3;by_cases hlt:k<l.length
  ·obtain ⟨x,hx⟩:∃ x,Hid (l[k]?=some x):=⟨_,aab (aac hlt)⟩
   obtain ⟨b,off,rfl,hbb,hc⟩:=(hA.below hb).2 (by omega);have d0:wr.cell? ⟨b,off+k,none⟩=some x.val:=hc k _ (by rw [aaD,hx.out];rfl);clear hc
   have hsn:Hid (((l.take (k+1)).map Nb.it).flatMap It.cells=((l.take k).map Nb.it).flatMap It.cells++x.it.cells):=by
    obtain ⟨hk,rfl⟩:=aag.1 hx.out;show _=_;rw [aaB hk,aaT,aaP];simp
   have hbs:W.heap.size+1≤wr.heap.size:=BV.lt;have h63:k+1≤maxLen:=(by unfold maxLen;omega);have hby:(k+1)*56≤140737488355328:=(by omega);have hxok:=hok x (aam hx.out);have hone:=xY x.it;cases x with
   | int m =>
    have ta:=assert_int m;change wr.cell? ⟨b,off+k,none⟩=some (.iface 3 (.int .i64 m)) at d0;go_wp2_with (at_builtin;refine aO wr [.int .i64 1,.int .i64 m,.string ⟨#[]⟩,.slice none 0 0] (.tmp 22) (.tmp 25) 167 (W.heap.size+1) 169 (.agg #[.int .i64 0,.int .i64 0,.string ⟨#[]⟩,.slice none 0 0]) 4 56 v k (((l.take k).map Nb.it).flatMap It.cells) rfl rfl underlying167 gB rfl (by omega) rfl hown rfl rfl hone h63 hby hbs ?_;intro v' w' hown4 hg4;obtain ⟨g',cap',rfl⟩:=ownsRow_succ hown4;have b4:=hg4.below hown hbs;have BV4:=BV.below b4 (by omega);have c4:=kV BV4;have z4:=BV4.frozen 3)
    exact ⟨⟨k+1,_,by omega,by go_num,zQ7 (hb.trans (b4.mono (by omega))) (aad _) _,BV4.set_ 3 _,by rw [hsn.out];exact gX hown4 (p:=⟨W.heap.size,3,none⟩) (by show W.heap.size<W.heap.size+1;omega) _⟩,by simp [intOf];omega⟩
   | txt Ad cd d =>
    have ta:=Kv Ad d.length cd;have tb:=Io Ad d.length cd;have cv:=wX (c:=cd) (hxok.1.below hb) hxok.2.2.1 hxok.2.1;change wr.cell? ⟨b,off+k,none⟩=some (.iface 83 (.slice Ad d.length cd)) at d0;go_wp2_with (at_builtin;refine aO wr [.int .i64 2,.int .i64 0,.string (dgS d),.slice none 0 0] (.tmp 32) (.tmp 36) 167 (W.heap.size+1) 169 (.agg #[.int .i64 0,.int .i64 0,.string ⟨#[]⟩,.slice none 0 0]) 4 56 v k (((l.take k).map Nb.it).flatMap It.cells) rfl rfl underlying167 gB rfl (by omega) rfl hown rfl rfl hone h63 hby hbs ?_;intro v' w' hown4 hg4;obtain ⟨g',cap',rfl⟩:=ownsRow_succ hown4;have b4:=hg4.below hown hbs;have BV4:=BV.below b4 (by omega);have c4:=kV BV4;have z4:=BV4.frozen 3)
    exact ⟨⟨k+1,_,by omega,by go_num,zQ7 (hb.trans (b4.mono (by omega))) (aad _) _,BV4.set_ 3 _,by rw [hsn.out];exact gX hown4 (p:=⟨W.heap.size,3,none⟩) (by show W.heap.size<W.heap.size+1;omega) _⟩,by simp [intOf];omega⟩
  ·have hkn:k=l.length:=by omega
   rw [hkn,abk] at hown;clear hkn;obtain ⟨A2,c2,hv,hR,_⟩:=Sl.of_own hown;subst hv;have e0:wr.cell? ⟨W.heap.size,0,none⟩=some (.int .i64 3):=BV.cell 0;have e1:wr.cell? ⟨W.heap.size,1,none⟩=some (.int .i64 0):=BV.cell 1;have e2:wr.cell? ⟨W.heap.size,2,none⟩=some (.string ⟨#[]⟩):=BV.cell 2
   have q:=lX A2 l.length c2 (l.map Nb.it) wr hR (by
    intro x hx;obtain ⟨y,hy,rfl⟩:=aaK.1 hx;exact Nb.it_ok (hok y hy)) (by omega)
   unfold gJ at q;go_wp2_with fail
   with_reducible refine q.mono ?_
   rintro e w5 ⟨v,rfl,b5,hv⟩;have hb5:=ah hb b5;go_wp2_with fail;go_ret;exact ⟨_,rfl,hb5,hv⟩
theorem wY (a n:Int) (W:World):Calls prog 176 #[.int .i64 a,.int .i64 n] W (Ret (.int .i64 (aJ a n)) W):=by
 have q:=pJ a n W;generalize aJ a n=v at *;generalize zC a=e at *;go_enter func176,ntmps176;go_wp2_with fail;refine q.mono ?_;rintro r w' ⟨rfl,b'⟩;go_wp2_with fail;go_ret;exact ⟨rfl,b'⟩
theorem UW {E S:Int} (h:(lZ E&&lZ S)=false):(E<0∨S<0)∨(1073741789≤E∨1073741789≤S):=by
 unfold lZ at h;rw [←Bool.decide_and,decide_eq_false_iff_not] at h;omega
theorem RQ {E S:Int} (h:(lZ E&&lZ S)=true):(0≤E∧0≤S)∧(E<1073741789∧S<1073741789):=by
 unfold lZ at h;rw [←Bool.decide_and,decide_eq_true_iff] at h;omega
theorem Wp {key:Int} {b:List Nat} {E S:Int} (h:(lZ E&&lZ S)=false):sgB key b E S=false:=by
 unfold sgB;rw [h];simp
theorem UX {key:Int} {b:List Nat} {E S:Int} (h:aA key=false):sgB key b E S=false:=by
 unfold sgB;rw [h];simp
theorem UY {key:Int} {b:List Nat} {E S:Int} (h:(lZ E&&lZ S)=true) (hk:aA key=true):sgB key b E S=decide (E=(sgV (ptV key E S) key b:Nat)):=by
 unfold sgB;rw [h,hk];simp
theorem pair_cells {w:World} {g:Nat} {t:TypeId} {E S:Int} (h:Blk w g t #[.int .i64 E,.int .i64 S]):w.cell? ⟨g,0,none⟩=some (.int .i64 E)∧w.cell? ⟨g,1,none⟩=some (.int .i64 S):=⟨h.cell 0,h.cell 1⟩
theorem Pv (key:Int) (A:Option Addr) (c:Nat) (b:List Nat) (E S:Int) (W:World) (ik:inI key) (hA:Rd W W.heap.size 1 A b.length (ag b)) (hob:okB b) (h0:0<b.length) (hlen:b.length≤1000000) (hG:ShaG W) :
  Calls prog 112 #[.int .i64 key,.slice A b.length c,.agg #[.int .i64 E,.int .i64 S]] W (Ret (.bool (sgB key b E S)) W):=by
 have BE:=Blk.new W 31 #[.int .i64 E,.int .i64 S] _ rfl;have hb:=bAl (aj W) (.cells #[.int .i64 E,.int .i64 S] 31);obtain ⟨m,hm⟩:∃ m,(if S<E then S else E)=m:=⟨_,rfl⟩
 obtain ⟨M,hM⟩:∃ M,(if S > E then S else E)=M:=⟨_,rfl⟩
 have hM2:(if E<S then S else E)=M:=hM;cases ho:lZ E&&lZ S with
 | false =>
  rw [Wp ho];have h:=UW ho;clear ho;obtain ⟨c0,c1⟩:=pair_cells BE;clear BE;by_cases h1:m<0
  ·clear h
   go_enter func112,ntmps112;go_wp2_with fail;go_ret;exact ⟨rfl,hb⟩
  ·have h2:1073741789≤M:=by
    rw [←hM2];rw [←hm] at h1
    split at h1 <;> split <;> omega
   clear h;go_enter func112,ntmps112;go_wp2_with fail;go_ret;exact ⟨rfl,hb⟩
 | true =>
  obtain ⟨⟨e1,e2⟩,e3,e4⟩:=RQ ho;have h1:¬m<0:=by rw [←hm];split <;> omega
  have h2:¬1073741789≤M:=by rw [←hM2];split <;> omega
  have q1:=bU key (W.alloc (.cells #[.int .i64 E,.int .i64 S] 31));cases hk:aA key with
  | false =>
   rw [hk] at q1;rw [UX hk];clear ho hk;obtain ⟨c0,c1⟩:=pair_cells BE;clear BE;go_enter func112,ntmps112;go_wp2_with fail;refine q1.mono ?_;rintro e w1 ⟨rfl,rfl⟩;clear q1;go_wp2_with fail;go_ret;exact ⟨rfl,hb⟩
  | true =>
   rw [hk] at q1;rw [UY ho hk];clear ho hk;obtain ⟨p1,hp1⟩:∃ p,aJ 4 S=p:=⟨_,rfl⟩
   obtain ⟨p2,hp2⟩:∃ p,aJ key (-E)=p:=⟨_,rfl⟩
   obtain ⟨P,hP⟩:∃ P,oz p1 p2=P:=⟨_,rfl⟩
   obtain ⟨Pe,hPe⟩:∃ P,qQ p1 p2=P:=⟨_,rfl⟩
   obtain ⟨C,hC⟩:∃ C,sgV P key b=C:=⟨_,rfl⟩
   have hv:sgV (ptV key E S) key b=C:=(by unfold ptV;rw [hp1,hp2,hP,hC]);rw [hv];have iP:inI P:=(by have:=ML p1 p2;rw [hP] at this;exact ⟨by omega,by omega⟩);have qa:Hid (∀ w,Calls prog 176 #[.int .i64 4,.int .i64 S] w (Ret (.int .i64 p1) w)):=aab (fun w=>by rw [←hp1];exact wY 4 S w);have qb:Hid (∀ w,Calls prog 176 #[.int .i64 key,.int .i64 (-E)] w (Ret (.int .i64 p2) w)):=aab (fun w=>by rw [←hp2];exact wY key (-E) w);have qc:Hid (∀ w,Calls prog 130 #[.int .i64 p1,.int .i64 p2] w (Same (.tuple #[.int .i64 P,.int .i64 Pe]) w)):=aab (fun w=>by rw [←hP,←hPe];exact xX p1 p2 w);have hneg:Hid (IntKind.i64.wrap (-E) = -E):=by show _=_;rw [IntKind.wrap_i64];omega
   have hl:(bZ [It.int P,.int key,.text (dgS b)]).length≤1000012012:=jZ (by
    intro x hx;simp only [aaq,aaw,or_false] at hx;rcases hx with rfl | rfl | rfl
    ·exact iP
    ·exact ik
    ·show (dgS b).size≤1000000;rw [sH];exact hlen) (by simp)
   have hoE:=iI [It.int P,.int key,.text (dgS b)]
   have qd:Hid (∀ w:World,Below W.heap.size W w→Calls prog 175 #[.slice (some ⟨w.heap.size,0,none⟩) 3 3] (w.alloc (.cells #[.iface 3 (.int .i64 P),.iface 3 (.int .i64 key),.iface 83 (.slice A b.length c)] 20)).drew (kL 1 (bZ [It.int P,.int key,.text (dgS b)]).length (ag (bZ [It.int P,.int key,.text (dgS b)])) (w.alloc (.cells #[.iface 3 (.int .i64 P),.iface 3 (.int .i64 key),.iface 83 (.slice A b.length c)] 20)).drew)):=aab (fun w hw=>by
    refine Ns (some ⟨w.heap.size,0,none⟩) 3 3 [.int P,.int key,.txt A c b] (w.drew.alloc (.cells ([Nb.int P,.int key,.txt A c b].map Nb.val).toArray 20)) (Rd.new w.drew _ _ 1 3 _ rfl rfl) ?_ (by omega);intro x hx;simp only [aaq,aaw,or_false] at hx;rcases hx with rfl | rfl | rfl
    ·exact iP
    ·exact ik
    ·refine ⟨((hA.below hw).more hw.size).below (bAl (bDr (aj _)) _) |>.more ?_,hob,h0,hlen⟩
     simp)
   have hC2:qV (sb sgS) (bZ [It.int P,.int key,.text (dgS b)])=C:=hC;clear hv hC hp1 hp2 hP hPe iP ik h0 hlen;generalize bZ [It.int P,.int key,.text (dgS b)]=En at *
   have qe:Hid (∀ (A:Option Addr) (c:Nat) (w:World),Rd w w.heap.size 1 A En.length (ag En)→(A=none→En.length=0∧c=0)→ShaG w→Calls prog 174 #[.string ⟨#[115,105,103,110]⟩,.slice A En.length c] w (Ret (.int .i64 (C:Nat)) w)):=aab (fun A c w hR hn hGw=>by
    rw [←hC2];exact qX sgS A En.length c En w hR hn hoE (by decide) (aaj hl (by decide)) hGw)
   clear hl hoE hC2 hA hob;obtain ⟨c0,c1⟩:=pair_cells BE;go_enter func112,ntmps112;go_wp2_with fail;refine q1.mono ?_;rintro e w1 ⟨rfl,rfl⟩;clear q1;go_upto_region 3 with fail;clear c0 c1;generalize W.alloc (.cells #[.int .i64 E,.int .i64 S] 31)=w1 at *;have KS:Hid (∀ w',Below w1.heap.size w1 w'→w'.cell? ⟨W.heap.size,0,none⟩=some (.int .i64 E)∧w'.cell? ⟨W.heap.size,1,none⟩=some (.int .i64 S)):=aab (fun w' h=>pair_cells (BE.below h BE.lt));refine aK (f:=12) KS [(0,1),(1,2),(3,1),(4,1),(5,2),(6,1),(2,0),(7,0),(8,0),(9,1),(10,1),(11,1),(12,3),(13,3)] ?_;simp only [bf,aap,aar];refine ak ?_;refine ax ?_
   iterate 2 refine ak ?_
   refine ax ?_;refine ak ?_;refine au (fun K hK=>?_);go_simp;(first | (go_at_call 176;(with_reducible refine (qa.out _).mono ?_);rintro e w3 ⟨rfl,b3⟩;have B3:Below w1.heap.size w1 w3:=ah (by repeat (first | with_reducible exact aj _ | with_reducible refine bDr ?_ | with_reducible refine bAl ?_ _)) b3) | (go_at_call 176;(try rw [hneg.out]);(with_reducible refine (qb.out _).mono ?_);rintro e w4 ⟨rfl,b4⟩;have B4:Below w1.heap.size w1 w4:=ah (by repeat (first | with_reducible exact B3 | with_reducible refine bDr ?_ | with_reducible refine bAl ?_ _)) b4) | (go_at_call 130;(with_reducible refine (qc.out _).mono ?_);rintro e w5 ⟨rfl,rfl⟩) | skip);refine aH hK KS ?_;clear hK K;refine au (fun K hK=>?_);go_simp;(first | (go_at_call 176;(with_reducible refine (qa.out _).mono ?_);rintro e w3 ⟨rfl,b3⟩;have B3:Below w1.heap.size w1 w3:=ah (by repeat (first | with_reducible exact aj _ | with_reducible refine bDr ?_ | with_reducible refine bAl ?_ _)) b3) | (go_at_call 176;(try rw [hneg.out]);(with_reducible refine (qb.out _).mono ?_);rintro e w4 ⟨rfl,b4⟩;have B4:Below w1.heap.size w1 w4:=ah (by repeat (first | with_reducible exact B3 | with_reducible refine bDr ?_ | with_reducible refine bAl ?_ _)) b4) | (go_at_call 130;(with_reducible refine (qc.out _).mono ?_);rintro e w5 ⟨rfl,rfl⟩) | skip);refine aH hK KS ?_;clear hK K;refine au (fun K hK=>?_);go_simp;(first | (go_at_call 176;(with_reducible refine (qa.out _).mono ?_);rintro e w3 ⟨rfl,b3⟩;have B3:Below w1.heap.size w1 w3:=ah (by repeat (first | with_reducible exact aj _ | with_reducible refine bDr ?_ | with_reducible refine bAl ?_ _)) b3) | (go_at_call 176;(try rw [hneg.out]);(with_reducible refine (qb.out _).mono ?_);rintro e w4 ⟨rfl,b4⟩;have B4:Below w1.heap.size w1 w4:=ah (by repeat (first | with_reducible exact B3 | with_reducible refine bDr ?_ | with_reducible refine bAl ?_ _)) b4) | (go_at_call 130;(with_reducible refine (qc.out _).mono ?_);rintro e w5 ⟨rfl,rfl⟩) | skip)
   refine aH hK KS ?_;clear hK K
   iterate 3 refine ak ?_
   refine aN ?_
   first | simp only [aak] | simp only [aat,aak]
   go_wp2_with fail;refine NoPanic.normal ?_;go_upto_region 4 with fail;have BE4:=BE.below B4 BE.lt;have hb4:=ah hb B4;have hG4:=hG.below hb4;have hw4:Below W.heap.size W w4:=hb4;clear KS qa qb qc hneg b3 b4 B3 B4 hb BE hG;have KT:Hid (∀ w',Below w4.heap.size w4 w'→w'.cell? ⟨W.heap.size,0,none⟩=some (.int .i64 E)):=aab (fun w' h=>(BE4.below h BE4.lt).cell 0);refine aK (f:=12) KT [(0,1),(1,2),(2,1),(3,1),(4,1),(5,1),(6,1),(7,1),(8,0),(9,0),(10,0),(11,1),(12,3)] ?_;simp only [bf,aap,aar];refine ak ?_;refine ax ?_
   iterate 6 refine ak ?_
   refine au (fun K hK=>?_);go_simp;(first | (go_at_call 175;(with_reducible refine (qd.out _ (by repeat (first | with_reducible exact hw4 | with_reducible refine bDr ?_ | with_reducible refine bAl ?_ _))).mono ?_);rintro e w5 ⟨v5,rfl,b5,A5,c5,rfl,hR5,_,_,hn5⟩;have B5:Below w4.heap.size w4 w5:=ah (by repeat (first | with_reducible exact aj _ | with_reducible refine bDr ?_ | with_reducible refine bAl ?_ _)) b5;have hG5:=hG4.below B5) | (go_at_call 174;(with_reducible refine (qe.out _ _ _ hR5 hn5 hG5).mono ?_);rintro e w6 ⟨rfl,b6⟩;have B6:Below w4.heap.size w4 w6:=ah B5 b6) | skip);refine aH hK KT ?_;clear hK K;refine au (fun K hK=>?_);go_simp;(first | (go_at_call 175;(with_reducible refine (qd.out _ (by repeat (first | with_reducible exact hw4 | with_reducible refine bDr ?_ | with_reducible refine bAl ?_ _))).mono ?_);rintro e w5 ⟨v5,rfl,b5,A5,c5,rfl,hR5,_,_,hn5⟩;have B5:Below w4.heap.size w4 w5:=ah (by repeat (first | with_reducible exact aj _ | with_reducible refine bDr ?_ | with_reducible refine bAl ?_ _)) b5;have hG5:=hG4.below B5) | (go_at_call 174;(with_reducible refine (qe.out _ _ _ hR5 hn5 hG5).mono ?_);rintro e w6 ⟨rfl,b6⟩;have B6:Below w4.heap.size w4 w6:=ah B5 b6) | skip);refine aH hK KT ?_;clear hK K;refine au (fun K hK=>?_);go_simp;(first | (go_at_call 175;(with_reducible refine (qd.out _ (by repeat (first | with_reducible exact hw4 | with_reducible refine bDr ?_ | with_reducible refine bAl ?_ _))).mono ?_);rintro e w5 ⟨v5,rfl,b5,A5,c5,rfl,hR5,_,_,hn5⟩;have B5:Below w4.heap.size w4 w5:=ah (by repeat (first | with_reducible exact aj _ | with_reducible refine bDr ?_ | with_reducible refine bAl ?_ _)) b5;have hG5:=hG4.below B5) | (go_at_call 174;(with_reducible refine (qe.out _ _ _ hR5 hn5 hG5).mono ?_);rintro e w6 ⟨rfl,b6⟩;have B6:Below w4.heap.size w4 w6:=ah B5 b6) | skip)
   refine aH hK KT ?_;clear hK K;refine ak ?_;refine aN ?_
   first | simp only [aak] | simp only [aat,aak]
   go_wp2_with fail;refine NoPanic.normal ?_;go_wp2_with fail;go_ret;exact ⟨rfl,ah hb4 B6⟩
end
section
open Go Go.RowKit
theorem zg {w:World} {B n c:Nat} {A:Option Addr} {d:List Nat} (h:Rd w B 1 A d.length (ag d)) (hn:d.length=n) (ho:okB d):(convert 83 9 (.slice A n c)).run prog w = .ok (.string (fQ d)) w:=by
 subst hn;by_cases h0:0<d.length
 ·exact wX h h0 ho
 ·have hd:d=[]:=abo.1 (by omega)
  subst hd;cases A with
  | none=>simp [convert,run_underlying underlying83,run_underlying underlying9,run_underlying underlying5,go_sem];rfl
  | some p =>
   exact run_convert_bytes_back (P:=prog) w 83 9 5 p c [] underlying83 underlying5 underlying9 (fun j hj=>by simp at hj)
theorem fZ:(prog.info? 169).map (·.size)=some 4:=by kernel_rfl
theorem og (a b c d:Value) (h1:a.oneCell'=true:=by rfl) (h2:b.oneCell'=true:=by rfl) (h3:c.oneCell'=true:=by rfl) (h4:d.oneCell'=true:=by rfl):∀ v∈(#[a,b,c,d]:Array Value).toList,v.oneCell'=true:=by
 intro v hv;simp only [aaq,aaw,or_false] at hv;rcases hv with rfl | rfl | rfl | rfl <;> assumption
theorem lN (x:Int) (W:World):Calls prog 120 #[.int .i64 x] W (Ret (.agg #[.int .i64 1,.int .i64 x,.string ⟨#[]⟩,.slice none 0 0]) W):=by
 go_enter func120,ntmps120;go_upto_region 1 with fail;apply wp_region_lit
 iterate 6 go_step
 refine aG (by rfl) (by rfl) (by rfl) (by rfl) (bP (X:=#[.int .i64 1,.int .i64 x,.string ⟨#[]⟩,.slice none 0 0]) fZ rfl (og _ _ _ _)) ?_;simp only [Act.put];have BX:=Blk.new W 169 #[.int .i64 1,.int .i64 x,.string ⟨#[]⟩,.slice none 0 0] _ rfl;have hb:=bAl (aj W) (.cells #[.int .i64 1,.int .i64 x,.string ⟨#[]⟩,.slice none 0 0] 169);generalize W.alloc (.cells #[.int .i64 1,.int .i64 x,.string ⟨#[]⟩,.slice none 0 0] 169)=w2 at *;go_wp2_with fail;exact bodyPost_ret (v := .agg #[.int .i64 1,.int .i64 x,.string ⟨#[]⟩,.slice none 0 0]) (results_cell_row rfl _ _ W.heap.size 169 _ (0,0) _ rfl BX underlying169 rfl fZ) rfl ⟨rfl,hb⟩
theorem qK (A:Option Addr) (n c:Nat) (W:World):Calls prog 119 #[.slice A n c] W (Ret (.agg #[.int .i64 3,.int .i64 0,.string ⟨#[]⟩,.slice A n c]) W):=by
 go_enter func119,ntmps119;go_upto_region 1 with fail;apply wp_region_lit
 iterate 6 go_step
 refine aG (by rfl) (by rfl) (by rfl) (by rfl) (bP (X:=#[.int .i64 3,.int .i64 0,.string ⟨#[]⟩,.slice A n c]) fZ rfl (og _ _ _ _)) ?_;simp only [Act.put];have BX:=Blk.new W 169 #[.int .i64 3,.int .i64 0,.string ⟨#[]⟩,.slice A n c] _ rfl;have hb:=bAl (aj W) (.cells #[.int .i64 3,.int .i64 0,.string ⟨#[]⟩,.slice A n c] 169);generalize W.alloc (.cells #[.int .i64 3,.int .i64 0,.string ⟨#[]⟩,.slice A n c] 169)=w2 at *;go_wp2_with fail;exact bodyPost_ret (v := .agg #[.int .i64 3,.int .i64 0,.string ⟨#[]⟩,.slice A n c]) (results_cell_row rfl _ _ W.heap.size 169 _ (0,0) _ rfl BX underlying169 rfl fZ) rfl ⟨rfl,hb⟩
theorem Nu (A:Option Addr) (n c:Nat) (d:List Nat) (W:World) (hA:Rd W W.heap.size 1 A d.length (ag d)) (hn:d.length=n) (ho:okB d):Calls prog 121 #[.slice A n c] W (Ret (.agg #[.int .i64 2,.int .i64 0,.string (fQ d),.slice none 0 0]) W):=by
 have cv:=zg (c:=c) (hA.alloc (aad _) (.cells #[.int .i64 0,.int .i64 0,.string ⟨#[]⟩,.slice none 0 0] 169)) hn ho;go_enter func121,ntmps121;go_upto_region 1 with fail;apply wp_region_lit
 iterate 9 go_step
 refine aG (by rfl) (by rfl) (by rfl) (by rfl) (bP (X:=#[.int .i64 2,.int .i64 0,.string (fQ d),.slice none 0 0]) fZ rfl (og _ _ _ _)) ?_;simp only [Act.put];have BX:=Blk.new W 169 #[.int .i64 2,.int .i64 0,.string (fQ d),.slice none 0 0] _ rfl;have hb:=bAl (aj W) (.cells #[.int .i64 2,.int .i64 0,.string (fQ d),.slice none 0 0] 169);generalize W.alloc (.cells #[.int .i64 2,.int .i64 0,.string (fQ d),.slice none 0 0] 169)=w2 at *;go_wp2_with fail;exact bodyPost_ret (v := .agg #[.int .i64 2,.int .i64 0,.string (fQ d),.slice none 0 0]) (results_cell_row rfl _ _ W.heap.size 169 _ (0,0) _ rfl BX underlying169 rfl fZ) rfl ⟨rfl,hb⟩
theorem Lnk.one (x:Lnk) (v:Value) (hv:v.oneCell'=true):∀ u∈x.cl v,u.oneCell'=true:=by
 intro u hu;unfold Lnk.cl at hu;simp only [aaL,aaq,aaw,or_false] at hu;rcases hu with (rfl | rfl) | h | rfl
 ·rfl
 ·rfl
 ·exact aZ u h
 ·exact hv
theorem Lnk.its_ok (x:Lnk) (h:x.ok):∀ i∈x.its,i.ok:=by
 obtain ⟨h1,h2,h3,h4,h5⟩:=h;intro i hi;simp only [Lnk.its,aaq,aaw,or_false] at hi;rcases hi with rfl | rfl | rfl | rfl
 ·exact h1
 ·exact h2
 ·show (fQ x.prev).size≤1000000
  have:(fQ x.prev).size=x.prev.length:=by unfold fQ;show (List.toArray _).size=_;simp
  rw [this,h3.1];omega
 ·show (fQ x.data).size≤1000000
  have:(fQ x.data).size=x.data.length:=by unfold fQ;show (List.toArray _).size=_;simp
  rw [this];exact h5
theorem gu:(prog.info? 85).map (·.size)=some 35:=by kernel_rfl
theorem Nv (A:Option Addr) (c:Nat) (l:List Lnk) (vs:List Value) (W:World) (hA:LksAt W W.heap.size A l vs) (hn:l.length≤1000000) (hG:ShaG W):Calls prog 37 #[.slice A l.length c] W (Ret (dig (fV l)) W):=by
 have BD:Blk (W.alloc (.cells (ag (aF 32)).toArray 29)) W.heap.size 29 (ag (aF 32)).toArray:=Blk.new W _ _ _ rfl;have hb:=bAl (aj W) (.cells (ag (aF 32)).toArray 29);go_enter func37,ntmps37;go_upto_region 1 with fail;change Code.wp _ _ _ _ (W.alloc (.cells (ag (aF 32)).toArray 29));generalize W.alloc (.cells (ag (aF 32)).toArray 29)=w1 at *;by_cases h0:l.length=0
 ·have hX:Hid (dig (fV l)=dig (dP (sb uA) [])):=by
   show _=_;rw [abo.1 h0];rfl
  have q:=lD uA none 0 0 [] w1 ⟨rfl,fun h=>absurd h (by omega)⟩ (fun _=>⟨rfl,rfl⟩) (fun x hx=>by cases hx) (by decide) (by omega) (hG.below hb);have hln:=dZ (sb uA) [];generalize dP (sb uA) []=X at *;unfold uA dig at q;go_upto_region 2 with fail;go_wp2_with fail;refine q.mono ?_;rintro e w2 ⟨rfl,b2⟩;have BD2:=BD.below b2 BD.lt;have hb2:=ah hb b2;dsimp only;go_step;refine wpList_store_row rfl 29 (.tmp 2) (.tmp 9) rfl W.heap.size (ag X).toArray rfl rfl 29 _ BD2 (by rw [aae,ai,hln];exact aW) (by rw [aae,aae,ai,ai,hln];rfl) (fK _) ?_;have hb9:=below_setRow hb2 (aad _) (ag X).toArray;have BD9:Blk (w2.setRow W.heap.size (ag X).toArray) W.heap.size 29 (ag X).toArray:=setRow_heap w2 W.heap.size _ _ 29 _ BD2;go_wp2_with fail;exact bodyPost_ret (v:=dig X) (results_cell_row rfl _ _ W.heap.size 29 _ (0,0) _ rfl BD9 bQ rfl (by rw [aae,ai,hln];exact aW)) rfl ⟨by rw [hX.out],hb9⟩
 ·obtain ⟨k,hk⟩:∃ k,l.length=k+1:=⟨l.length - 1,by omega⟩
  obtain ⟨x,hx⟩:∃ x,l[k]?=some x:=⟨_,aac (by omega)⟩
  obtain ⟨b,off,Ad,cd,rfl,hbb,hxo,hRd,hrg⟩:=hA.at_ hx
  have hX:Hid (dig (fV l)=dig (dP (sb rG) (bZ x.its))):=by
   show _=_;unfold fV
   have:l.getLast?=some x:=by rw [List.getLast?_eq_getElem?,hk];exact hx
   rw [this]
  have e0:¬((l.length:Int)=0):=by omega
  have e1:(l.length:Int) - 1=(k:Int):=by omega
  have ew:wrap64 (k:Int)=(k:Int):=by unfold wrap64;omega
  have i0:(0:Int)≤(k:Int):=by omega
  have i1:(k:Int)<(l.length:Int):=by omega
  have hxl:=Lnk.cl_length (v := .slice Ad x.data.length cd) hxo;have l0:=run_loadAt_mid (P:=prog) w1 b (off+k*35) 85 (x.cl (.slice Ad x.data.length cd)) _ (fun j u hj=>(hb.cell (p:=⟨b,off+k*35+j,none⟩) hbb).trans (hrg j u hj)) underlying85 rfl (by rw [hxl];exact gu);have hone:∀ v∈(x.cl (.slice Ad x.data.length cd)).toArray.toList,v.oneCell'=true:=by simpa using Lnk.one x _ rfl
  have hsz:(x.cl (.slice Ad x.data.length cd)).toArray.size=35:=by simpa using hxl
  obtain ⟨Y,hY⟩:∃ Y,(x.cl (.slice Ad x.data.length cd)).toArray=Y:=⟨_,rfl⟩
  rw [hY] at l0 hone hsz;replace hk:=aab hk;go_upto_region 3 with fail;apply wp_region_lit
  iterate 15 go_step
  refine aP (by rfl) (by rfl) (by rfl) l0 ?_;simp only [Act.put,aaf,aai,aah]
  iterate 3 go_step
  refine aG (by rfl) (by rfl) (by rfl) (by rfl) (bP (X:=Y) (by rw [hsz];exact gu) (by rw [hsz];rfl) hone) ?_;simp only [Act.put];obtain ⟨g3,hg3⟩:∃ g,g=w1.heap.size:=⟨_,rfl⟩
  have BY:=Blk.new w1 85 Y g3 hg3;replace BD:=BD.alloc (.cells Y 85);replace hb:=bAl hb (.cells Y 85);rw [←hg3];clear hg3 l0;generalize w1.alloc (.cells Y 85)=w3 at *;obtain ⟨x1,x2,x3,x4,x5⟩:=hxo;have hz3:=hb.size
  have hcY:Hid (∀ w',Blk w' g3 85 Y→(w'.cell? ⟨g3,0,none⟩=some (.int .i64 x.node)∧w'.cell? ⟨g3,1,none⟩=some (.int .i64 x.no)∧w'.cell? ⟨g3,34,none⟩=some (.slice Ad x.data.length cd))∧Rd w' w'.heap.size 1 (some ⟨g3,2,none⟩) x.prev.length (ag x.prev)):=aab (fun w' B=>by
   rw [←hY] at B;have hp:=x3.1;refine ⟨⟨B.cell 0,B.cell 1,(B.cell 34).trans ?_⟩,⟨by rw [ai,aaA],fun _=>⟨g3,2,rfl,B.lt,fun j u hu=>?_⟩⟩⟩
   ·rw [aaG]
    unfold Lnk.cl;rw [aaz (by simp),aaz (by simp [ai,hp])];simp [ai,hp]
   ·rw [B.cell,aaG]
    unfold Lnk.cl
    rw [aaz (by simp),aaO (by
     have:=(aag.1 hu).1
     simp at this ⊢;omega)]
    simpa using hu)
  have KS:Hid (∀ w',Below w3.heap.size w3 w'→(w'.cell? ⟨g3,0,none⟩=some (.int .i64 x.node)∧w'.cell? ⟨g3,1,none⟩=some (.int .i64 x.no)∧w'.cell? ⟨g3,34,none⟩=some (.slice Ad x.data.length cd))):=aab (fun w' h=>(hcY.out _ (BY.below h BY.lt)).1);have q1:Hid (∀ w',Below w3.heap.size w3 w'→Calls prog 121 #[.slice (some ⟨g3,2,none⟩) 32 32] w' (Ret (.agg #[.int .i64 2,.int .i64 0,.string (fQ x.prev),.slice none 0 0]) w')):=aab (fun w' h=>Nu _ _ _ _ w' (hcY.out _ (BY.below h BY.lt)).2 x3.1 x3.2);have q2:Hid (∀ w',Below w3.heap.size w3 w'→Calls prog 121 #[.slice Ad x.data.length cd] w' (Ret (.agg #[.int .i64 2,.int .i64 0,.string (fQ x.data),.slice none 0 0]) w')):=aab (fun w' h=>Nu _ _ _ _ w' ((hRd.below (ah hb h)).more (aaj hz3 h.size)) rfl x4);have q3:Hid (∀ A w',Rd w' w'.heap.size 4 A 4 (x.its.flatMap It.cells)→Calls prog 118 #[.agg #[.int .i64 3,.int .i64 0,.string ⟨#[]⟩,.slice A 4 4]] w' (fun r w''=>∃ v,r = .returned (.tuple #[v,.int .i64 0])∧Below w'.heap.size w' w''∧Sl w'' w''.heap.size 1 v (bZ x.its).length (ag (bZ x.its)))):=aab (fun A w' h=>lX A 4 4 x.its w' h (Lnk.its_ok x ⟨x1,x2,x3,x4,x5⟩) (by omega));have hln:=dZ (sb rG) (bZ x.its);have hel:Hid (okB (bZ x.its)∧(bZ x.its).length≤70368744177000):=aab ⟨iI _,aaj (jZ (Lnk.its_ok x ⟨x1,x2,x3,x4,x5⟩) (by simp [Lnk.its])) (by omega)⟩;go_upto_region 4 with fail;refine aK (f:=18) KS [(0,1),(1,2),(3,1),(4,2),(6,1),(7,1),(9,1),(10,2),(2,0),(5,0),(8,0),(11,0),(12,0),(13,0),(14,0),(15,1),(16,1),(17,1),(18,3),(19,3)] ?_;simp only [bf,aap,aar]
  refine ak ?_;refine ax ?_;refine ak ?_;refine ax ?_
  iterate 3 refine ak ?_
  refine ax ?_;refine au (fun K hK=>?_);go_simp;(first | (go_at_call 120;(with_reducible refine (lN _ _).mono ?_);rintro e w12 ⟨rfl,b12⟩;have B12:Below w3.heap.size w3 w12:=ah (by first | with_reducible assumption | with_reducible exact bDr (aj _)) b12) | (go_at_call 121;(with_reducible refine (q1.out _ (by first | with_reducible assumption | with_reducible exact bDr (aj _))).mono ?_);rintro e w12 ⟨rfl,b12⟩;have B12:Below w3.heap.size w3 w12:=ah (by first | with_reducible assumption | with_reducible exact bDr (aj _)) b12) | (go_at_call 121;(with_reducible refine (q2.out _ (by first | with_reducible assumption | with_reducible exact bDr (aj _))).mono ?_);rintro e w12 ⟨rfl,b12⟩;have B12:Below w3.heap.size w3 w12:=ah (by first | with_reducible assumption | with_reducible exact bDr (aj _)) b12) | (go_at_call 119;(with_reducible refine (qK _ _ _ _).mono ?_);rintro e w12 ⟨rfl,b12⟩;have B12:Below w3.heap.size w3 w12:=ah (bAl (by with_reducible assumption) _) b12;have R14:=(Rd.new _ [.int .i64 1,.int .i64 x.node,.string ⟨#[]⟩,.slice none 0 0,.int .i64 1,.int .i64 x.no,.string ⟨#[]⟩,.slice none 0 0,.int .i64 2,.int .i64 0,.string (fQ x.prev),.slice none 0 0,.int .i64 2,.int .i64 0,.string (fQ x.data),.slice none 0 0] 169 4 4 _ rfl rfl).below b12) | (go_at_call 118;(with_reducible refine (q3.out _ _ (R14.more b12.size)).mono ?_);rintro e w13 ⟨v5,rfl,b13,A5,c5,rfl,R5,_,_,N5⟩;have B13:Below w3.heap.size w3 w13:=ah B12 b13) | skip);refine aH hK KS ?_;clear hK K;refine au (fun K hK=>?_);go_simp;(first | (go_at_call 120;(with_reducible refine (lN _ _).mono ?_);rintro e w12 ⟨rfl,b12⟩;have B12:Below w3.heap.size w3 w12:=ah (by first | with_reducible assumption | with_reducible exact bDr (aj _)) b12) | (go_at_call 121;(with_reducible refine (q1.out _ (by first | with_reducible assumption | with_reducible exact bDr (aj _))).mono ?_);rintro e w12 ⟨rfl,b12⟩;have B12:Below w3.heap.size w3 w12:=ah (by first | with_reducible assumption | with_reducible exact bDr (aj _)) b12) | (go_at_call 121;(with_reducible refine (q2.out _ (by first | with_reducible assumption | with_reducible exact bDr (aj _))).mono ?_);rintro e w12 ⟨rfl,b12⟩;have B12:Below w3.heap.size w3 w12:=ah (by first | with_reducible assumption | with_reducible exact bDr (aj _)) b12) | (go_at_call 119;(with_reducible refine (qK _ _ _ _).mono ?_);rintro e w12 ⟨rfl,b12⟩;have B12:Below w3.heap.size w3 w12:=ah (bAl (by with_reducible assumption) _) b12;have R14:=(Rd.new _ [.int .i64 1,.int .i64 x.node,.string ⟨#[]⟩,.slice none 0 0,.int .i64 1,.int .i64 x.no,.string ⟨#[]⟩,.slice none 0 0,.int .i64 2,.int .i64 0,.string (fQ x.prev),.slice none 0 0,.int .i64 2,.int .i64 0,.string (fQ x.data),.slice none 0 0] 169 4 4 _ rfl rfl).below b12) | (go_at_call 118;(with_reducible refine (q3.out _ _ (R14.more b12.size)).mono ?_);rintro e w13 ⟨v5,rfl,b13,A5,c5,rfl,R5,_,_,N5⟩;have B13:Below w3.heap.size w3 w13:=ah B12 b13) | skip)
  refine aH hK KS ?_;clear hK K;refine au (fun K hK=>?_);go_simp;(first | (go_at_call 120;(with_reducible refine (lN _ _).mono ?_);rintro e w12 ⟨rfl,b12⟩;have B12:Below w3.heap.size w3 w12:=ah (by first | with_reducible assumption | with_reducible exact bDr (aj _)) b12) | (go_at_call 121;(with_reducible refine (q1.out _ (by first | with_reducible assumption | with_reducible exact bDr (aj _))).mono ?_);rintro e w12 ⟨rfl,b12⟩;have B12:Below w3.heap.size w3 w12:=ah (by first | with_reducible assumption | with_reducible exact bDr (aj _)) b12) | (go_at_call 121;(with_reducible refine (q2.out _ (by first | with_reducible assumption | with_reducible exact bDr (aj _))).mono ?_);rintro e w12 ⟨rfl,b12⟩;have B12:Below w3.heap.size w3 w12:=ah (by first | with_reducible assumption | with_reducible exact bDr (aj _)) b12) | (go_at_call 119;(with_reducible refine (qK _ _ _ _).mono ?_);rintro e w12 ⟨rfl,b12⟩;have B12:Below w3.heap.size w3 w12:=ah (bAl (by with_reducible assumption) _) b12;have R14:=(Rd.new _ [.int .i64 1,.int .i64 x.node,.string ⟨#[]⟩,.slice none 0 0,.int .i64 1,.int .i64 x.no,.string ⟨#[]⟩,.slice none 0 0,.int .i64 2,.int .i64 0,.string (fQ x.prev),.slice none 0 0,.int .i64 2,.int .i64 0,.string (fQ x.data),.slice none 0 0] 169 4 4 _ rfl rfl).below b12) | (go_at_call 118;(with_reducible refine (q3.out _ _ (R14.more b12.size)).mono ?_);rintro e w13 ⟨v5,rfl,b13,A5,c5,rfl,R5,_,_,N5⟩;have B13:Below w3.heap.size w3 w13:=ah B12 b13) | skip);refine aH hK KS ?_;clear hK K;refine au (fun K hK=>?_)
  go_simp;(first | (go_at_call 120;(with_reducible refine (lN _ _).mono ?_);rintro e w12 ⟨rfl,b12⟩;have B12:Below w3.heap.size w3 w12:=ah (by first | with_reducible assumption | with_reducible exact bDr (aj _)) b12) | (go_at_call 121;(with_reducible refine (q1.out _ (by first | with_reducible assumption | with_reducible exact bDr (aj _))).mono ?_);rintro e w12 ⟨rfl,b12⟩;have B12:Below w3.heap.size w3 w12:=ah (by first | with_reducible assumption | with_reducible exact bDr (aj _)) b12) | (go_at_call 121;(with_reducible refine (q2.out _ (by first | with_reducible assumption | with_reducible exact bDr (aj _))).mono ?_);rintro e w12 ⟨rfl,b12⟩;have B12:Below w3.heap.size w3 w12:=ah (by first | with_reducible assumption | with_reducible exact bDr (aj _)) b12) | (go_at_call 119;(with_reducible refine (qK _ _ _ _).mono ?_);rintro e w12 ⟨rfl,b12⟩;have B12:Below w3.heap.size w3 w12:=ah (bAl (by with_reducible assumption) _) b12;have R14:=(Rd.new _ [.int .i64 1,.int .i64 x.node,.string ⟨#[]⟩,.slice none 0 0,.int .i64 1,.int .i64 x.no,.string ⟨#[]⟩,.slice none 0 0,.int .i64 2,.int .i64 0,.string (fQ x.prev),.slice none 0 0,.int .i64 2,.int .i64 0,.string (fQ x.data),.slice none 0 0] 169 4 4 _ rfl rfl).below b12) | (go_at_call 118;(with_reducible refine (q3.out _ _ (R14.more b12.size)).mono ?_);rintro e w13 ⟨v5,rfl,b13,A5,c5,rfl,R5,_,_,N5⟩;have B13:Below w3.heap.size w3 w13:=ah B12 b13) | skip);refine aH hK KS ?_;clear hK K;refine au (fun K hK=>?_);go_simp;(first | (go_at_call 120;(with_reducible refine (lN _ _).mono ?_);rintro e w12 ⟨rfl,b12⟩;have B12:Below w3.heap.size w3 w12:=ah (by first | with_reducible assumption | with_reducible exact bDr (aj _)) b12) | (go_at_call 121;(with_reducible refine (q1.out _ (by first | with_reducible assumption | with_reducible exact bDr (aj _))).mono ?_);rintro e w12 ⟨rfl,b12⟩;have B12:Below w3.heap.size w3 w12:=ah (by first | with_reducible assumption | with_reducible exact bDr (aj _)) b12) | (go_at_call 121;(with_reducible refine (q2.out _ (by first | with_reducible assumption | with_reducible exact bDr (aj _))).mono ?_);rintro e w12 ⟨rfl,b12⟩;have B12:Below w3.heap.size w3 w12:=ah (by first | with_reducible assumption | with_reducible exact bDr (aj _)) b12) | (go_at_call 119;(with_reducible refine (qK _ _ _ _).mono ?_);rintro e w12 ⟨rfl,b12⟩;have B12:Below w3.heap.size w3 w12:=ah (bAl (by with_reducible assumption) _) b12;have R14:=(Rd.new _ [.int .i64 1,.int .i64 x.node,.string ⟨#[]⟩,.slice none 0 0,.int .i64 1,.int .i64 x.no,.string ⟨#[]⟩,.slice none 0 0,.int .i64 2,.int .i64 0,.string (fQ x.prev),.slice none 0 0,.int .i64 2,.int .i64 0,.string (fQ x.data),.slice none 0 0] 169 4 4 _ rfl rfl).below b12) | (go_at_call 118;(with_reducible refine (q3.out _ _ (R14.more b12.size)).mono ?_);rintro e w13 ⟨v5,rfl,b13,A5,c5,rfl,R5,_,_,N5⟩;have B13:Below w3.heap.size w3 w13:=ah B12 b13) | skip)
  refine aH hK KS ?_;clear hK K;refine au (fun K hK=>?_);go_simp;(first | (go_at_call 120;(with_reducible refine (lN _ _).mono ?_);rintro e w12 ⟨rfl,b12⟩;have B12:Below w3.heap.size w3 w12:=ah (by first | with_reducible assumption | with_reducible exact bDr (aj _)) b12) | (go_at_call 121;(with_reducible refine (q1.out _ (by first | with_reducible assumption | with_reducible exact bDr (aj _))).mono ?_);rintro e w12 ⟨rfl,b12⟩;have B12:Below w3.heap.size w3 w12:=ah (by first | with_reducible assumption | with_reducible exact bDr (aj _)) b12) | (go_at_call 121;(with_reducible refine (q2.out _ (by first | with_reducible assumption | with_reducible exact bDr (aj _))).mono ?_);rintro e w12 ⟨rfl,b12⟩;have B12:Below w3.heap.size w3 w12:=ah (by first | with_reducible assumption | with_reducible exact bDr (aj _)) b12) | (go_at_call 119;(with_reducible refine (qK _ _ _ _).mono ?_);rintro e w12 ⟨rfl,b12⟩;have B12:Below w3.heap.size w3 w12:=ah (bAl (by with_reducible assumption) _) b12;have R14:=(Rd.new _ [.int .i64 1,.int .i64 x.node,.string ⟨#[]⟩,.slice none 0 0,.int .i64 1,.int .i64 x.no,.string ⟨#[]⟩,.slice none 0 0,.int .i64 2,.int .i64 0,.string (fQ x.prev),.slice none 0 0,.int .i64 2,.int .i64 0,.string (fQ x.data),.slice none 0 0] 169 4 4 _ rfl rfl).below b12) | (go_at_call 118;(with_reducible refine (q3.out _ _ (R14.more b12.size)).mono ?_);rintro e w13 ⟨v5,rfl,b13,A5,c5,rfl,R5,_,_,N5⟩;have B13:Below w3.heap.size w3 w13:=ah B12 b13) | skip);refine aH hK KS ?_;clear hK K;refine au (fun K hK=>?_)
  go_simp;(first | (go_at_call 120;(with_reducible refine (lN _ _).mono ?_);rintro e w12 ⟨rfl,b12⟩;have B12:Below w3.heap.size w3 w12:=ah (by first | with_reducible assumption | with_reducible exact bDr (aj _)) b12) | (go_at_call 121;(with_reducible refine (q1.out _ (by first | with_reducible assumption | with_reducible exact bDr (aj _))).mono ?_);rintro e w12 ⟨rfl,b12⟩;have B12:Below w3.heap.size w3 w12:=ah (by first | with_reducible assumption | with_reducible exact bDr (aj _)) b12) | (go_at_call 121;(with_reducible refine (q2.out _ (by first | with_reducible assumption | with_reducible exact bDr (aj _))).mono ?_);rintro e w12 ⟨rfl,b12⟩;have B12:Below w3.heap.size w3 w12:=ah (by first | with_reducible assumption | with_reducible exact bDr (aj _)) b12) | (go_at_call 119;(with_reducible refine (qK _ _ _ _).mono ?_);rintro e w12 ⟨rfl,b12⟩;have B12:Below w3.heap.size w3 w12:=ah (bAl (by with_reducible assumption) _) b12;have R14:=(Rd.new _ [.int .i64 1,.int .i64 x.node,.string ⟨#[]⟩,.slice none 0 0,.int .i64 1,.int .i64 x.no,.string ⟨#[]⟩,.slice none 0 0,.int .i64 2,.int .i64 0,.string (fQ x.prev),.slice none 0 0,.int .i64 2,.int .i64 0,.string (fQ x.data),.slice none 0 0] 169 4 4 _ rfl rfl).below b12) | (go_at_call 118;(with_reducible refine (q3.out _ _ (R14.more b12.size)).mono ?_);rintro e w13 ⟨v5,rfl,b13,A5,c5,rfl,R5,_,_,N5⟩;have B13:Below w3.heap.size w3 w13:=ah B12 b13) | skip);refine aH hK KS ?_;clear hK K
  iterate 3 refine ak ?_
  refine aN ?_
  first | simp only [aak] | simp only [aat,aak]
  replace BD:=BD.below B13 BD.lt;replace hb:=ah hb B13;have q4:=lD rG A5 _ c5 (bZ x.its) w13 R5 N5 hel.out.1 (by decide) hel.out.2 (hG.below hb);unfold rG dig at q4;unfold rG at hX hln;generalize dP (sb ⟨#[108,105,110,107]⟩) (bZ x.its)=X at *;clear KS q1 q2 q3 hcY R14 R5 B12 b12 B13 b13 BY;go_wp2_with fail;refine NoPanic.normal ?_;go_wp2_with fail;refine q4.mono ?_;rintro e w14 ⟨rfl,b14⟩;have BD2:=BD.below b14 BD.lt;have hb2:=ah hb b14;dsimp only;go_step;refine wpList_store_row rfl 29 (.tmp 2) (.tmp 35) rfl W.heap.size (ag X).toArray rfl rfl 29 _ BD2 (by rw [aae,ai,hln];exact aW) (by rw [aae,aae,ai,ai,hln];rfl) (fK _) ?_;have hb9:=below_setRow hb2 (aad _) (ag X).toArray;have BD9:Blk (w14.setRow W.heap.size (ag X).toArray) W.heap.size 29 (ag X).toArray:=setRow_heap w14 W.heap.size _ _ 29 _ BD2;go_wp2_with fail;exact bodyPost_ret (v:=dig X) (results_cell_row rfl _ _ W.heap.size 29 _ (0,0) _ rfl BD9 bQ rfl (by rw [aae,ai,hln];exact aW)) rfl ⟨by rw [hX.out],hb9⟩
end
end Go.Proofs.YthbibbkbaphpkaaGreatDoor
