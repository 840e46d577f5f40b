/- The arbiter in plain words: hand-overs, roots, signatures, verdicts. No program here. -/
import Derived.Test.YthbibbkbaphpkaaGreatDoorMaf
import Derived.Test.YthbibbkbaphpkaaGreatDoorMah
import Derived.Laws.CopyRow
set_option maxHeartbeats 16000000
set_option maxRecDepth 1000000
namespace Go.Proofs.YthbibbkbaphpkaaGreatDoor
open _root_.Go.Proofs.Tryz
section
open Go.RowKit
structure Hd where
 line:Int
 at_:Int
 arrive:Int
 leg:Int
 from_:Int
 to_:Int
 many:Int
 root:List Nat
 time:Int
 e:Int
 s:Int
def Hd.cl (h:Hd):List Value:=[.int .i64 h.line,.int .i64 h.at_,.int .i64 h.arrive,.int .i64 h.leg,.int .i64 h.from_,.int .i64 h.to_,.int .i64 h.many]++(ag h.root++[.int .i64 h.time,.int .i64 h.e,.int .i64 h.s])
def Hd.ok (h:Hd):Prop:=inI h.line∧inI h.at_∧inI h.arrive∧inI h.leg∧inI h.from_∧inI h.to_∧inI h.many∧(h.root.length=32∧okB h.root)∧inI h.time∧inI h.e∧inI h.s
theorem Hd.cl_length {h:Hd} (ho:h.ok):h.cl.length=42:=by
 obtain ⟨_,_,_,_,_,_,_,⟨hr,_⟩,_⟩:=ho;simp [Hd.cl,ai,hr]
theorem Hd.one (h:Hd):∀ v∈h.cl,v.oneCell'=true:=by
 intro v hv;unfold Hd.cl at hv;rcases aaL.1 hv with hv | hv
 ·simp only [aaq,aaw,or_false] at hv
  rcases hv with rfl | rfl | rfl | rfl | rfl | rfl | rfl <;> rfl
 ·rcases aaL.1 hv with hv | hv
  ·exact aZ v hv
  ·simp only [aaq,aaw,or_false] at hv
   rcases hv with rfl | rfl | rfl <;> rfl
theorem Hd.cells {h:Hd} (ho:h.ok):h.cl[0]?=some (.int .i64 h.line)∧h.cl[1]?=some (.int .i64 h.at_)∧h.cl[2]?=some (.int .i64 h.arrive)∧h.cl[3]?=some (.int .i64 h.leg)∧h.cl[4]?=some (.int .i64 h.from_)∧h.cl[5]?=some (.int .i64 h.to_)∧h.cl[6]?=some (.int .i64 h.many) ∧
  (∀ j,j<32→h.cl[7+j]?=(ag h.root)[j]?)∧h.cl[39]?=some (.int .i64 h.time)∧h.cl[40]?=some (.int .i64 h.e)∧h.cl[41]?=some (.int .i64 h.s):=by
 have hr:=ho.2.2.2.2.2.2.2.1.1;have hl:(ag h.root).length=32:=by rw [ai,hr]
 unfold Hd.cl;refine ⟨rfl,rfl,rfl,rfl,rfl,rfl,rfl,fun j hj=>?_,?_,?_,?_⟩
 ·rw [aaz (by simp),aaO (by rw [hl];simp;omega)]
  simp
 ·rw [aaz (by simp),aaz (by rw [hl];simp)]
  simp [hl]
 ·rw [aaz (by simp),aaz (by rw [hl];simp)]
  simp [hl]
 ·rw [aaz (by simp),aaz (by rw [hl];simp)]
  simp [hl]
def stB (l:List Nat):ByteArray:=⟨l.map (fun n=>UInt8.ofNat n) |>.toArray⟩
def Hd.its (h:Hd):List It:=[.int h.line,.int h.at_,.int h.arrive,.int h.leg,.int h.from_,.int h.to_,.int h.many,.text (dgS h.root),.int h.time]
def Hd.text (h:Hd):List Nat:=bZ h.its
def tmB (n:Int):Bool:=decide (0≤n)&&decide (n<2097152)
def Hd.formed (h:Hd):Bool:=(tmB h.at_&&(tmB h.arrive&&tmB h.time))&&((decide (0≤h.from_∧h.from_<24)&&(decide (-1≤h.to_∧h.to_<24)&&decide (h.from_≠h.to_)))&&(decide (0≤h.line∧h.line<64)&&(decide (0≤h.leg∧h.leg≤8)&&decide (0≤h.many∧h.many≤64))))
def ptV (key E S:Int):Int:=oz (aJ 4 S) (aJ key (-E))
def sgS:ByteArray:=⟨#[115,105,103,110]⟩
def sgV (pt key:Int) (b:List Nat):Nat:=qV (sb sgS) (bZ [.int pt,.int key,.text (dgS b)])
def sgB (key:Int) (b:List Nat) (E S:Int):Bool:=(aA key&&(lZ E&&lZ S))&&decide (E=(sgV (ptV key E S) key b:Nat))
def Hd.signed (key:Int) (h:Hd):Bool:=h.formed&&sgB key h.text h.e h.s
def O8:List Nat:=[110,111,100,101]
def Rh:List Nat:=[108,101,97,102]
def Ri:List Nat:=[110,111,110,101]
def iJ (b:List Nat):List Nat:=bM (bM Rh++b)
def Eg (a b:List Nat):List Nat:=bM (bM O8++(a++b))
def upN:List (List Nat)→List (List Nat)
 | a::b::l=>Eg a b::upN l
 | l=>l
theorem lK:∀ l:List (List Nat),(upN l).length=(l.length+1) / 2
 | []=>rfl
 | [_]=>by simp [upN]
 | a::b::l=>by
  show (Eg a b::upN l).length=_;rw [aas,lK l,aas,aas];omega
def jB (l:List (List Nat)):Nat→List (List Nat)
 | 0=>l
 | k+1=>upN (jB l k)
def Dt:Nat→List (List Nat)→List Nat
 | 0,l=>l.headD []
 | f+1,l=>if l.length≤1 then l.headD [] else Dt f (upN l)
def uC (l:List (List Nat)):List Nat:=if l=[] then dP Ri [] else Dt l.length (l.map iJ)
theorem O9 (b:List Nat):(iJ b).length=32:=bI _
def dL (d:List Nat):Prop:=d.length=32∧okB d
theorem Ic (b:List Nat):dL (iJ b):=⟨bI _,kE _⟩
theorem Rj (a b:List Nat):dL (Eg a b):=⟨bI _,kE _⟩
theorem J6:∀ {l:List (List Nat)},(∀ d∈l,dL d)→∀ d∈upN l,dL d
 | [],_,d,hd=>by cases hd
 | [a],h,d,hd=>h d hd
 | a::b::l,h,d,hd=>by
  rcases aaq.1 hd with rfl | hd
  ·exact Rj a b
  ·exact J6 (l:=l) (fun x hx=>h x (by simp [hx])) d hd
theorem MX:∀ (f:Nat) {l:List (List Nat)},l≠[]→(∀ d∈l,dL d)→dL (Dt f l)
 | f,[],h,_=>absurd rfl h
 | 0,a::l,_,h=>h a (by simp)
 | f+1,a::l,_,h=>by
  show dL (if (a::l).length≤1 then a else Dt f (upN (a::l)))
  split
  ·exact h a (by simp)
  ·refine MX f ?_ (J6 h)
   intro e
   have:=congrArg List.length e
   rw [lK,aas,List.length_nil] at this;omega
theorem wO (l:List (List Nat)):dL (uC l):=by
 unfold uC
 split
 ·exact ⟨dZ _ _,kE _⟩
 ·rename_i h
  exact MX _ (by simpa using h) (fun d hd=>by obtain ⟨x,_,rfl⟩:=aaK.1 hd;exact Ic x)
def Ltr.its (x:Ltr):List It:=[.int x.a0,.int x.b0,.int x.a1,.int x.b1,.int x.a2,.int x.b2]
def Ltr.txt (x:Ltr):List Nat:=bZ x.its
def kN (l:List Ltr):List Nat:=uC (l.map Ltr.txt)
def dM:Hd:=⟨0,0,0,0,0,0,0,List.replicate 32 0,0,0,0⟩
theorem jh {α:Type} {f:α→List Value} {sz:Nat} : ∀ (l:List α) (i j:Nat) (x:α),(∀ y∈l,(f y).length=sz)→l[i]?=some x→j<sz→(l.flatMap f)[i*sz+j]?=(f x)[j]?
 | [],i,j,x,_,h,_=>by simp at h
 | y::l,0,j,x,hf,h,hj=>by
  simp only [aap,Option.some.injEq] at h;subst h;rw [aaF,Nat.zero_mul,aax,aaO (by rw [hf _ (by simp)];exact hj)]
 | y::l,i+1,j,x,hf,h,hj=>by
  simp only [aar] at h;rw [aaF,aaz (by rw [hf _ (by simp),abh];omega),hf _ (by simp)]
  have:(i+1)*sz+j - sz=i*sz+j:=by rw [abh];omega
  rw [this];exact jh l i j x (fun z hz=>hf z (aa8 _ hz)) h hj
theorem flat_length {α:Type} {f:α→List Value} {sz:Nat} : ∀ (l:List α),(∀ y∈l,(f y).length=sz)→(l.flatMap f).length=l.length*sz
 | [],_=>by simp
 | y::l,h=>by rw [aaF,aan,h y (by simp),flat_length l (fun z hz=>h z (aa8 _ hz)),aas,abh];omega
def Lnk.cl (x:Lnk) (v:Value):List Value:=[.int .i64 x.node,.int .i64 x.no]++(ag x.prev++[v])
def Lnk.ok (x:Lnk):Prop:=inI x.node∧inI x.no∧dL x.prev∧okB x.data∧x.data.length≤1000000
theorem Lnk.cl_length {x:Lnk} {v:Value} (h:x.ok):(x.cl v).length=35:=by
 have:=h.2.2.1.1
 simp [Lnk.cl,ai,this]
def kP (l:List Lnk) (vs:List Value):List Value:=(l.zip vs).flatMap (fun p=>p.1.cl p.2)
def LksAt (w:World) (B:Nat) (A:Option Addr) (l:List Lnk) (vs:List Value):Prop :=
 Rd w B 35 A l.length (kP l vs)∧vs.length=l.length∧(∀ (k:Nat) (x:Lnk),l[k]?=some x→∃ Ad cd,vs[k]?=some (Value.slice Ad x.data.length cd)∧Rd w B 1 Ad x.data.length (ag x.data))∧∀ x∈l,x.ok
section
variable {w w':World} {B B':Nat} {A:Option Addr} {l:List Lnk} {vs:List Value}
theorem LksAt.below (h:LksAt w B A l vs) (b:Below B w w'):LksAt w' B A l vs :=
 ⟨h.1.below b,h.2.1,fun k x hx=>by obtain ⟨Ad,cd,e,r⟩:=h.2.2.1 k x hx;exact ⟨Ad,cd,e,r.below b⟩,h.2.2.2⟩
theorem LksAt.more (h:LksAt w B A l vs) (b:B≤B'):LksAt w B' A l vs :=
 ⟨h.1.more b,h.2.1,fun k x hx=>by obtain ⟨Ad,cd,e,r⟩:=h.2.2.1 k x hx;exact ⟨Ad,cd,e,r.more b⟩,h.2.2.2⟩
theorem LksAt.at_ (h:LksAt w B A l vs) {k:Nat} {x:Lnk} (hx:l[k]?=some x):∃ b off Ad cd,A=some ⟨b,off,none⟩∧b<B∧x.ok∧Rd w B 1 Ad x.data.length (ag x.data)∧w.rangeAt b (off+k*35) (x.cl (.slice Ad x.data.length cd)):=by
 have hk:k<l.length:=(aag.1 hx).1;obtain ⟨b,off,e,hb,hc⟩:=h.1.2 (by omega);obtain ⟨Ad,cd,hv,hr⟩:=h.2.2.1 k x hx;have hxo:=h.2.2.2 x (aam hx);refine ⟨b,off,Ad,cd,e,hb,hxo,hr,fun j u hj=>?_⟩;rw [aay];refine hc _ _ ?_;have hj35:j<35:=by have:=(aag.1 hj).1;rwa [Lnk.cl_length hxo] at this
 have hz:(l.zip vs)[k]?=some (x,.slice Ad x.data.length cd):=by rw [List.getElem?_zip_eq_some];exact ⟨hx,hv⟩
 unfold kP;rw [jh (f:=fun p:Lnk×Value=>p.1.cl p.2) (l.zip vs) k j (x,.slice Ad x.data.length cd) (fun p hp=>Lnk.cl_length (h.2.2.2 p.1 (List.of_mem_zip hp).1)) hz hj35];exact hj
end
structure TS where
 a0:Option Addr
 a1:Option Addr
 a2:Option Addr
 a3:Option Addr
 a4:Option Addr
 c0:Nat
 c1:Nat
 c2:Nat
 c3:Nat
 c4:Nat
def kC (p:List Nat×List Nat):List Value:=ag p.1++ag p.2
def TS.cl (s:TS) (t:Trn):Array Value:=#[.slice s.a0 t.left.length s.c0,.slice s.a1 t.right.length s.c1,.slice s.a2 t.rl.length s.c2,.slice s.a3 t.rr.length s.c3,.slice s.a4 t.salts.length s.c4]
structure TurnAt (w:World) (B:Nat) (s:TS) (t:Trn):Prop where
 r0:Rd w B 1 s.a0 t.left.length (ints t.left)
 r1:Rd w B 1 s.a1 t.right.length (ints t.right)
 r2:Rd w B 3 s.a2 t.rl.length (t.rl.flatMap Tri.cl)
 r3:Rd w B 3 s.a3 t.rr.length (t.rr.flatMap Tri.cl)
 r4:Rd w B 64 s.a4 t.salts.length (t.salts.flatMap kC)
 i0:∀ x∈t.left,inI x
 i1:∀ x∈t.right,inI x
 i2:∀ x∈t.rl,inI x.1∧inI x.2.1∧inI x.2.2
 i3:∀ x∈t.rr,inI x.1∧inI x.2.1∧inI x.2.2
 i4:∀ x∈t.salts,dL x.1∧dL x.2
section
variable {w w':World} {B B':Nat} {s:TS} {t:Trn}
theorem TurnAt.below (h:TurnAt w B s t) (b:Below B w w'):TurnAt w' B s t:=⟨h.r0.below b,h.r1.below b,h.r2.below b,h.r3.below b,h.r4.below b,h.i0,h.i1,h.i2,h.i3,h.i4⟩
theorem TurnAt.more (h:TurnAt w B s t) (b:B≤B'):TurnAt w B' s t:=⟨h.r0.more b,h.r1.more b,h.r2.more b,h.r3.more b,h.r4.more b,h.i0,h.i1,h.i2,h.i3,h.i4⟩
end
theorem Fh {w:World} {g o:Nat} {d:List Nat} (hc:∀ j u,(ag d)[j]?=some u→w.cell? ⟨g,o+j,none⟩=some u) (hl:d.length=32) (ho:okB d):(convert 83 9 (.slice (some ⟨g,o,none⟩) 32 32)).run prog w = .ok (.string (dgS d)) w:=by
 have:=run_convert_bytes_back (P:=prog) w 83 9 5 ⟨g,o,none⟩ 32 (dgB d) underlying83 underlying5 underlying9 (fun j hj=>by
  have hj':j<d.length:=by simpa [dgB] using hj
  rw [dX,JU ho j hj];exact hc j _ (by simp [ag,hj']))
 rw [show (dgB d).length=32 by simp [dgB,hl]] at this;exact this
theorem ix3 (a b c:Int):∀ k:Nat,k<3→∃ m,[a,b,c][k]?=some m∧∀ w,(Instr.index 94 (.agg #[.int .i64 a,.int .i64 b,.int .i64 c]) (.int .i64 (k:Nat))).run prog w = .ok (.int .i64 m) w
 | 0,_=>⟨_,rfl,fun _=>by kernel_rfl⟩
 | 1,_=>⟨_,rfl,fun _=>by kernel_rfl⟩
 | 2,_=>⟨_,rfl,fun _=>by kernel_rfl⟩
 | k+3,h=>by omega
theorem Opn.cl_length {o:Opn} (h:o.ok):o.cl.length=36:=by
 have:=h.2.2.2.2.1
 simp [Opn.cl,ai,this]
theorem Opn.cells {o:Opn} : o.cl[0]?=some (.int .i64 o.at_)∧o.cl[1]?=some (.int .i64 o.r0)∧o.cl[2]?=some (.int .i64 o.r1)∧o.cl[3]?=some (.int .i64 o.r2)∧∀ j u,(ag o.salt)[j]?=some u→o.cl[4+j]?=some u:=by
 refine ⟨rfl,rfl,rfl,rfl,fun j u hj=>?_⟩;unfold Opn.cl;rw [aaz (by simp),aas,aas,aas,aas,List.length_nil,show 4+j - (0+1+1+1+1)=j by omega];exact hj
theorem Opn.one (o:Opn):∀ v∈o.cl,v.oneCell'=true:=by
 intro v hv;unfold Opn.cl at hv;rcases aaL.1 hv with hv | hv
 ·simp only [aaq,aaw,or_false] at hv
  rcases hv with rfl | rfl | rfl | rfl <;> rfl
 ·exact aZ v hv
theorem Opn.its_ok {o:Opn} (h:o.ok):∀ x∈o.its.map Nd.it,x.ok:=by
 obtain ⟨o1,o2,o3,o4,o5,o6⟩:=h;intro x hx;simp only [Opn.its,aat,aak,aaq,aaw,or_false] at hx;rcases hx with rfl | rfl | rfl | rfl | rfl
 ·exact o1
 ·exact o2
 ·exact o3
 ·exact o4
 ·exact Nd.it_ok (x := .dig o.salt) ⟨o5,o6⟩
def Opn.row (o:Opn) (k:Nat):List Value:=((o.its.map Nd.it).take k).flatMap It.cells
theorem uf (tag:ByteArray) (o:Opn) (W:World) (ho:o.ok) (hs:tag.size≤1000000) (hG:ShaG W) :
  Calls prog 141 #[.string tag,.agg o.cl.toArray] W (Ret (dig (nX tag o)) W):=by
 have BO:Blk ((W.alloc (.cells o.cl.toArray 158)).alloc (.cells (ag (aF 32)).toArray 29)) W.heap.size 158 o.cl.toArray:=(Blk.new W _ _ _ rfl).alloc _;have BD:Blk ((W.alloc (.cells o.cl.toArray 158)).alloc (.cells (ag (aF 32)).toArray 29)) (W.heap.size+1) 29 (ag (aF 32)).toArray:=Blk.new _ _ _ _ (by simp);have hb:=bAl (bAl (aj W) (.cells o.cl.toArray 158)) (.cells (ag (aF 32)).toArray 29);have hlt:W.heap.size+1+1≤((W.alloc (.cells o.cl.toArray 158)).alloc (.cells (ag (aF 32)).toArray 29)).heap.size:=by simp
 have hok:=Opn.its_ok ho;obtain ⟨o1,o2,o3,o4,o5,o6⟩:=ho;go_enter func141,ntmps141;go_upto_region 1 with fail;change Code.wp _ _ _ _ ((W.alloc (.cells o.cl.toArray 158)).alloc (.cells (ag (aF 32)).toArray 29));generalize (W.alloc (.cells o.cl.toArray 158)).alloc (.cells (ag (aF 32)).toArray 29)=w1 at *
 have hcl:Hid (∀ w',Blk w' W.heap.size 158 o.cl.toArray→(w'.cell? ⟨W.heap.size,0,none⟩=some (.int .i64 o.at_)∧w'.cell? ⟨W.heap.size,1,none⟩=some (.int .i64 o.r0)∧w'.cell? ⟨W.heap.size,2,none⟩=some (.int .i64 o.r1)∧w'.cell? ⟨W.heap.size,3,none⟩=some (.int .i64 o.r2)) ∧
   (convert 83 9 (.slice (some ⟨W.heap.size,4,none⟩) 32 32)).run prog w' = .ok (.string (dgS o.salt)) w'):=aab (fun w' B=>by
  obtain ⟨c0,c1,c2,c3,c4⟩:=o.cells;refine ⟨⟨(B.cell 0).trans (by simpa using c0),(B.cell 1).trans (by simpa using c1),(B.cell 2).trans (by simpa using c2),(B.cell 3).trans (by simpa using c3)⟩,Fh (fun j u hj=>?_) o5 o6⟩;rw [B.cell];simpa using c4 j u hj)
 obtain ⟨⟨d0,d1,d2,d3⟩,_⟩:=hcl.out w1 BO;have hown0:=World.ownsRow_lit (base:=W.heap.size+1+1) (e:=169) (size:=4) w1 #[.int .i64 1,.int .i64 o.at_,.string ⟨#[]⟩,.slice none 0 0] 1 hlt (by unfold maxLen;omega) rfl;go_upto_region 2 with fail;replace BO:=BO.alloc (.cells #[.int .i64 1,.int .i64 o.at_,.string ⟨#[]⟩,.slice none 0 0] 169);replace BD:=BD.alloc (.cells #[.int .i64 1,.int .i64 o.at_,.string ⟨#[]⟩,.slice none 0 0] 169);replace hb:=bAl hb (.cells #[.int .i64 1,.int .i64 o.at_,.string ⟨#[]⟩,.slice none 0 0] 169);clear d0 d1 d2 d3;generalize w1.alloc (.cells #[.int .i64 1,.int .i64 o.at_,.string ⟨#[]⟩,.slice none 0 0] 169)=w2 at *;obtain ⟨⟨d0,d1,d2,d3⟩,_⟩:=hcl.out w2 BO;go_wp2_with fail;clear d0 d1 d2 d3
 go_loopw [5,16] (fun row i wr=>∃ (k:Nat) (v:Value),k≤3∧i = .int .i64 k∧row=v∧Below W.heap.size W wr∧Blk wr W.heap.size 158 o.cl.toArray∧Blk wr (W.heap.size+1) 29 (ag (aF 32)).toArray ∧
  wr.ownsRow (W.heap.size+1+1) 169 4 v (k+1) (o.row (k+1))) (fun _ i _=>3 - (intOf i).toNat)
 case atStart=>exact ⟨0,_,by omega,rfl,rfl,hb,BO,BD,hown0⟩
 case round =>
  clear hb BO BD hown0 hlt;obtain ⟨k,v,hk,rfl,rfl,hb,BO,BD,hown⟩:=hrel;have hlt:W.heap.size+1+1≤wr.heap.size:=BD.lt;by_cases hl3:k<3
  ·obtain ⟨m,hm,hix⟩:=ix3 o.r0 o.r1 o.r2 k hl3
   have hsn:Hid (o.row (k+1+1)=o.row (k+1)++[.int .i64 1,.int .i64 m,.string ⟨#[]⟩,.slice none 0 0]):=by
    show _=_
    have e:(o.its.map Nd.it)[k+1]?=some (.int m):=by
     rcases (show k=0∨k=1∨k=2 by omega) with rfl | rfl | rfl <;> (injection hm with hm;subst hm;rfl)
    obtain ⟨hk,e⟩:=aag.1 e;unfold Opn.row;rw [aaB hk,aaP,e];rfl
   have hone:=xY (.int m);have h63:k+1+1≤maxLen:=(by unfold maxLen;omega);have hby:(k+1+1)*56≤140737488355328:=(by omega);clear hm;go_wp2_with (at_builtin;refine aO wr [.int .i64 1,.int .i64 m,.string ⟨#[]⟩,.slice none 0 0] (.tmp 19) (.tmp 22) 167 (W.heap.size+1+1) 169 (.agg #[.int .i64 0,.int .i64 0,.string ⟨#[]⟩,.slice none 0 0]) 4 56 _ (k+1) (o.row (k+1)) rfl rfl underlying167 gB rfl (by omega) rfl hown rfl rfl hone h63 hby hlt ?_;intro v' w' hown4 hg4;have b4:=hg4.below hown hlt;have BO4:=BO.below b4 (by omega);have BD4:=BD.below b4 (by omega))
   exact ⟨⟨k+1,_,by omega,by go_num,rfl,hb.trans (b4.mono (by omega)),BO4,BD4,by rw [hsn.out];exact hown4⟩,by simp [intOf];omega⟩
  ·obtain rfl:k=3:=by omega
   obtain ⟨⟨d0,d1,d2,d3⟩,cv⟩:=hcl.out wr BO;have hsn:Hid (o.row 5=o.row (3+1)++[.int .i64 2,.int .i64 0,.string (dgS o.salt),.slice none 0 0]):=aab rfl;have hone:=xY (.text (dgS o.salt));have h63:3+1+1≤maxLen:=(by unfold maxLen;omega);go_upto_region 7 with fail;go_upto_region 8 with (at_builtin;refine aO wr [.int .i64 2,.int .i64 0,.string (dgS o.salt),.slice none 0 0] (.tmp 25) (.tmp 30) 167 (W.heap.size+1+1) 169 (.agg #[.int .i64 0,.int .i64 0,.string ⟨#[]⟩,.slice none 0 0]) 4 56 _ (3+1) (o.row (3+1)) rfl rfl underlying167 gB rfl (by omega) rfl hown rfl rfl hone h63 (by omega) hlt ?_;intro v' w' hown4 hg4;have b4:=hg4.below hown hlt;have BD4:=BD.below b4 (by omega);have hb4:=hb.trans (b4.mono (by omega)))
   rw [←hsn.out] at hown4;obtain ⟨A2,c2,rfl,hR,_⟩:=Sl.of_own hown4;have q:=lX A2 5 c2 (o.its.map Nd.it) w' hR hok (by omega);unfold gJ at q;clear hb BO BD hown hown4 d0 d1 d2 d3 cv b4 hg4 hR;go_wp2_with fail;refine q.mono ?_;rintro e w5 ⟨v5,rfl,b5,A5,c5,rfl,hR5,_,_,hn5⟩;have hb5:=ah hb4 b5;have BD5:=BD4.below b5 BD4.lt;have hel:=jZ hok (by simp [Opn.its]);have q2:=lD tag A5 _ c5 (bZ (o.its.map Nd.it)) w5 hR5 hn5 (iI _) hs (by omega) (hG.below hb5);have hX:Hid (dig (nX tag o) = .agg (ag (dP (sb tag) (bZ (o.its.map Nd.it)))).toArray):=aab rfl;have hln:=dZ (sb tag) (bZ (o.its.map Nd.it));unfold dig at q2;generalize dP (sb tag) (bZ (o.its.map Nd.it))=X at *;generalize bZ (o.its.map Nd.it)=Y at *;clear q hel hR5 hb4 BD4 b5;go_wp2_with fail;refine q2.mono ?_;rintro e w6 ⟨rfl,b6⟩;have hb6:=ah hb5 b6;have BD6:=BD5.below b6 BD5.lt;clear q2;dsimp only;go_step;refine wpList_store_row rfl 29 (.tmp 4) (.tmp 40) rfl (W.heap.size+1) (ag X).toArray rfl rfl 29 _ BD6 (by rw [aae,ai,hln];exact aW) (by rw [aae,aae,ai,ai,hln];rfl) (fK _) ?_;have hb9:=below_setRow hb6 (show W.heap.size≤W.heap.size+1 by omega) (ag X).toArray;have BD9:Blk (w6.setRow (W.heap.size+1) (ag X).toArray) (W.heap.size+1) 29 (ag X).toArray:=setRow_heap w6 (W.heap.size+1) _ _ 29 _ BD6;go_wp2_with fail;exact bodyPost_ret (v:=dig X) (results_cell_row rfl _ _ (W.heap.size+1) 29 _ (0,0) _ rfl BD9 bQ rfl (by rw [aae,ai,hln];exact aW)) rfl ⟨by rw [hX.out];rfl,hb9⟩
end
section
open Go Go.RowKit
theorem uV {P:Program} {o:Oper} {a:Act} {t:TypeId} {parts:Array (Nat×Operand)} {vals:List (Nat×Value)} {cells:Array Value} {w:World} (ho:o.op = .build t parts) (hp:parts.toList.map (fun (i,x)=>(i,a.eval x))=vals) (hb:P.built t vals=some cells) :
  (execOp a.eval o).run P w = .ok (.value (.agg cells)) w:=by
 subst hp;rw [←Array.toList_map] at hb;unfold execOp;rw [ho];simp only [Sem.run_bind,run_build w t _ cells hb,Result.andThen_ok,Sem.run_pure]
theorem lT {P:Program} {ops:Array Oper} {rest:List Oper} {o:Oper} {a:Act} {w:World} {Q:Exit→Act→World→Prop} (hgd:Region.wanted o (yielded ops a.tmps)=true) {t:TypeId} {parts:Array (Nat×Operand)} {vals:List (Nat×Value)} {cells:Array Value} (ho:o.op = .build t parts)
  (hp:parts.toList.map (fun (i,x)=>(i,a.eval x))=vals) (hb:P.built t vals=some cells) (h:wpList P ops Q rest (a.put o.dst (.agg cells)) w):wpList P ops Q (o::rest) a w :=
 wpList_step fun K hK=>by
  rw [if_pos hgd]
  unfold Oper.wp
  rw [uV ho hp hb]
  exact hK _ _ h
theorem Ie (place:Nat→Option (Nat×Nat)) (cells:Array Value):Instr.fill place cells []=some cells:=rfl
theorem yj {place:Nat→Option (Nat×Nat)} {cells:Array Value} {i:Nat} {v:Value} {rest:List (Nat×Value)} {off size:Nat} (hp:place i=some (off,size)) (hs:v.cells.size=size) (hc:off+size≤cells.size) :
  Instr.fill place cells ((i,v)::rest)=Instr.fill place (v.cells.zipIdx.foldl (fun cs (c,j)=>cs.setIfInBounds (off+j) c) cells) rest:=by
 rw [Instr.fill,hp];simp only;rw [if_neg];simp only [Bool.or_eq_true,decide_eq_true_eq,ne_eq,not_or];exact ⟨fun h=>h hs,by omega⟩
theorem Bj (o:Nat):∀ (l:List Value) (s:Nat) (init:Array Value) (i:Nat),o+s+l.length≤init.size →
  ((l.zipIdx s).foldl (fun cs x=>cs.setIfInBounds (o+x.2) x.1) init)[i]?=if o+s≤i∧i<o+s+l.length then l[i - (o+s)]? else init[i]?
 | [],s,init,i,h=>by
  rw [if_neg (by simp only [List.length_nil];omega)];rfl
 | v::l,s,init,i,h=>by
  rw [List.zipIdx_cons,List.foldl_cons,Bj o l (s+1) _ i (by simp at h ⊢;omega)];simp only [aas] at h ⊢;by_cases h1:o+s=i
  ·subst h1
   rw [if_neg (by omega),if_pos (by omega),Array.getElem?_setIfInBounds_self_of_lt (by omega)]
   simp
  ·rw [Array.getElem?_setIfInBounds_ne h1]
   by_cases h2:o+(s+1)≤i∧i<o+(s+1)+l.length
   ·rw [if_pos h2,if_pos (by omega)]
    rw [show i - (o+s)=(i - (o+(s+1)))+1 by omega];rfl
   ·rw [if_neg h2,if_neg (by omega)]
theorem zX (pre old xs suf:List Value) (off:Nat) (cells:Array Value) (hc:cells=(pre++(old++suf)).toArray) (ho:off=pre.length) (h:xs.length=old.length) :
  xs.toArray.zipIdx.foldl (fun cs (c,j)=>cs.setIfInBounds (off+j) c) cells=(pre++(xs++suf)).toArray:=by
 subst hc;subst ho
 have e:xs.toArray.zipIdx.foldl (fun (cs:Array Value) (x:Value×Nat)=>cs.setIfInBounds (pre.length+x.2) x.1) (pre++(old++suf)).toArray=(xs.zipIdx 0).foldl (fun cs x=>cs.setIfInBounds (pre.length+x.2) x.1) (pre++(old++suf)).toArray:=by
  rw [←Array.foldl_toList]
  simp
 refine e.trans ?_;apply Array.ext_getElem?;intro i;rw [Bj pre.length xs 0 _ i (by simp;omega)];simp only [aa9,aaG];by_cases h1:i<pre.length
 ·rw [if_neg (by omega),aaO h1,aaO h1]
 ·have e2:∀ ys:List Value,(pre++ys)[i]?=ys[i - pre.length]?:=fun ys=>aaz (by omega)
  rw [e2,e2];by_cases h2:i - pre.length<xs.length
  ·rw [if_pos (by omega),aaO h2]
  ·rw [if_neg (by omega),aaz (by omega),aaz (by omega),h]
theorem jP {P:Program} {ts e:TypeId} {z X:Array Value} {size bytes:Nat} (ht:P.underlying ts=some (.slice e)) (hi:(P.info? e).map (fun i=>(i.zero,i.size,i.bytes))=some (some (.agg z),size,bytes)) (hX:X.size=size) (h0:0<size) (hb:size≤16777216) (w:World) :
  (Instr.buildSlice ts 1 #[(0,.agg X)]).run P w = .ok (.slice (some ⟨w.heap.size,0,none⟩) 1 1) (w.alloc (.cells X e)):=by
 obtain ⟨i0,hi0,hz0,hz1,hz2⟩:=info_parts hi;have e:=zX [] ((Array.range size).map (fun x=>z[x % z.size]!)).toList X.toList [] 0 ((Array.range size).map (fun x=>z[x % z.size]!)) (by rw [abe,aaJ,Array.toArray_toList]) rfl (by simp [hX]);rw [abe,aaJ,Array.toArray_toList] at e;simp only [aax] at e;rw [show X.zipIdx.size=size by simp [hX]] at e;have hs0:¬(size=0):=by omega
 have hn':¬(16777216<size):=by omega
 simp [Instr.buildSlice,run_underlying ht,sizeOf,typeInfo,zeroValue,hi0,hz0,hz1,hn',hs0,newRow,go_sem,hX];rw [e]
theorem ji {P:Program} {ops:Array Oper} {o:Oper} {a:Act} {w w':World} {K:Act→World→Prop} {Q:Exit→Act→World→Prop} {E:Prop} {ts:TypeId} {n:Nat} {parts:Array (Nat×Operand)} {vals:Array (Nat×Value)} {v:Value}
  (hgd:Region.wanted o (yielded ops a.tmps)=true) (ho:o.op = .buildSlice ts n parts) (hp:parts.toList.map (fun (i,x)=>(i,a.eval x))=vals.toList) (hr:(Instr.buildSlice ts n vals).run P w = .ok v w') (h:K (a.put o.dst v) w') :
  if Region.wanted o (yielded ops a.tmps)=true then Oper.wp P o a w K Q else E:=by
 rw [if_pos hgd]
 have e:(parts.map fun (i,x)=>(i,a.eval x))=vals:=by
  apply Array.toList_inj.1;rw [Array.toList_map];exact hp
 unfold Oper.wp execOp;rw [ho];simp only [Sem.run_bind,e,hr,Result.andThen_ok,Sem.run_pure];exact h
theorem Eh (o:Opn) (h:o.salt.length=32):prog.built 158 [(0,.int .i64 o.at_),(1,.agg #[.int .i64 o.r0,.int .i64 o.r1,.int .i64 o.r2]),(2,.agg (ag o.salt).toArray)]=some o.cl.toArray:=by
 have hl:(ag o.salt).length=32:=by rw [ai,h]
 have hz:(ag (aF 32)).length=32:=by rw [ai];simp [aF]
 have e:prog.built 158 [(0,.int .i64 o.at_),(1,.agg #[.int .i64 o.r0,.int .i64 o.r1,.int .i64 o.r2]),(2,.agg (ag o.salt).toArray)] =
   Instr.fill (fun i=>#[(0,1),(1,3),(4,32)][i]?) (Opn.cl ⟨o.at_,o.r0,o.r1,o.r2,aF 32⟩).toArray [(2,.agg (ag o.salt).toArray)]:=by kernel_rfl
 rw [e,yj (off:=4) (size:=32) rfl (by show (ag o.salt).toArray.size=32;rw [aae,hl]) (by rw [aae];simp [Opn.cl,hz]),Ie];refine congrArg some ?_;show (ag o.salt).toArray.zipIdx.foldl _ _=_;have ec:(Opn.cl ⟨o.at_,o.r0,o.r1,o.r2,aF 32⟩).toArray=(([.int .i64 o.at_,.int .i64 o.r0,.int .i64 o.r1,.int .i64 o.r2]:List Value)++(ag (aF 32)++[])).toArray:=by rw [abe];rfl
 rw [zX _ _ (ag o.salt) _ 4 _ ec rfl (by rw [hl,hz]),abe];rfl
def KeepsC (K:Nat→Prop) (A B:World):Prop:=A.heap.size≤B.heap.size∧∀ k t cs fr,K k→A.heap[k]?=some (.cells cs t fr)→B.heap[k]?=A.heap[k]?
theorem KeepsC.refl (K:Nat→Prop) (A:World):KeepsC K A A:=⟨aad _,fun _ _ _ _ _ _=>rfl⟩
theorem KeepsC.trans {K:Nat→Prop} {A B C:World} (h:KeepsC K A B) (k:KeepsC K B C):KeepsC K A C :=
 ⟨aaj h.1 k.1,fun i t cs fr hi hc=>by
  have e:=h.2 i t cs fr hi hc
  exact (k.2 i t cs fr hi (e.trans hc)).trans e⟩
theorem KeepsC.put {K:Nat→Prop} (W:World) (l:Nat) (o o':Obj) (hl:W.heap[l]?=some o) (ho:o.isCells=false):KeepsC K W (W.putObj l o') :=
 ⟨by simp,fun k t cs fr _ hc=>by
  refine World.putObj_heap_other ?_
  intro e;subst e;rw [hl] at hc;cases hc;cases ho⟩
theorem KeepsC.below {K:Nat→Prop} {A B:World} (h:Below A.heap.size A B):KeepsC K A B :=
 ⟨h.size,fun k _ _ _ _ hc=>h.block k (aaI.1 hc).1⟩
theorem KeepsC.set_ {K:Nat→Prop} {A B:World} (h:KeepsC K A B) {p:Addr} (hp:¬K p.block) (v:Value):KeepsC K A (B.setCell p v) :=
 ⟨aaj h.1 (by simp [World.setCell]),fun k t cs fr hk hc=>(Below.heap_setCell _ _ _ _ (by intro e;exact hp (e▸hk))).trans (h.2 k t cs fr hk hc)⟩
theorem KeepsC.blk {K:Nat→Prop} {A B:World} {g:Nat} {t:TypeId} {cs:Array Value} (h:KeepsC K A B) (hg:K g) (b:Blk A g t cs):Blk B g t cs:=(h.2 g _ _ _ hg b).trans b
theorem KeepsC.cell {K:Nat→Prop} {A B:World} (h:KeepsC K A B) {p:Addr} (hp:K p.block) {v:Value} (hv:A.cell? p=some v):B.cell? p=some v:=by
 have hh:∃ t cs fr,A.heap[p.block]?=some (.cells cs t fr):=by
  unfold World.cell? at hv;cases ho:A.heap[p.block]? with
  | none=>rw [ho] at hv;simp at hv
  | some o =>
   cases o with
   | cells cs t fr=>exact ⟨_,_,_,rfl⟩
   | _=>rw [ho] at hv;simp at hv
 obtain ⟨t,cs,fr,hc⟩:=hh;have e:=h.2 _ _ _ _ hp hc;unfold World.cell? at hv ⊢;rw [e];exact hv
theorem KeepsC.rd {K:Nat→Prop} {A B:World} {B0 sz n:Nat} {S:Option Addr} {xs:List Value} (h:KeepsC K A B) (hB:∀ k,k<B0→K k) (r:Rd A B0 sz S n xs):Rd B B0 sz S n xs :=
 ⟨r.1,fun hn=>by
  obtain ⟨b,off,e,hb,hc⟩:=r.2 hn
  exact ⟨b,off,e,hb,fun j u hu=>h.cell (p:=⟨b,off+j,none⟩) (hB _ hb) (hc j u hu)⟩⟩
def Rk {α:Type} (K:Nat→Prop) (base:World) (bl:List α→List (Nat×TypeId×Array Value)) (R:List α→Prop) (bx:Code→List α→List (Nat×TypeId×Array Value)) (Rx:Code→List α→Prop) (xs:List α) (W:World):Exit→Act→World→Prop
 | .normal,_,W'=>KeepsOthers W W'∧KeepsC K W W'∧Below base.heap.size base W'∧Blks W' (bl xs)∧R xs
 | .ret,_,W'=>KeepsOthers W W'∧Below base.heap.size base W'∧Blks W' (bx .ret xs)∧Rx .ret xs
 | .exit id,_,W'=>KeepsOthers W W'∧Below base.heap.size base W'∧Blks W' (bx (.exit id) xs)∧Rx (.exit id) xs
 | .goto t,_,W'=>KeepsOthers W W'∧Below base.heap.size base W'∧Blks W' (bx (.goto t) xs)∧Rx (.goto t) xs
 | .panic _,_,_=>False
 | .outgrown,_,_=>False
theorem Pg {P:Program} {α:Type} {g:Operand} {ps:Array Tmp} {assign body:Code} {Q:Exit→Act→World→Prop} {a:Act} {w:World} (n:Nat)
  {gf:Nat} {lb:Array Value} (hg:a.eval g = .func (.func gf) #[] lb) (eg:∀ args w,(callFunc gf args).run P w = .ok (.enter gf args) w)
  {encs:α→Array Value} {S Sp:List α→Prop} {N:Nat} (K:Nat→Prop) (hseq:GX (fun _=>False) (n+1) P gf lb encs (KeepsC K) S Sp N w) (hps:∀ x,(encs x).size=ps.size)
  (base:World) (hb:Below base.heap.size base w) (bl:List α→List (Nat×TypeId×Array Value)) (R:List α→Prop) (bx:Code→List α→List (Nat×TypeId×Array Value)) (Rx:Code→List α→Prop)
  (h0:Blks w (bl [])) (hR0:R [])
  (hround:∀ (l:Nat) (pre:List α) (x:α) (W:World),pre.length<N→Below base.heap.size base W→Blks W (bl pre)→R pre →
   assign.wpIn (Fence.wide.inRound l) n P (Exit.then (fun a₁ W₁=>∃ nb:List (Nat×TypeId×Array Value),KeepsOthers W W₁∧KeepsC K W W₁∧Below base.heap.size base W₁∧Blks W₁ (nb++bl pre) ∧
    ∀ (L:Nat) (W2:World),Below base.heap.size base W2→Blks W2 (nb++bl pre)→body.wpIn (Fence.wide.inRound L) n P (Rk K base bl R bx Rx (pre++[x]) W2) a₁ W2) (fun _ _ _=>False)) { tmps:=(ps.zip (encs x)).foldl (fun t (p,v)=>t.setIfInBounds p v) a.tmps,defers:=[] } W)
  (hdone:∀ (D:Nat) (xs:List α) (W:World),base.heap.size≤D→S xs→Below base.heap.size base W→Blks W (bl xs)→R xs→W.heap[D]?=some (.deferred (some []))→Q .normal { a with defers:={ target := .collected D,args:=#[] }::a.defers } W)
  (hstop:∀ (D:Nat) (c:Code) (pre:List α) (W:World),base.heap.size≤D→Sp pre→Below base.heap.size base W→Blks W (bx c pre)→Rx c pre→W.heap[D]?=some (.deferred (some []))→c.wp P Q { a with defers:={ target := .collected D,args:=#[] }::a.defers } W) :
  (Code.rangeFunc g ps assign body).wp P Q a w:=by
 refine jX n hg eg (S:=S) (Sp:=Sp) (N:=N) (w0:=w) (T:=fun _=>False) hseq (fun _ h=>h.elim) KeepsC.trans (fun W l o o' _ hl ho _=>KeepsC.put W l o o' hl ho) (aj _) hps
  (fun pre W'=>Below base.heap.size base W'∧Blks W' (bl pre)∧R pre)
  (fun x a₁ pre W'=>∃ nb:List (Nat×TypeId×Array Value),Below base.heap.size base W'∧Blks W' (nb++bl pre) ∧
   ∀ (L:Nat) (W2:World),Below base.heap.size base W2→Blks W2 (nb++bl pre)→body.wpIn (Fence.wide.inRound L) n P (Rk K base bl R bx Rx (pre++[x]) W2) a₁ W2)
  (fun c pre W'=>Below base.heap.size base W'∧Blks W' (bx c pre)∧Rx c pre)
  (fun pre A' B' row h hg hr=>⟨gz h.1 hg hb.size hr,Blks.kept hg hr h.2.1,h.2.2⟩)
  (fun x a pre A' B' row h hg hr=>by
   obtain ⟨nb,h1,h2,h3⟩:=h;exact ⟨nb,gz h1 hg hb.size hr,Blks.kept hg hr h2,h3⟩)
  (fun c pre A' B' row h hg hr=>⟨gz h.1 hg hb.size hr,Blks.kept hg hr h.2.1,h.2.2⟩)
  (fun _ _ _ _ _ ht=>ht.elim)
  (fun _ _ _ _ _ _ ht=>ht.elim)
  ⟨hb,h0,hR0⟩ ?_ ?_ ?_ ?_
 ·intro l pre x W hI hlen
  refine Go.wpIn_mono (hround l pre x W hlen hI.1 hI.2.1 hI.2.2) ?_;intro e a' w' hp;cases e with
  | normal =>
   obtain ⟨nb,h1,h2,h3,h4,h5⟩:=hp;exact ⟨h1,h2,nb,h3,h4,h5⟩
  | _=>exact hp
 ·intro l pre x a₁ W hI hlen
  obtain ⟨nb,h1,h2,h3⟩:=hI;refine Go.wpIn_mono (h3 l W h1 h2) ?_;intro e a' w' hp;cases e with
  | normal=>exact ⟨hp.1,hp.2.1,hp.2.2.1,hp.2.2.2.1,hp.2.2.2.2⟩
  | ret=>exact ⟨hp.1,hp.2.1,hp.2.2.1,hp.2.2.2⟩
  | exit id=>exact ⟨hp.1,hp.2.1,hp.2.2.1,hp.2.2.2⟩
  | goto t=>exact ⟨hp.1,hp.2.1,hp.2.2.1,hp.2.2.2⟩
  | panic ch=>exact hp.elim
  | outgrown=>exact hp.elim
 ·intro D xs W hD hS hI hd
  exact hdone D xs W (aaj hb.size hD) hS hI.1 hI.2.1 hI.2.2 hd
 ·intro D c pre W hD hS hI hd
  exact hstop D c pre W (aaj hb.size hD) hS hI.1 hI.2.1 hI.2.2 hd
end
section
open Go.RowKit
theorem kZ {F:Fence} {n:Nat} {P:Program} {ops:Array Oper} {rest:List Oper} {o:Oper} {a:Act} {w w':World} {Q:Exit→Act→World→Prop} (hgd:o.guard=none) {ty:TypeId} {x y:Operand} (ho:o.op = .store ty x y) {q v:Value} (hx:a.eval x=q) (hy:a.eval y=v)
  (hl:(Instr.storeAt ty q v).run P w = .ok () w') (h:wpListIn F n P ops Q rest (a.put o.dst undef) w'):wpListIn F n P ops Q (o::rest) a w :=
 wpListIn_plain hgd fun K hK=>by
  refine ⟨fun f hf=>(by unfold Oper.about at hf;rw [ho] at hf;cases hf),?_⟩
  have e:(execOp a.eval o).run P w = .ok .skip w':=by
   unfold execOp
   rw [ho]
   simp only [Sem.run_bind,hx,hy,hl,Result.andThen_ok,Sem.run_pure]
  have hs:o.semAt F.round a.eval=execOp a.eval o:=by
   cases F.round with
   | none=>rfl
   | some l=>exact Oper.semAt_some _ _ _ (by rw [ho];intro c h;cases h)
  rw [hs,e]
  exact hK _ _ h
theorem Ei {P:Program} {w:World} {g:Nat} {t ty:TypeId} {old X:Array Value} (h:Blk w g t old) (hi:(P.info? ty).map (·.size)=some X.size) (ho:old.size=X.size) (h1:X.all (·.oneCell')=true) :
  (Instr.storeAt ty (.pointer (some ⟨g,0,none⟩)) (.agg X)).run P w = .ok () (w.setRow g X):=by
 simp only [Instr.storeAt,Instr.sureAddr,Sem.run_bind,Sem.run_pure,Result.andThen_ok,run_storeVar_row w g t ty old X h hi ho h1]
theorem su {P:Program} {w:World} {t ty:TypeId} {old X:Array Value} (hi:(P.info? ty).map (·.size)=some X.size) (ho:old.size=X.size) (h1:X.all (·.oneCell')=true) :
  (Instr.storeAt ty (.pointer (some ⟨w.heap.size,0,none⟩)) (.agg X)).run P (w.alloc (.cells old t)) = .ok () (w.alloc (.cells X t)):=by
 rw [Ei (Blk.new w t old _ rfl) hi ho h1,qy]
theorem aP {P:Program} {ops:Array Oper} {rest:List Oper} {o:Oper} {a:Act} {w:World} {Q:Exit→Act→World→Prop} (hgd:Region.wanted o (yielded ops a.tmps)=true) {ty:TypeId} {x:Operand} (ho:o.op = .load ty x) {q v:Value} (hx:a.eval x=q)
  (hl:(Instr.loadAt ty q).run P w = .ok v w) (h:wpList P ops Q rest (a.put o.dst v) w):wpList P ops Q (o::rest) a w :=
 wpList_step fun K hK=>by
  rw [if_pos hgd]
  unfold Oper.wp
  rw [af ho hx hl]
  exact hK _ _ h
theorem aG {P:Program} {ops:Array Oper} {rest:List Oper} {o:Oper} {a:Act} {w w':World} {Q:Exit→Act→World→Prop} (hgd:Region.wanted o (yielded ops a.tmps)=true) {ty:TypeId} {x y:Operand} (ho:o.op = .store ty x y) {q v:Value} (hx:a.eval x=q) (hy:a.eval y=v)
  (hl:(Instr.storeAt ty q v).run P w = .ok () w') (h:wpList P ops Q rest (a.put o.dst undef) w'):wpList P ops Q (o::rest) a w :=
 wpList_step fun K hK=>by
  rw [if_pos hgd]
  have e:(execOp a.eval o).run P w = .ok .skip w':=by
   unfold execOp
   rw [ho]
   simp only [Sem.run_bind,hx,hy,hl,Result.andThen_ok,Sem.run_pure]
  unfold Oper.wp
  rw [e]
  exact hK _ _ h
theorem pX {P:Program} {w:World} {g o:Nat} {t ty:TypeId} {cur X:Array Value} (h:Blk w g t cur) (hi:(P.info? ty).map (·.size)=some X.size) (hl:o+X.size≤cur.size) (h1:∀ v∈X.toList,v.oneCell'=true) :
  (Instr.storeAt ty (.pointer (some ⟨g,o,none⟩)) (.agg X)).run P w = .ok () (w.setRow g (cur.toList.take o++X.toList++cur.toList.drop (o+X.size)).toArray):=by
 have:=run_storeCells_at P g o t X.toList 0 cur w h (by simpa using hl) h1
 cases hq:P.info? ty with
 | none=>simp [hq] at hi
 | some i =>
  have hs:X.size=i.size:=by simp [hq] at hi;omega
  simp only [aa9,Array.length_toList] at this;simp [Instr.storeAt,Instr.sureAddr,Sem.run_bind,Sem.run_pure,Result.andThen_ok,storeVar,sizeOf,typeInfo,hq,Value.cells,hs,this]
section
variable {w:World} {g g':Nat} {t t':TypeId} {cs cs' X:Array Value}
theorem Blk.row (h:Blk w g t cs) (X:Array Value):Blk (w.setRow g X) g t X:=setRow_heap w g cs X t _ h
theorem Blk.farRow (h:Blk w g t cs) (hne:g≠g') (X:Array Value):Blk (w.setRow g' X) g t cs:=(setRow_other w g' g X hne).trans h
theorem Blk.farRowT (h:Blk w g t cs) (h2:Blk w g' t' cs') (hne:t≠t') (X:Array Value):Blk (w.setRow g' X) g t cs:=h.farRow (by
 intro e;subst e;unfold Blk at h h2;rw [h] at h2;simp at h2;exact hne h2.2) X
end
theorem aQ {P:Program} {w:World} {g:Nat} {t ty:TypeId} {old X:Array Value} (h:Blk w g t old) (hi:(P.info? ty).map (·.size)=some X.size) (ho:old.size=X.size) (h1:∀ v∈X.toList,v.oneCell'=true) :
  (Instr.storeAt ty (.pointer (some ⟨g,0,none⟩)) (.agg X)).run P w = .ok () (w.setRow g X):=by
 simp only [Instr.storeAt,Instr.sureAddr,Sem.run_bind,Sem.run_pure,Result.andThen_ok,run_storeVar_row w g t ty old X h hi ho (by have:=all_oneCell_toArray h1;simpa using this)]
theorem bP {P:Program} {w:World} {t ty:TypeId} {old X:Array Value} (hi:(P.info? ty).map (·.size)=some X.size) (ho:old.size=X.size) (h1:∀ v∈X.toList,v.oneCell'=true) :
  (Instr.storeAt ty (.pointer (some ⟨w.heap.size,0,none⟩)) (.agg X)).run P (w.alloc (.cells old t)) = .ok () (w.alloc (.cells X t)):=by
 rw [aQ (Blk.new w t old _ rfl) hi ho h1,qy]
end
end Go.Proofs.YthbibbkbaphpkaaGreatDoor
