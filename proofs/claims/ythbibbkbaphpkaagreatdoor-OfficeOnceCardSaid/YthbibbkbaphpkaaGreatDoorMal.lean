/- paths.offices: what it yields. -/
import Derived.Test.YthbibbkbaphpkaaGreatDoorMah
import Derived.Test.YthbibbkbaphpkaaGreatDoorMai
import Derived.Test.YthbibbkbaphpkaaGreatDoorMak
import Derived.WideKeyPair
import Derived.DeepKeys4
set_option maxHeartbeats 16000000
set_option maxRecDepth 1000000
namespace Go.Proofs.YthbibbkbaphpkaaGreatDoor
open _root_.Go.Proofs.Tryz
section
open Go.RowKit
attribute [local go_sem] Oper.semAt_some
def upto (n k:Nat):List (Fin n):=(List.finRange n).take k
theorem Pj (n:Nat):upto n 0=[]:=by simp [upto]
theorem upto_succ {n k:Nat} (h:k<n):upto n k++[⟨k,h⟩]=upto n (k+1):=by
 unfold upto;rw [aaB (by simpa using h)]
 simp
theorem upto_length {n k:Nat} (h:k≤n):(upto n k).length=k:=by
 unfold upto;rw [aav,List.length_finRange];omega
theorem Ej (o:Nat):∀ (l:List Value) (s:Nat) (init:Array Value) (i:Nat),o+s+l.length≤init.size →
  ((l.zipIdx s).foldl (fun cs x=>cs.setIfInBounds (o+x.2) x.1) init)[i]?=if o+s≤i∧i<o+s+l.length then l[i - (o+s)]? else init[i]?
 | [],s,init,i,h=>by
  rw [if_neg (by simp only [List.length_nil];omega)];rfl
 | v::l,s,init,i,h=>by
  rw [List.zipIdx_cons,List.foldl_cons,Ej o l (s+1) _ i (by simp at h ⊢;omega)];simp only [aas] at h ⊢;by_cases h1:o+s=i
  ·subst h1
   rw [if_neg (by omega),if_pos (by omega),Array.getElem?_setIfInBounds_self_of_lt (by omega)]
   simp
  ·rw [Array.getElem?_setIfInBounds_ne h1]
   by_cases h2:o+(s+1)≤i∧i<o+(s+1)+l.length
   ·rw [if_pos h2,if_pos (by omega)]
    rw [show i - (o+s)=(i - (o+(s+1)))+1 by omega];rfl
   ·rw [if_neg h2,if_neg (by omega)]
theorem Du {F:Fence} {n:Nat} {P:Program} {ops:Array Oper} {rest:List Oper} {o:Oper} {a:Act} {w:World} {Q:Exit→Act→World→Prop} (hgd:o.guard=none) {ty:TypeId} {x:Operand} (ho:o.op = .load ty x) {q v:Value} (hx:a.eval x=q)
  (hl:(Instr.loadAt ty q).run P w = .ok v w) (h:wpListIn F n P ops Q rest (a.put o.dst v) w):wpListIn F n P ops Q (o::rest) a w :=
 wpListIn_plain hgd fun K hK=>by
  refine ⟨fun f hf=>(by unfold Oper.about at hf;rw [ho] at hf;cases hf),?_⟩
  have e:=af ho hx hl
  have hs:o.semAt F.round a.eval=execOp a.eval o:=by
   cases F.round with
   | none=>rfl
   | some l=>exact Oper.semAt_some _ _ _ (by rw [ho];intro c h;cases h)
  rw [hs,e]
  exact hK _ _ h
theorem bg {w:World} {g:Nat} {t ty:TypeId} {cs:Array Value} {d:TypeDesc} (h:Blk w g t cs) (hu:prog.underlying ty=some d) (hd:d.isRow=true) (hi:(prog.info? ty).map (·.size)=some cs.size) :
  (Instr.loadAt ty (.pointer (some ⟨g,0,none⟩))).run prog w = .ok (.agg cs) w:=by
 have:=run_loadAt_mid (P:=prog) w g 0 ty cs.toList d (fun j v hj=>by rw [aax,h.cell];simpa using hj) hu hd (by rw [Array.length_toList];exact hi)
 rwa [Array.toArray_toList] at this
end
section
open Go.RowKit
def sD (t:Trn) (bits:List Int):Int:=if t.fit (bits.length:Int)=true then (if bits.all eU=true then 0 else 1) else 140
def Nk (t:Trn) (bits:List Int) (w:World) (r:Ending) (w':World):Prop :=
 Below w.heap.size w w'∧(sD t bits≠0→r = .returned (.tuple #[.slice none 0 0,.int .i64 (sD t bits)])) ∧
 (sD t bits=0→∃ v,r = .returned (.tuple #[v,.int .i64 0])∧w'.ownsRow w.heap.size 158 36 v bits.length ((t.opens bits).flatMap Opn.cl))
theorem XT:∀ v∈dI.toList,v.oneCell'=true:=by
 intro v hv;simp only [dI,aaq,aaw,or_false] at hv;rcases hv with rfl | rfl | rfl | rfl | rfl | rfl | rfl | rfl <;> rfl
def FB:Value := .agg dD.cl.toArray
theorem nD:(prog.info? 158).map (fun i=>(i.zero,i.size,i.bytes))=some (some FB,36,64):=by kernel_rfl
def Trn.opensN (t:Trn) (bits:List Int) (k:Nat):List Opn:=(List.range k).map (fun j=>t.half (bits.getD j 0) j)
theorem Trn.opensN_succ (t:Trn) (bits:List Int) (k:Nat):t.opensN bits (k+1)=t.opensN bits k++[t.half (bits.getD k 0) k]:=by
 unfold Trn.opensN;rw [List.range_succ,aaT];rfl
theorem wS {t:Trn} {s:TS} {w:World} {B j:Nat} (h:TurnAt w B s t) (n:Nat) (hf:t.fit (n:Int)=true) (hj:j<n):((t.opL j).ok∧(t.opL j).salt.length=32)∧(t.opR j).ok∧(t.opR j).salt.length=32:=by
 obtain ⟨⟨h1,h2,h3,h4,h5⟩,_⟩:=Trn.fit_of hf;have e1:t.left.getD j 0∈t.left:=by rw [aS (aac (show j<t.left.length by omega))];exact List.getElem_mem _
 have e2:t.right.getD j 0∈t.right:=by rw [aS (aac (show j<t.right.length by omega))];exact List.getElem_mem _
 have e3:t.rl.getD j (0,0,0)∈t.rl:=by rw [aS (aac (show j<t.rl.length by omega))];exact List.getElem_mem _
 have e4:t.rr.getD j (0,0,0)∈t.rr:=by rw [aS (aac (show j<t.rr.length by omega))];exact List.getElem_mem _
 have e5:t.salts.getD j ([],[])∈t.salts:=by rw [aS (aac (show j<t.salts.length by omega))];exact List.getElem_mem _
 obtain ⟨s1,s2⟩:=h.i4 _ e5;obtain ⟨l1,l2,l3⟩:=h.i2 _ e3;obtain ⟨r1,r2,r3⟩:=h.i3 _ e4;exact ⟨⟨⟨h.i0 _ e1,l1,l2,l3,s1.1,s1.2⟩,s1.1⟩,⟨h.i1 _ e2,r1,r2,r3,s2.1,s2.2⟩,s2.1⟩
theorem Nl (s:TS) (t:Trn) (A:Option Addr) (c:Nat) (bits:List Int) (W:World) (hT:TurnAt W W.heap.size s t) (hA:Rd W W.heap.size 1 A bits.length (ints bits)) (hn:bits.length≤1000000) :
  Calls prog 27 #[.agg (s.cl t),.slice A bits.length c] W (Nk t bits W):=by
 have BT:=Blk.new W 39 (s.cl t) _ rfl;have hb:=bAl (aj W) (.cells (s.cl t) 39);have hT1:=(hT.below hb).more hb.size;have q:=Bz s t (bits.length:Int) _ hT1;have hTz:(s.cl t).size=5:=rfl;obtain ⟨T,hTd⟩:∃ T,s.cl t=T:=⟨_,rfl⟩
 rw [hTd] at BT hb hT1 q hTz ⊢
 have hld:Hid (∀ w,Blk w W.heap.size 39 T→(Instr.loadAt 39 (.pointer (some ⟨W.heap.size,0,none⟩))).run prog w = .ok (.agg T) w) :=
  aab (fun w B=>bg B underlying39 rfl (by rw [hTz];kernel_rfl))
 have l0:=hld.out _ BT;have hnone:Hid (sD t bits=if t.fit (bits.length:Int)=true then (if bits.all eU=true then 0 else 1) else 140):=aab rfl;go_enter func27,ntmps27;go_upto_region 1 with fail;generalize W.alloc (.cells T 39)=w1 at *;cases hf:t.fit (bits.length:Int) with
 | false =>
  have he:Hid (sD t bits=140):=by show _=_;rw [hnone.out,hf];rfl
  rw [hf] at q;clear hf hnone;apply wp_region_lit;refine aP (by rfl) (by rfl) (by rfl) l0 ?_;simp only [Act.put,aaf,aai,aah];go_wp2_with fail;refine q.mono ?_;rintro e w2 ⟨rfl,b2⟩;go_wp2_with fail;go_ret2;exact ⟨ah hb b2,fun _=>by rw [he.out];rfl,fun h=>by rw [he.out] at h;omega⟩
 | true =>
  have he:Hid (sD t bits=if bits.all eU=true then 0 else 1):=by show _=_;rw [hnone.out,hf];rfl
  have HF:=aab hf;rw [hf] at q;clear hf hnone;apply wp_region_lit;refine aP (by rfl) (by rfl) (by rfl) l0 ?_;simp only [Act.put,aaf,aai,aah];go_wp2_with fail;refine q.mono ?_;rintro e w2 ⟨rfl,b2⟩;replace BT:=BT.below b2 BT.lt;replace hb:=ah hb b2;have q2:=yw A c bits w2 ((hA.below hb).more hb.size) (by omega);clear q l0 b2;cases hbt:bits.all eU with
  | false =>
   have he2:Hid (sD t bits=1):=(by show _=_;rw [he.out,hbt];rfl);rw [hbt] at q2;clear hbt he;go_wp2_with fail;refine q2.mono ?_;rintro e w3 ⟨rfl,b3⟩;go_wp2_with fail;go_ret2;exact ⟨ah hb b3,fun _=>by rw [he2.out];rfl,fun h=>by rw [he2.out] at h;omega⟩
  | true =>
   have he2:Hid (sD t bits=0):=(by show _=_;rw [he.out,hbt];rfl);have HB2:=aab hbt;rw [hbt] at q2;clear hbt he;go_wp2_with fail;refine q2.mono ?_;rintro e w3 ⟨rfl,b3⟩;replace BT:=BT.below b3 BT.lt;replace hb:=ah hb b3;clear q2 b3;have q3:=yt w3;go_wp2_with fail;refine q3.mono ?_;rintro e w4 ⟨rfl,b4⟩;replace BT:=BT.below b4 BT.lt;replace hb:=ah hb b4;clear q3 b4;dsimp only
   repeat (first | (refine aG (by rfl) (by rfl) (by rfl) (by rfl) (bP (X:=dI) uh rfl XT) ?_) | go_step)
   obtain ⟨gh,hgh⟩:∃ g,g=w4.heap.size:=⟨_,rfl⟩
   have BH:Blk (w4.alloc (.cells dI 155)) gh 155 dI:=Blk.new w4 _ _ _ hgh;replace BT:=BT.alloc (.cells dI 155);replace hb:=bAl hb (.cells dI 155);rw [←hgh];generalize w4.alloc (.cells dI 155)=w5 at *;clear hgh;unfold dI at BH;go_wp2_with fail
   go_loopw [4,20] (fun row i wr=>∃ (k:Nat) (v:Value),k≤bits.length∧i = .int .i64 k∧row=v∧Below W.heap.size W wr∧Blk wr W.heap.size 39 T∧Blk wr gh 155 #[.string fE,.func (.func 183) #[] #[],.func (.func 184) #[] #[],.func (.func 185) #[] #[],.string dB,.func (.func 186) #[] #[],.func (.func 187) #[] #[],.func (.func 188) #[] #[]] ∧
    wr.ownsRow W.heap.size 158 36 v k ((t.opensN bits k).flatMap Opn.cl)) (fun _ i _=>bits.length - (intOf i).toNat)
   case atStart=>exact ⟨0,_,aao _,rfl,rfl,hb,BT,BH,World.ownsRow_nil _ _ _ _⟩
   case round =>
    clear hb BT BH;obtain ⟨k,v,hk,rfl,rfl,hb,BT,BH,hown⟩:=hrel;by_cases hlt:k<bits.length
    ·obtain ⟨b,hbk⟩:∃ b,bits[k]?=some b:=⟨_,aac hlt⟩
     have hb01:b=0∨b=1:=tZ.1 (aau.1 HB2.out b (aam hbk));obtain ⟨b0,o0,rfl,l0,k0⟩:=jq (hA.below hb) hlt hbk;have hfl:=Trn.fit_of HF.out;obtain ⟨⟨ho1,hs1⟩,ho2,hs2⟩:=wS hT bits.length HF.out hlt;have hT2:=(hT.below hb).more hb.size
     have q4:Hid (∀ w',Below wr.heap.size wr w'→Calls prog 183 #[.agg T,.int .i64 (k:Nat)] w' (Ret (.agg (t.opL k).cl.toArray) w')):=aab (fun w' h=>by
      have:=Rl s t k w' ((hT2.below h).more h.size) (by omega) (by omega) (by omega)
      rwa [hTd] at this)
     have q5:Hid (∀ w',Below wr.heap.size wr w'→Calls prog 186 #[.agg T,.int .i64 (k:Nat)] w' (Ret (.agg (t.opR k).cl.toArray) w')):=aab (fun w' h=>by
      have:=Rn s t k w' ((hT2.below h).more h.size) (by omega) (by omega) (by omega)
      rwa [hTd] at this)
     have hsn:Hid ((t.opensN bits (k+1)).flatMap Opn.cl=(t.opensN bits k).flatMap Opn.cl++(t.half b k).cl):=by
      show _=_;rw [Trn.opensN_succ,aaP,aS hbk];simp
     have h63:k+1≤maxLen:=(by unfold maxLen;omega);have hby:(k+1)*64≤140737488355328:=(by omega);have hbz:=hb.size
     have KS:Hid (∀ w',Below wr.heap.size wr w'→((Instr.loadAt 39 (.pointer (some ⟨W.heap.size,0,none⟩))).run prog w' = .ok (.agg T) w'∧w'.cell? ⟨gh,1,none⟩=some (.func (.func 183) #[] #[])∧w'.cell? ⟨gh,5,none⟩=some (.func (.func 186) #[] #[]))) :=
      aab (fun w' h=>⟨hld.out _ (BT.below h BT.lt),(BH.below h BH.lt).cell 1,(BH.below h BH.lt).cell 5⟩)
     have i0:(0:Int)≤(k:Int):=(by omega);have i1:(k:Int)<(bits.length:Int):=(by omega);clear hbk hfl hT2;rcases hb01 with rfl | rfl
     ·rw [show t.half 0 k=t.opL k from rfl] at hsn
      have hX:=jG (o:=t.opL k) hs1;have hone:∀ u∈(t.opL k).cl,u.oneCell'=true:=Opn.one _;have hlX:(t.opL k).cl.length=36:=(by have:=hX;rw [aae] at this;omega);generalize (t.opL k).cl=X at *;go_upto_region 9 with fail;refine aK (f:=9) KS [(0,1),(1,1),(2,1),(3,1),(4,2),(5,2),(6,1),(7,0),(8,0),(9,3),(10,3)] ?_;simp only [bf,aap,aar]
      iterate 4 refine ak ?_
      refine ax ?_;refine ax (v:=?vq1) (hv:=?hq1) ?_;case hq1=>(intro w hSw;(first | refine (af rfl rfl hSw).trans ?_ | refine (af rfl rfl hSw.1).trans ?_ | refine (af rfl rfl hSw.2.1).trans ?_ | refine (af rfl rfl hSw.2.2.1).trans ?_ | refine (af rfl rfl hSw.2).trans ?_ | refine (af rfl rfl hSw.2.2).trans ?_);with_reducible rfl)
      refine ak ?_;refine au (fun K hK=>?_)
      first | ((refine ji (by rfl) (by rfl) (by rfl) (jP underlying56 nD hX (by omega) (by omega) _) ?_)) | (go_simp;(first | (go_at_call 183;(with_reducible refine (q4.out _ (by with_reducible exact bDr (aj _))).mono ?_);rintro e w6 ⟨rfl,b6⟩;have B6:Below wr.heap.size wr w6:=ah (bDr (aj _)) b6) | skip))
      refine aH hK KS ?_;clear hK K;refine au (fun K hK=>?_)
      first | ((refine ji (by rfl) (by rfl) (by rfl) (jP underlying56 nD hX (by omega) (by omega) _) ?_)) | (go_simp;(first | (go_at_call 183;(with_reducible refine (q4.out _ (by with_reducible exact bDr (aj _))).mono ?_);rintro e w6 ⟨rfl,b6⟩;have B6:Below wr.heap.size wr w6:=ah (bDr (aj _)) b6) | skip))
      refine aH hK KS ?_;clear hK K;refine aN ?_
      first | simp only [aak] | simp only [aat,aak]
      refine aO w6 X (.tmp 25) (.tmp 33) 56 W.heap.size 158 FB 36 64 _ k ((t.opensN bits k).flatMap Opn.cl) (by rfl) (by rfl) underlying56 nD (by rfl) (by omega) (by rfl) (aC hown B6) (by rfl) hlX hone h63 hby (aaj hbz B6.size) ?_;intro v' w' hown4 hg4;have b7:=hg4.below (aC hown B6) (aaj hbz B6.size);have BT2:=hg4.blk (aC hown B6) (BT.below B6 BT.lt) (by decide);have BH2:=hg4.blk (aC hown B6) (BH.below B6 BH.lt) (by decide);have hb7:=(ah hb B6).trans b7;rw [←hsn.out] at hown4;clear KS q4 q5 BT BH;go_wp2_with fail;refine NoPanic.normal ?_;go_wp2_with fail;exact ⟨⟨k+1,_,by omega,by go_num,rfl,hb7,BT2,BH2,hown4⟩,by simp [intOf];omega⟩
     ·rw [show t.half 1 k=t.opR k from rfl] at hsn
      have hX:=jG (o:=t.opR k) hs2;have hone:∀ u∈(t.opR k).cl,u.oneCell'=true:=Opn.one _;have hlX:(t.opR k).cl.length=36:=(by have:=hX;rw [aae] at this;omega);generalize (t.opR k).cl=X at *;go_upto_region 9 with fail;refine aK (f:=9) KS [(0,1),(1,1),(2,1),(3,1),(4,2),(5,2),(6,1),(7,0),(8,0),(9,3),(10,3)] ?_;simp only [bf,aap,aar]
      iterate 4 refine ak ?_
      refine ax ?_;refine ax (v:=?vq2) (hv:=?hq2) ?_;case hq2=>(intro w hSw;(first | refine (af rfl rfl hSw).trans ?_ | refine (af rfl rfl hSw.1).trans ?_ | refine (af rfl rfl hSw.2.1).trans ?_ | refine (af rfl rfl hSw.2.2.1).trans ?_ | refine (af rfl rfl hSw.2).trans ?_ | refine (af rfl rfl hSw.2.2).trans ?_);with_reducible rfl)
      refine ak ?_;refine au (fun K hK=>?_)
      first | ((refine ji (by rfl) (by rfl) (by rfl) (jP underlying56 nD hX (by omega) (by omega) _) ?_)) | (go_simp;(first | (go_at_call 186;(with_reducible refine (q5.out _ (by with_reducible exact bDr (aj _))).mono ?_);rintro e w6 ⟨rfl,b6⟩;have B6:Below wr.heap.size wr w6:=ah (bDr (aj _)) b6) | skip))
      refine aH hK KS ?_;clear hK K;refine au (fun K hK=>?_)
      first | ((refine ji (by rfl) (by rfl) (by rfl) (jP underlying56 nD hX (by omega) (by omega) _) ?_)) | (go_simp;(first | (go_at_call 186;(with_reducible refine (q5.out _ (by with_reducible exact bDr (aj _))).mono ?_);rintro e w6 ⟨rfl,b6⟩;have B6:Below wr.heap.size wr w6:=ah (bDr (aj _)) b6) | skip))
      refine aH hK KS ?_;clear hK K;refine aN ?_
      first | simp only [aak] | simp only [aat,aak]
      refine aO w6 X (.tmp 25) (.tmp 33) 56 W.heap.size 158 FB 36 64 _ k ((t.opensN bits k).flatMap Opn.cl) (by rfl) (by rfl) underlying56 nD (by rfl) (by omega) (by rfl) (aC hown B6) (by rfl) hlX hone h63 hby (aaj hbz B6.size) ?_;intro v' w' hown4 hg4;have b7:=hg4.below (aC hown B6) (aaj hbz B6.size);have BT2:=hg4.blk (aC hown B6) (BT.below B6 BT.lt) (by decide);have BH2:=hg4.blk (aC hown B6) (BH.below B6 BH.lt) (by decide);have hb7:=(ah hb B6).trans b7;rw [←hsn.out] at hown4;clear KS q4 q5 BT BH;go_wp2_with fail;refine NoPanic.normal ?_;go_wp2_with fail;exact ⟨⟨k+1,_,by omega,by go_num,rfl,hb7,BT2,BH2,hown4⟩,by simp [intOf];omega⟩
    ·obtain rfl:k=bits.length:=by omega
     go_wp2_with fail;go_ret2;exact ⟨hb,fun h=>absurd he2.out h,fun _=>⟨_,rfl,hown⟩⟩
structure MS where
 a0:Option Addr
 a1:Option Addr
 a2:Option Addr
 a3:Option Addr
 a4:Option Addr
 c0:Nat
 c1:Nat
 c2:Nat
 c3:Nat
 c4:Nat
def MS.cl (s:MS) (m:Mx):Array Value:=#[.slice s.a0 m.inn.length s.c0,.slice s.a1 m.mid.length s.c1,.slice s.a2 m.out.length s.c2,.slice s.a3 m.left.length s.c3,.slice s.a4 m.right.length s.c4]
structure MixAt (w:World) (B:Nat) (s:MS) (m:Mx):Prop where
 r0:Rd w B 6 s.a0 m.inn.length (m.inn.flatMap Ltr.cl)
 r1:Rd w B 6 s.a1 m.mid.length (m.mid.flatMap Ltr.cl)
 r2:Rd w B 6 s.a2 m.out.length (m.out.flatMap Ltr.cl)
 r3:Rd w B 32 s.a3 m.left.length (m.left.flatMap ag)
 r4:Rd w B 32 s.a4 m.right.length (m.right.flatMap ag)
 d3:∀ d∈m.left,dL d
 d4:∀ d∈m.right,dL d
section
variable {w w':World} {B B':Nat} {s:MS} {m:Mx}
theorem MixAt.below (h:MixAt w B s m) (b:Below B w w'):MixAt w' B s m:=⟨h.r0.below b,h.r1.below b,h.r2.below b,h.r3.below b,h.r4.below b,h.d3,h.d4⟩
theorem MixAt.more (h:MixAt w B s m) (b:B≤B'):MixAt w B' s m:=⟨h.r0.more b,h.r1.more b,h.r2.more b,h.r3.more b,h.r4.more b,h.d3,h.d4⟩
end
theorem Ry:(prog.info? 63).map (·.size)=some 6:=by kernel_rfl
def dF (x:Ltr):Array Value:=#[.int .i64 x.a0,.int .i64 x.b0,.int .i64 x.a1,.int .i64 x.b1,.int .i64 x.a2,.int .i64 x.b2]
theorem UQ (x:Ltr):∀ v∈(dF x).toList,v.oneCell'=true:=by
 intro v hv;simp only [dF,aaq,aaw,or_false] at hv;rcases hv with rfl | rfl | rfl | rfl | rfl | rfl <;> rfl
theorem VN {a b c d e f g h i j k l m n o:Prop} (h1:a) (h2:b) (h3:c) (h4:d∧e∧f∧g∧h∧i) (h5:j∧k∧l∧m∧n∧o):a∧b∧c∧(d∧e∧f∧g∧h∧i)∧(j∧k∧l∧m∧n∧o):=⟨h1,h2,h3,h4,h5⟩
theorem FC {W w2 w':World} {b o B:Nat} {x:Ltr} (hb:Below W.heap.size W w2) (h:Below (W.heap.size+B) w2 w') (hl:b<W.heap.size)
  (hx:W.cell? ⟨b,o,none⟩=some (.int .i64 x.a0)∧W.cell? ⟨b,o+1,none⟩=some (.int .i64 x.b0)∧W.cell? ⟨b,o+2,none⟩=some (.int .i64 x.a1)∧W.cell? ⟨b,o+3,none⟩=some (.int .i64 x.b1)∧W.cell? ⟨b,o+4,none⟩=some (.int .i64 x.a2)∧W.cell? ⟨b,o+5,none⟩=some (.int .i64 x.b2)) :
  w'.cell? ⟨b,o,none⟩=some (.int .i64 x.a0)∧w'.cell? ⟨b,o+1,none⟩=some (.int .i64 x.b0)∧w'.cell? ⟨b,o+2,none⟩=some (.int .i64 x.a1)∧w'.cell? ⟨b,o+3,none⟩=some (.int .i64 x.b1)∧w'.cell? ⟨b,o+4,none⟩=some (.int .i64 x.a2)∧w'.cell? ⟨b,o+5,none⟩=some (.int .i64 x.b2):=by
 have hz:=hb.size;have e:∀ k,w'.cell? ⟨b,k,none⟩=W.cell? ⟨b,k,none⟩:=fun k=>(h.cell (p:=⟨b,k,none⟩) (by show b<_;omega)).trans (hb.cell (p:=⟨b,k,none⟩) hl);simp only [e];exact hx
theorem Rz (s:MS) (m:Mx) (mb j i:Nat) (o:Opn) (x y:Ltr) (W:World) (BM:Blk W mb 47 (s.cl m)) (hM:MixAt W W.heap.size s m) (hi:o.at_=(i:Nat)) (hx:m.inn[i]?=some x) (hy:m.mid[j]?=some y) :
  Calls prog 185 #[.pointer (some ⟨mb,0,none⟩),.int .i64 (j:Nat),.agg o.cl.toArray] W (Ret (.tuple #[x.agg,y.agg]) W):=by
 have h1:i<m.inn.length:=(aag.1 hx).1;have h2:j<m.mid.length:=(aag.1 hy).1;obtain ⟨bx,ox,ex,lx,kx⟩:=jS hM.r0 h1 hx;obtain ⟨by_,oy,ey,ly,ky⟩:=jS hM.r1 h2 hy;have BO:Blk (((W.alloc (.cells o.cl.toArray 158)).alloc (.cells (dF aB) 63)).alloc (.cells (dF aB) 63)) W.heap.size 158 o.cl.toArray:=((Blk.new W _ _ _ rfl).alloc _).alloc _;have BX:Blk (((W.alloc (.cells o.cl.toArray 158)).alloc (.cells (dF aB) 63)).alloc (.cells (dF aB) 63)) (W.heap.size+1) 63 (dF aB):=(Blk.new _ _ _ _ (by simp)).alloc _;have BY:Blk (((W.alloc (.cells o.cl.toArray 158)).alloc (.cells (dF aB) 63)).alloc (.cells (dF aB) 63)) (W.heap.size+1+1) 63 (dF aB):=Blk.new _ _ _ _ (by simp);have hb:=bAl (bAl (bAl (aj W) (.cells o.cl.toArray 158)) (.cells (dF aB) 63)) (.cells (dF aB) 63);have hmb:=BM.lt;replace BM:=BM.below hb hmb;have hc0:=o.cells.1;rw [hi] at hc0;clear hM;obtain ⟨a0,a1,a2,a3,a4,c0,c1,c2,c3,c4⟩:=s;simp only at ex ey;subst ex;subst ey;unfold MS.cl at BM;dsimp only at BM;go_enter func185,ntmps185;go_upto_region 1 with fail;change Code.wp _ _ _ _ (((W.alloc (.cells o.cl.toArray 158)).alloc (.cells (dF aB) 63)).alloc (.cells (dF aB) 63));generalize ((W.alloc (.cells o.cl.toArray 158)).alloc (.cells (dF aB) 63)).alloc (.cells (dF aB) 63)=w2 at *;generalize m.inn.length=n0 at *;generalize m.mid.length=n1 at *;generalize m.out.length=n2 at *;generalize m.left.length=n3 at *;generalize m.right.length=n4 at *;have g1:∀ k,W.heap.size+1≤(⟨W.heap.size+1,k,none⟩:Addr).block:=fun _=>aad _;have g2:∀ k,W.heap.size+1≤(⟨W.heap.size+1+1,k,none⟩:Addr).block:=fun _=>Nat.le_succ _
 have KS:Hid (∀ w',Below (W.heap.size+1) w2 w'→w'.cell? ⟨mb,0,none⟩=some (.slice (some ⟨bx,ox,none⟩) n0 c0)∧w'.cell? ⟨mb,1,none⟩=some (.slice (some ⟨by_,oy,none⟩) n1 c1)∧w'.cell? ⟨W.heap.size,0,none⟩=some (.int .i64 (i:Nat)) ∧
      (w'.cell? ⟨bx,ox+i*6,none⟩=some (.int .i64 x.a0)∧w'.cell? ⟨bx,ox+i*6+1,none⟩=some (.int .i64 x.b0)∧w'.cell? ⟨bx,ox+i*6+2,none⟩=some (.int .i64 x.a1)∧w'.cell? ⟨bx,ox+i*6+3,none⟩=some (.int .i64 x.b1)∧w'.cell? ⟨bx,ox+i*6+4,none⟩=some (.int .i64 x.a2)∧w'.cell? ⟨bx,ox+i*6+5,none⟩=some (.int .i64 x.b2)) ∧
      (w'.cell? ⟨by_,oy+j*6,none⟩=some (.int .i64 y.a0)∧w'.cell? ⟨by_,oy+j*6+1,none⟩=some (.int .i64 y.b0)∧w'.cell? ⟨by_,oy+j*6+2,none⟩=some (.int .i64 y.a1)∧w'.cell? ⟨by_,oy+j*6+3,none⟩=some (.int .i64 y.b1)∧w'.cell? ⟨by_,oy+j*6+4,none⟩=some (.int .i64 y.a2)∧w'.cell? ⟨by_,oy+j*6+5,none⟩=some (.int .i64 y.b2))):=aab (fun w' h=>VN ((BM.below h (by omega)).cell 0) ((BM.below h (by omega)).cell 1) (((BO.below h (by omega)).cell 0).trans (by simpa using hc0)) (FC hb h lx kx) (FC hb h ly ky))
 have w6:=BX.six;have w7:=BY.six;obtain ⟨p0,p1,p2,p3,p4,p5⟩:=BX.six_free;obtain ⟨q0,q1,q2,q3,q4,q5⟩:=BY.six_free;obtain ⟨m0,m1,m2,m3,m4,m5⟩:=w6;obtain ⟨l0,l1,l2,l3,l4,l5⟩:=w7;clear kx ky hc0 hx hy
 go_region_held3 (fun w'=>w'.cell? ⟨mb,0,none⟩=some (.slice (some ⟨bx,ox,none⟩) n0 c0)∧w'.cell? ⟨mb,1,none⟩=some (.slice (some ⟨by_,oy,none⟩) n1 c1)∧w'.cell? ⟨W.heap.size,0,none⟩=some (.int .i64 (i:Nat)) ∧
   (w'.cell? ⟨bx,ox+i*6,none⟩=some (.int .i64 x.a0)∧w'.cell? ⟨bx,ox+i*6+1,none⟩=some (.int .i64 x.b0)∧w'.cell? ⟨bx,ox+i*6+2,none⟩=some (.int .i64 x.a1)∧w'.cell? ⟨bx,ox+i*6+3,none⟩=some (.int .i64 x.b1)∧w'.cell? ⟨bx,ox+i*6+4,none⟩=some (.int .i64 x.a2)∧w'.cell? ⟨bx,ox+i*6+5,none⟩=some (.int .i64 x.b2)) ∧
   (w'.cell? ⟨by_,oy+j*6,none⟩=some (.int .i64 y.a0)∧w'.cell? ⟨by_,oy+j*6+1,none⟩=some (.int .i64 y.b0)∧w'.cell? ⟨by_,oy+j*6+2,none⟩=some (.int .i64 y.a1)∧w'.cell? ⟨by_,oy+j*6+3,none⟩=some (.int .i64 y.b1)∧w'.cell? ⟨by_,oy+j*6+4,none⟩=some (.int .i64 y.a2)∧w'.cell? ⟨by_,oy+j*6+5,none⟩=some (.int .i64 y.b2)))
  (with_reducible refine KS.out _ ?_;repeat (first | with_reducible exact Below.refl _ _ | with_reducible refine Below.drew ?_ | with_reducible refine Below.setCell ?_ (g1 _) _ | with_reducible refine Below.setCell ?_ (g2 _) _))
  (first | fail)
 have hne:W.heap.size+1+1≠W.heap.size+1:=by omega
 have CX:Blk (set6 (set6 w2 (W.heap.size+1) (.int .i64 x.a0) (.int .i64 x.b0) (.int .i64 x.a1) (.int .i64 x.b1) (.int .i64 x.a2) (.int .i64 x.b2)) (W.heap.size+1+1) (.int .i64 y.a0) (.int .i64 y.b0) (.int .i64 y.a1) (.int .i64 y.b1) (.int .i64 y.a2) (.int .i64 y.b2)) (W.heap.size+1) 63 (dF x):=(pU hne _ _ _ _ _ _).trans (Blk.set6 BX _ _ _ _ _ _);have CY:Blk (set6 (set6 w2 (W.heap.size+1) (.int .i64 x.a0) (.int .i64 x.b0) (.int .i64 x.a1) (.int .i64 x.b1) (.int .i64 x.a2) (.int .i64 x.b2)) (W.heap.size+1+1) (.int .i64 y.a0) (.int .i64 y.b0) (.int .i64 y.a1) (.int .i64 y.b1) (.int .i64 y.a2) (.int .i64 y.b2)) (W.heap.size+1+1) 63 (dF y):=Blk.set6 (show Blk (set6 w2 (W.heap.size+1) (.int .i64 x.a0) (.int .i64 x.b0) (.int .i64 x.a1) (.int .i64 x.b1) (.int .i64 x.a2) (.int .i64 x.b2)) (W.heap.size+1+1) _ _ from (pU (Ne.symm hne) _ _ _ _ _ _).trans BY) _ _ _ _ _ _;have hb3:=mG (mG hb (show W.heap.size≤W.heap.size+1 by omega) (.int .i64 x.a0) (.int .i64 x.b0) (.int .i64 x.a1) (.int .i64 x.b1) (.int .i64 x.a2) (.int .i64 x.b2)) (show W.heap.size≤W.heap.size+1+1 by omega) (.int .i64 y.a0) (.int .i64 y.b0) (.int .i64 y.a1) (.int .i64 y.b1) (.int .i64 y.a2) (.int .i64 y.b2);change Exit.then _ _ _ _ (World.drew (set6 (set6 w2 (W.heap.size+1) (.int .i64 x.a0) (.int .i64 x.b0) (.int .i64 x.a1) (.int .i64 x.b1) (.int .i64 x.a2) (.int .i64 x.b2)) (W.heap.size+1+1) (.int .i64 y.a0) (.int .i64 y.b0) (.int .i64 y.a1) (.int .i64 y.b1) (.int .i64 y.a2) (.int .i64 y.b2)))
 replace CX:=Blk.dr CX;replace CY:=Blk.dr CY;replace hb3:=bDr hb3;generalize World.drew (set6 (set6 w2 (W.heap.size+1) (.int .i64 x.a0) (.int .i64 x.b0) (.int .i64 x.a1) (.int .i64 x.b1) (.int .i64 x.a2) (.int .i64 x.b2)) (W.heap.size+1+1) (.int .i64 y.a0) (.int .i64 y.b0) (.int .i64 y.a1) (.int .i64 y.b1) (.int .i64 y.a2) (.int .i64 y.b2))=w5 at *;go_wp2_with fail;unfold dF at CX CY;obtain ⟨u0,u1,u2,u3,u4,u5⟩:=CX.six;obtain ⟨v0,v1,v2,v3,v4,v5⟩:=CY.six;exact bodyPost_ret (v := .tuple #[x.agg,y.agg]) (by simp [results,results185,go_sem,u0,u1,u2,u3,u4,u5,v0,v1,v2,v3,v4,v5,Ltr.agg]) rfl ⟨rfl,hb3⟩
theorem RD (s:MS) (m:Mx) (mb j i:Nat) (o:Opn) (x y:Ltr) (W:World) (BM:Blk W mb 47 (s.cl m)) (hM:MixAt W W.heap.size s m) (hi:o.at_=(i:Nat)) (hx:m.mid[j]?=some x) (hy:m.out[i]?=some y) :
  Calls prog 188 #[.pointer (some ⟨mb,0,none⟩),.int .i64 (j:Nat),.agg o.cl.toArray] W (Ret (.tuple #[x.agg,y.agg]) W):=by
 have h1:j<m.mid.length:=(aag.1 hx).1;have h2:i<m.out.length:=(aag.1 hy).1;obtain ⟨bx,ox,ex,lx,kx⟩:=jS hM.r1 h1 hx;obtain ⟨by_,oy,ey,ly,ky⟩:=jS hM.r2 h2 hy;have BO:Blk (((W.alloc (.cells o.cl.toArray 158)).alloc (.cells (dF aB) 63)).alloc (.cells (dF aB) 63)) W.heap.size 158 o.cl.toArray:=((Blk.new W _ _ _ rfl).alloc _).alloc _;have BX:Blk (((W.alloc (.cells o.cl.toArray 158)).alloc (.cells (dF aB) 63)).alloc (.cells (dF aB) 63)) (W.heap.size+1) 63 (dF aB):=(Blk.new _ _ _ _ (by simp)).alloc _;have BY:Blk (((W.alloc (.cells o.cl.toArray 158)).alloc (.cells (dF aB) 63)).alloc (.cells (dF aB) 63)) (W.heap.size+1+1) 63 (dF aB):=Blk.new _ _ _ _ (by simp);have hb:=bAl (bAl (bAl (aj W) (.cells o.cl.toArray 158)) (.cells (dF aB) 63)) (.cells (dF aB) 63);have hmb:=BM.lt;replace BM:=BM.below hb hmb;have hc0:=o.cells.1;rw [hi] at hc0;clear hM;obtain ⟨a0,a1,a2,a3,a4,c0,c1,c2,c3,c4⟩:=s;simp only at ex ey;subst ex;subst ey;unfold MS.cl at BM;dsimp only at BM;go_enter func188,ntmps188;go_upto_region 1 with fail;change Code.wp _ _ _ _ (((W.alloc (.cells o.cl.toArray 158)).alloc (.cells (dF aB) 63)).alloc (.cells (dF aB) 63));generalize ((W.alloc (.cells o.cl.toArray 158)).alloc (.cells (dF aB) 63)).alloc (.cells (dF aB) 63)=w2 at *;generalize m.inn.length=n0 at *;generalize m.mid.length=n1 at *;generalize m.out.length=n2 at *;generalize m.left.length=n3 at *;generalize m.right.length=n4 at *;have g1:∀ k,W.heap.size+1≤(⟨W.heap.size+1,k,none⟩:Addr).block:=fun _=>aad _;have g2:∀ k,W.heap.size+1≤(⟨W.heap.size+1+1,k,none⟩:Addr).block:=fun _=>Nat.le_succ _
 have KS:Hid (∀ w',Below (W.heap.size+1) w2 w'→w'.cell? ⟨mb,1,none⟩=some (.slice (some ⟨bx,ox,none⟩) n1 c1)∧w'.cell? ⟨mb,2,none⟩=some (.slice (some ⟨by_,oy,none⟩) n2 c2)∧w'.cell? ⟨W.heap.size,0,none⟩=some (.int .i64 (i:Nat)) ∧
      (w'.cell? ⟨bx,ox+j*6,none⟩=some (.int .i64 x.a0)∧w'.cell? ⟨bx,ox+j*6+1,none⟩=some (.int .i64 x.b0)∧w'.cell? ⟨bx,ox+j*6+2,none⟩=some (.int .i64 x.a1)∧w'.cell? ⟨bx,ox+j*6+3,none⟩=some (.int .i64 x.b1)∧w'.cell? ⟨bx,ox+j*6+4,none⟩=some (.int .i64 x.a2)∧w'.cell? ⟨bx,ox+j*6+5,none⟩=some (.int .i64 x.b2)) ∧
      (w'.cell? ⟨by_,oy+i*6,none⟩=some (.int .i64 y.a0)∧w'.cell? ⟨by_,oy+i*6+1,none⟩=some (.int .i64 y.b0)∧w'.cell? ⟨by_,oy+i*6+2,none⟩=some (.int .i64 y.a1)∧w'.cell? ⟨by_,oy+i*6+3,none⟩=some (.int .i64 y.b1)∧w'.cell? ⟨by_,oy+i*6+4,none⟩=some (.int .i64 y.a2)∧w'.cell? ⟨by_,oy+i*6+5,none⟩=some (.int .i64 y.b2))):=aab (fun w' h=>VN ((BM.below h (by omega)).cell 1) ((BM.below h (by omega)).cell 2) (((BO.below h (by omega)).cell 0).trans (by simpa using hc0)) (FC hb h lx kx) (FC hb h ly ky))
 have w6:=BX.six;have w7:=BY.six;obtain ⟨p0,p1,p2,p3,p4,p5⟩:=BX.six_free;obtain ⟨q0,q1,q2,q3,q4,q5⟩:=BY.six_free;obtain ⟨m0,m1,m2,m3,m4,m5⟩:=w6;obtain ⟨l0,l1,l2,l3,l4,l5⟩:=w7;clear kx ky hc0 hx hy
 go_region_held3 (fun w'=>w'.cell? ⟨mb,1,none⟩=some (.slice (some ⟨bx,ox,none⟩) n1 c1)∧w'.cell? ⟨mb,2,none⟩=some (.slice (some ⟨by_,oy,none⟩) n2 c2)∧w'.cell? ⟨W.heap.size,0,none⟩=some (.int .i64 (i:Nat)) ∧
   (w'.cell? ⟨bx,ox+j*6,none⟩=some (.int .i64 x.a0)∧w'.cell? ⟨bx,ox+j*6+1,none⟩=some (.int .i64 x.b0)∧w'.cell? ⟨bx,ox+j*6+2,none⟩=some (.int .i64 x.a1)∧w'.cell? ⟨bx,ox+j*6+3,none⟩=some (.int .i64 x.b1)∧w'.cell? ⟨bx,ox+j*6+4,none⟩=some (.int .i64 x.a2)∧w'.cell? ⟨bx,ox+j*6+5,none⟩=some (.int .i64 x.b2)) ∧
   (w'.cell? ⟨by_,oy+i*6,none⟩=some (.int .i64 y.a0)∧w'.cell? ⟨by_,oy+i*6+1,none⟩=some (.int .i64 y.b0)∧w'.cell? ⟨by_,oy+i*6+2,none⟩=some (.int .i64 y.a1)∧w'.cell? ⟨by_,oy+i*6+3,none⟩=some (.int .i64 y.b1)∧w'.cell? ⟨by_,oy+i*6+4,none⟩=some (.int .i64 y.a2)∧w'.cell? ⟨by_,oy+i*6+5,none⟩=some (.int .i64 y.b2)))
  (with_reducible refine KS.out _ ?_;repeat (first | with_reducible exact Below.refl _ _ | with_reducible refine Below.drew ?_ | with_reducible refine Below.setCell ?_ (g1 _) _ | with_reducible refine Below.setCell ?_ (g2 _) _))
  (first | fail)
 have hne:W.heap.size+1+1≠W.heap.size+1:=by omega
 have CX:Blk (set6 (set6 w2 (W.heap.size+1) (.int .i64 x.a0) (.int .i64 x.b0) (.int .i64 x.a1) (.int .i64 x.b1) (.int .i64 x.a2) (.int .i64 x.b2)) (W.heap.size+1+1) (.int .i64 y.a0) (.int .i64 y.b0) (.int .i64 y.a1) (.int .i64 y.b1) (.int .i64 y.a2) (.int .i64 y.b2)) (W.heap.size+1) 63 (dF x):=(pU hne _ _ _ _ _ _).trans (Blk.set6 BX _ _ _ _ _ _);have CY:Blk (set6 (set6 w2 (W.heap.size+1) (.int .i64 x.a0) (.int .i64 x.b0) (.int .i64 x.a1) (.int .i64 x.b1) (.int .i64 x.a2) (.int .i64 x.b2)) (W.heap.size+1+1) (.int .i64 y.a0) (.int .i64 y.b0) (.int .i64 y.a1) (.int .i64 y.b1) (.int .i64 y.a2) (.int .i64 y.b2)) (W.heap.size+1+1) 63 (dF y):=Blk.set6 (show Blk (set6 w2 (W.heap.size+1) (.int .i64 x.a0) (.int .i64 x.b0) (.int .i64 x.a1) (.int .i64 x.b1) (.int .i64 x.a2) (.int .i64 x.b2)) (W.heap.size+1+1) _ _ from (pU (Ne.symm hne) _ _ _ _ _ _).trans BY) _ _ _ _ _ _;have hb3:=mG (mG hb (show W.heap.size≤W.heap.size+1 by omega) (.int .i64 x.a0) (.int .i64 x.b0) (.int .i64 x.a1) (.int .i64 x.b1) (.int .i64 x.a2) (.int .i64 x.b2)) (show W.heap.size≤W.heap.size+1+1 by omega) (.int .i64 y.a0) (.int .i64 y.b0) (.int .i64 y.a1) (.int .i64 y.b1) (.int .i64 y.a2) (.int .i64 y.b2);change Exit.then _ _ _ _ (World.drew (set6 (set6 w2 (W.heap.size+1) (.int .i64 x.a0) (.int .i64 x.b0) (.int .i64 x.a1) (.int .i64 x.b1) (.int .i64 x.a2) (.int .i64 x.b2)) (W.heap.size+1+1) (.int .i64 y.a0) (.int .i64 y.b0) (.int .i64 y.a1) (.int .i64 y.b1) (.int .i64 y.a2) (.int .i64 y.b2)))
 replace CX:=Blk.dr CX;replace CY:=Blk.dr CY;replace hb3:=bDr hb3;generalize World.drew (set6 (set6 w2 (W.heap.size+1) (.int .i64 x.a0) (.int .i64 x.b0) (.int .i64 x.a1) (.int .i64 x.b1) (.int .i64 x.a2) (.int .i64 x.b2)) (W.heap.size+1+1) (.int .i64 y.a0) (.int .i64 y.b0) (.int .i64 y.a1) (.int .i64 y.b1) (.int .i64 y.a2) (.int .i64 y.b2))=w5 at *;go_wp2_with fail;unfold dF at CX CY;obtain ⟨u0,u1,u2,u3,u4,u5⟩:=CX.six;obtain ⟨v0,v1,v2,v3,v4,v5⟩:=CY.six;exact bodyPost_ret (v := .tuple #[x.agg,y.agg]) (by simp [results,results188,go_sem,u0,u1,u2,u3,u4,u5,v0,v1,v2,v3,v4,v5,Ltr.agg]) rfl ⟨rfl,hb3⟩
end
section
open Go.RowKit Go.Maps Go.WideMaps
def Ih (p:Int×Int):Value := .agg #[.int .i64 p.1,.int .i64 p.2]
def VO (p:Int×Int):Lit := .string (keyBytes [.int .i64 p.1,.int .i64 p.2])
structure PairOk (P:Program) (k e:TypeId):Prop where
 keyed:Keyed P k
 arr:ArrKey P k e 2
 elem:P.underlying e=some (.int .i64)
 rows:∃ m,P.types.size=m+1
def RF (p:Int×Int):Prop:=(Lit.int .i64 p.1).wf=true∧(Lit.int .i64 p.2).wf=true
section
variable {P:Program} {k e0 e t:TypeId} {w w':World} {b n:Nat} {s:Int×Int→Bool}
theorem PairOk.key (h:PairOk P k e0) {p:Int×Int} (hp:RF p):keyOf P k (Ih p)=some (VO p):=keyOf_pair h.arr h.elem h.rows hp.1 hp.2
def PMap (P:Program) (k e:TypeId) (w:World) (b n:Nat) (s:Int×Int→Bool):Prop :=
 ∃ D:DataW Unit,w.ownsMap P k (plainElem P e) b n D∧IsMap D∧∀ p,RF p→D.atKey (VO p) (.lit (.bool false)) = .lit (.bool (s p))
theorem PMap.made (w:World) (P:Program) (k e:TypeId):PMap P k e (w.alloc (.map #[] 0)) w.heap.size 0 (fun _=>false) :=
 ⟨.map [],World.ownsMap_made w P k _,isMap_empty,fun _ _=>rfl⟩
theorem PMap.below (h:PMap P k e w b n s) (hb:Below w.heap.size w w'):PMap P k e w' b n s:=by
 obtain ⟨D,hD,h2⟩:=h;have hlt:=hD.lt;obtain ⟨es,clock,hm,r⟩:=hD;exact ⟨D,⟨es,clock,(hb.block b hlt).trans hm,r⟩,h2⟩
theorem PMap.same {s':Int×Int→Bool} (hs:∀ i,s' i=s i) (h:PMap P k e w b n s):PMap P k e w b n s':=by
 have:s'=s:=funext hs
 rw [this];exact h
theorem PMap.look (h:PMap P k e w b n s) (hk:PairOk P k e0) (he:P.underlying e=some .bool) (ht:P.underlying t=some (.map k e)) (hz:(zeroValue e).run P w = .ok (.bool false) w)
  {p:Int×Int} (hp:RF p):(Instr.lookup t (.map (some b)) (Ih p) false).run P w = .ok (.bool (s p)) w:=by
 obtain ⟨D,h1,_,h3⟩:=h;obtain ⟨v,ps,hrun,hv⟩:=h1.lookup hk.keyed ht hz (plainElem_bool he false) (hk.key hp);rw [h3 p hp] at hv;rw [hrun];cases v <;> simp [plainElem,he] at hv
 rw [hv.1]
theorem zK {ops:Array Oper} {rest:List Oper} {o:Oper} {a:Act} {Q:Exit→Act→World→Prop}
  (hg:o.guard=none) (m x v:Operand) (t:TypeId) (hop:o.op=Op.mapUpdate t m x v) (h:PMap P k e w b n s) (hk:PairOk P k e0) (he:P.underlying e=some .bool) (ht:P.underlying t=some (.map k e))
  (hm:a.eval m = .map (some b)) (hn:n<1000000) (p:Int×Int) (y:Bool) (hx:a.eval x=Ih p) (hv:a.eval v = .bool y) (hp:RF p)
  (hK:∀ w',PMap P k e w' b (n+1) (fun j=>if j=p then y else s j)→w.grownBy w' (some b)→wpList P ops Q rest (a.put o.dst undef) w') :
  wpList P ops Q (o::rest) a w:=by
 obtain ⟨D,h1,h2,h3⟩:=h;refine wpList_mapUpdate_own w hg m x v t hop k e hk.keyed ht _ b n D hm h1 (by unfold maxLen;omega) _ _ _ hx hv (hk.key hp) _ [] (plainElem_bool he y) ?_;intro w' hown hgr;refine hK w' ⟨_,hown,h2.put _ _,fun j hj=>?_⟩ hgr;by_cases hjp:j=p
 ·subst hjp
  rw [atKey_put_same h2 (hk.keyed.key (hk.key hp))]
  simp
 ·rw [atKey_put_other (fun h=>hjp (by
   have e1:=hk.key hj;rw [h] at e1;have e2:=hk.keyed.inj e1 (hk.key hp);unfold Ih at e2;simp at e2;exact Prod.ext e2.1 e2.2)),h3 j hj]
  simp [hjp]
end
end
end Go.Proofs.YthbibbkbaphpkaaGreatDoor
