/- A store of a long array inside a walk of wpIn. -/
import Derived.Test.YtoeobcmmafncmaaGreatDoorSac
import Derived.Test.YtoeobcmmafncmaaGreatDoorSap
import Derived.Test.YtoeobcmmafncmaaGreatDoorSbe
import Derived.Sort.CutIn
import Derived.Test.YtoeobcmmafncmaaGreatDoorSaq
import Derived.Test.YtoeobcmmafncmaaGreatDoorSar
import Derived.Test.YtoeobcmmafncmaaGreatDoorSag
import Derived.Test.YtoeobcmmafncmaaGreatDoorSad
set_option maxRecDepth 1000000
set_option maxHeartbeats 16000000
namespace Go.Proofs.YtoeobcmmafncmaaGreatDoor
open Go.RowKit
theorem wpListIn_store {F:Fence} {n:Nat} {P:Program} {ops:Array Oper} {rest:List Oper} {o:Oper} {a:Act} {w w':World} {Q:Exit→Act→World→Prop} (hgd:o.guard=none) {ty:TypeId} {x y:Operand} (ho:o.op = .store ty x y) {q v:Value} (hx:a.eval x=q) (hy:a.eval y=v)
  (hl:(Instr.storeAt ty q v).run P w = .ok () w') (h:wpListIn F n P ops Q rest (a.put o.dst undef) w'):wpListIn F n P ops Q (o::rest) a w :=
 wpListIn_plain hgd fun K hK=>by
  refine ⟨fun f hf=>(by unfold Oper.about at hf;rw [ho] at hf;cases hf),?_⟩
  have e:(execOp a.eval o).run P w = .ok .skip w':=by
   unfold execOp
   rw [ho]
   simp only [Sem.run_bind,hx,hy,hl,Result.andThen_ok,Sem.run_pure]
  have hs:o.semAt F.round a.eval=execOp a.eval o:=by
   cases F.round with
   | none=>rfl
   | some l=>exact Oper.semAt_some _ _ _ (by rw [ho];intro c h;cases h)
  rw [hs,e]
  exact hK _ _ h
theorem store_row {P:Program} {w:World} {g:Nat} {t ty:TypeId} {old X:Array Value} (h:Blk w g t old) (hi:(P.info? ty).map (·.size)=some X.size) (ho:old.size=X.size) (h1:X.all (·.oneCell')=true) :
  (Instr.storeAt ty (.pointer (some ⟨g,0,none⟩)) (.agg X)).run P w = .ok () (w.setRow g X):=by
 simp only [Instr.storeAt,Instr.sureAddr,Sem.run_bind,Sem.run_pure,Result.andThen_ok,run_storeVar_row w g t ty old X h hi ho h1]
theorem store_fresh {P:Program} {w:World} {t ty:TypeId} {old X:Array Value} (hi:(P.info? ty).map (·.size)=some X.size) (ho:old.size=X.size) (h1:X.all (·.oneCell')=true) :
  (Instr.storeAt ty (.pointer (some ⟨w.heap.size,0,none⟩)) (.agg X)).run P (w.alloc (.cells old t)) = .ok () (w.alloc (.cells X t)):=by
 rw [store_row (Blk.new w t old _ rfl) hi ho h1,setRow_alloc]
attribute [local go_sem] Oper.semAt_some
def headRow (l:List (List Nat)):Nat→List Nat
 | 0=>zerosN 32
 | n+1=>(rowN l n).headD []
theorem headRow_len {l:List (List Nat)} (h:∀ d∈l,dgOk d) (h0:0<l.length):∀ n,(headRow l n).length=32
 | 0=>by simp [headRow,zerosN]
 | n+1=>by
  have hp:∀ n,0<(rowN l n).length:=fun n=>by
   induction n with
   | zero=>exact h0
   | succ n ih=>show 0<(upN (rowN l n)).length;rw [upN_length];omega
  show ((rowN l n).headD []).length=32
  have:=hp n
  match hr:rowN l n with
  | []=>rw [hr] at this;simp at this
  | x::r=>exact (rowN_ok h n x (by rw [hr];simp)).1
theorem KeepsC.of_grown {X Y:World} {row:Option Nat} {B:Nat} (hg:X.grownBy Y row) (hr:∀ r,row=some r→B≤r∧∃ o:Obj,X.heap[r]?=some o∧o.isCells=false):KeepsC (fun _=>True) X Y :=
 ⟨hg.size,fun k t cs fr _ hc=>hg.block k (Array.getElem?_eq_some_iff.1 hc).1 (fun e=>by
  obtain ⟨_,o,ho,hn⟩:=hr k e.symm
  rw [hc] at ho;cases ho;cases hn)⟩
theorem grownBy_setRow (w:World) (g:Nat) (cs:Array Value):w.grownBy (w.setRow g cs) (some g):=⟨rfl,rfl,rfl,by simp,fun k _ hk=>setRow_other w g k cs (fun e=>hk (by rw [e]))⟩
theorem mk_root (A:Option Addr) (c:Nat) (ts:List (List Nat)) (vs:List Value) (W:World) (hA:Rd W W.heap.size 1 A ts.length vs) (hT:∀ (k:Nat) (u:Value) (t:List Nat),vs[k]?=some u→ts[k]?=some t→Sl W W.heap.size 1 u t.length (byts t))
  (hok:∀ t∈ts,okB t∧0<t.length∧t.length≤100000000000) (hn:ts.length≤1000) (hG:ShaG W) :
  Calls Tryz.prog 61 #[.slice A ts.length c] W (Ret (dig (rootN ts)) W):=by
 refine calls_of_wp_dm Tryz.func61 rfl ?_
 simp only [Tryz.ntmps61,List.size_toArray,List.length_cons,List.length_nil,Nat.reduceAdd,Nat.reduceSub,Array.replicate_succ,Array.replicate_zero,List.push_toArray,List.append_toArray,List.nil_append,List.cons_append]
 go_upto_region 1 with fail
 change Code.wp _ _ _ _ (W.alloc (.cells (byts (zerosN 32)).toArray 49))
 have BD:=Blk.new W 49 (byts (zerosN 32)).toArray _ rfl
 have hb:=bAl (bRefl W) (.cells (byts (zerosN 32)).toArray 49)
 generalize W.alloc (.cells (byts (zerosN 32)).toArray 49)=w1 at *
 by_cases h0:ts=[]
 ·subst h0
  have hr:Hid (dig (rootN []) = .agg (byts (taggedN nooS [])).toArray):=Lib.hid rfl
  have hln:(taggedN nooS []).length=32:=taggedN_len _ _
  have q:=tagged_any ⟨#[110,111,110,101]⟩ none 0 0 [] w1 Rd.nil_ (fun _=>⟨rfl,rfl⟩) (by intro x hx;cases hx) (by decide) (by decide) (hG.below hb)
  have hnoo:sb ⟨#[110,111,110,101]⟩=nooS:=by decide
  rw [hnoo] at q
  unfold dig at q
  generalize taggedN nooS []=X at *
  clear hnoo hT hok hA
  go_wp2_with fail
  (with_reducible refine q.mono ?_)
  rintro e w5 ⟨rfl,b5⟩
  have hb5:=bCall hb b5
  have BD5:=BD.below b5 BD.lt
  clear q
  dsimp only
  go_step
  refine wpList_store_row rfl 49 (.tmp 2) (.tmp 7) rfl W.heap.size (byts X).toArray rfl rfl 49 _ BD5 (by rw [List.size_toArray,byts_length,hln];exact dig_info) (by rw [List.size_toArray,List.size_toArray,byts_length,byts_length,hln];rfl) (byts_one _) ?_
  have hb9:=below_setRow hb5 (Nat.le_refl _) (byts X).toArray
  have BD9:Blk (w5.setRow W.heap.size (byts X).toArray) W.heap.size 49 (byts X).toArray:=setRow_heap w5 W.heap.size _ _ 49 _ BD5
  go_wp2_with fail
  exact ⟨.agg (byts X).toArray,results_cell_row rfl _ _ W.heap.size 49 _ (0,0) _ rfl BD9 dig_under rfl (by rw [List.size_toArray,byts_length,hln];exact dig_info),by rw [←hr.out],hb9⟩
 ·have h00:0<ts.length:=by
   rcases Nat.eq_zero_or_pos ts.length with h | h
   ·exact absurd (List.eq_nil_of_length_eq_zero h) h0
   ·exact h
  have hr:Hid (rootN ts=topN ts.length (ts.map leafN)):=Lib.hid (by unfold rootN;rw [if_neg h0])
  have hle:=leafs_ok ts
  have hl0:0<(ts.map leafN).length:=by simpa using h00
  have hg12:1<W.heap.size∧0<W.heap.size:=hG.2.2
  have q:=rows_any A ts.length c w1
  go_wp2_with fail
  (with_reducible refine q.mono ?_)
  rintro e w2 ⟨rfl,rfl⟩
  have BP:=Blk.new w1 121 #[.slice A ts.length c] _ rfl
  have hb2:=bAl hb (.cells #[.slice A ts.length c] 121)
  have BD2:=BD.alloc (.cells #[.slice A ts.length c] 121)
  clear q
  generalize w1.alloc (.cells #[.slice A ts.length c] 121)=w2 at *
  have hseq:=rows_stops w1.heap.size W.heap.size A c ts vs w2 BD2.lt BP (hA.below hb2) (fun k u t hu ht=>(hT k u t hu ht).below hb2) hok h00 hn (hG.below hb2) hg12
  generalize ts.map leafN=l0 at *
  generalize w1.heap.size=bp at *
  clear BP BD hb hA hT hok
  go_wp2_with fail
  refine wp_rangeFuncG 2 (gf:=132) (lb:=#[.pointer (some ⟨bp,0,none⟩)]) rfl (enters_of Tryz.func132 (by kernel_rfl) rfl) (w0:=w2) hseq KeepsC.trans (fun W l o o' _ hl ho _=>KeepsC.put W l o o' hl ho) (bRefl _) (fun _=>rfl)
   (fun pre W'=>Below W.heap.size W W'∧Blk W' W.heap.size 49 (byts (headRow l0 pre.length)).toArray)
   (fun x a₁ pre W'=>((Below W.heap.size W W'∧Blk W' W.heap.size 49 (byts (headRow l0 pre.length)).toArray)∧(∃ B,Sl W' B 32 x (rowN l0 pre.length).length ((rowN l0 pre.length).flatMap byts))∧0<(rowN l0 pre.length).length)∧a₁={ tmps:=#[.slice A ts.length c,undef,.pointer (some ⟨W.heap.size,0,none⟩),x,.slice A ts.length c,.int .i64 ts.length,.bool false,undef,.slice A ts.length c,.func (.func 132) #[] #[.pointer (some ⟨bp,0,none⟩)],x,undef,undef,undef,undef],defers:=[] })
   (fun _ _ _=>False)
   (fun pre A' B' row h hg hr=>⟨bGrown h.1 hg hb2.size hr,h.2.kept hg hr⟩)
   (fun x a pre A' B' row h hg hr=>⟨⟨⟨bGrown h.1.1.1 hg hb2.size hr,h.1.1.2.kept hg hr⟩,by obtain ⟨B,hS⟩:=h.1.2.1;exact ⟨B,hS.keepsC (KeepsC.of_grown hg hr) (fun _ _=>trivial)⟩,h.1.2.2⟩,h.2⟩)
   (fun _ _ _ _ _ h _ _=>h)
   ⟨hb2,BD2⟩ ?assign ?body ?done ?stop
  case assign =>
   rintro L pre x Wc hI ⟨hS,hp⟩ hlen
   gi_wp2
   exact ⟨KeepsOthers.refl _,KeepsC.refl _ _,⟨hI,⟨_,hS⟩,hp⟩,trivial⟩
  case body =>
   rintro L pre x a₁ Wc ⟨⟨⟨hbc,BDc⟩,⟨B,A2,c2,rfl,hR,hc,hc2,_⟩,hp⟩,rfl⟩ hlen
   obtain ⟨b,off,rfl,hbb,hcc⟩:=hR.2 hp
   obtain ⟨d,r,hdr⟩:∃ d r,rowN l0 pre.length=d::r:=by
    match hr:rowN l0 pre.length with
    | []=>rw [hr] at hp;simp at hp
    | x::r=>exact ⟨x,r,rfl⟩
   have hd:dgOk d:=rowN_ok hle pre.length d (by rw [hdr];simp)
   have hld:(byts d).length=32:=by rw [byts_length,hd.1]
   have hlc:=headRow_len hle hl0 pre.length
   have hrun:=load_dig (w:=Wc) (b:=b) (o:=off) hd.1 (fun j u hu=>hcc j u (by
    have hj:j<(byts d).length:=(List.getElem?_eq_some_iff.1 hu).1
    rw [hdr,List.flatMap_cons,List.getElem?_append_left hj];exact hu))
   have hst:=store_row (P:=Tryz.prog) (w:=Wc) (ty:=49) (X:=(byts d).toArray) BDc (by rw [List.size_toArray,hld];exact dig_info) (by rw [List.size_toArray,List.size_toArray,byts_length,hlc,hld]) (byts_one _)
   have hi0:(0:Int)<((rowN l0 pre.length).length:Int):=by omega
   have hhd:Hid (headRow l0 (pre.length+1)=d):=by show (rowN l0 pre.length).headD []=d;rw [hdr];rfl
   clear hdr hcc hR
   generalize (rowN l0 pre.length).length=n at *
   gi_upto_region 5 with fail
   apply wpIn_region_lit
   iterate 6 gi_step
   refine wpListIn_load rfl rfl rfl hrun ?_
   refine wpListIn_store rfl rfl rfl rfl hst ?_
   refine wpListIn_nil ?_
   refine ⟨KeepsOthers.of_grownBy (grownBy_setRow _ _ _) (fun j o e ho=>by cases e;unfold Blk at BDc;rw [BDc] at ho;cases ho;rfl),⟨by simp,fun k t cs fr hk hcx=>setRow_other _ _ _ _ hk⟩,below_setRow hbc (Nat.le_refl _) _,?_⟩
   rw [List.length_append]
   show Blk _ _ _ (byts (headRow l0 (pre.length+1))).toArray
   rw [hhd.out]
   exact setRow_heap _ _ _ _ _ _ BDc
  case done =>
   rintro D xs Wc hD ⟨k,hk,htop⟩ ⟨hbc,BDc⟩ hd
   rw [hk] at BDc
   have hX:Hid (rootN ts=headRow l0 (k+1)):=by show _=_;rw [hr.out];exact htop
   have hlX:=headRow_len hle hl0 (k+1)
   generalize headRow l0 (k+1)=X at *
   have hD':W.heap.size≤D:=Nat.le_trans hb2.size hD
   go_upto_region 6 with fail
   apply wp_region_lit
   refine wpList_load_row rfl 49 (.tmp 2) rfl W.heap.size rfl 49 _ (0,0) _ BDc dig_under rfl (by rw [List.size_toArray,byts_length,hlX];exact dig_info) ?_
   simp only [Act.put,List.setIfInBounds_toArray,List.set_cons_zero,List.set_cons_succ]
   refine wpList_store_row rfl 49 (.tmp 2) (.tmp 14) rfl W.heap.size (byts X).toArray rfl rfl 49 _ BDc (by rw [List.size_toArray,byts_length,hlX];exact dig_info) rfl (byts_one _) ?_
   have hb9:=below_setRow hbc (Nat.le_refl _) (byts X).toArray
   have hdd:(Wc.setRow W.heap.size (byts X).toArray).heap[D]?=some (.deferred (some [])):=by
    rw [setRow_other _ _ _ _ (by intro e;subst e;unfold Blk at BDc;rw [BDc] at hd;cases hd)];exact hd
   have BD9:Blk (Wc.setRow W.heap.size (byts X).toArray) W.heap.size 49 (byts X).toArray:=setRow_heap Wc W.heap.size _ _ 49 _ BDc
   have BD10:=BD9.put (o' := .deferred none) hdd rfl
   go_wp2_with fail
   refine leavesM_mark (by simp) hdd ?_
   exact ⟨.agg (byts X).toArray,results_cell_row rfl _ _ W.heap.size 49 _ (0,0) _ rfl BD10 dig_under rfl (by rw [List.size_toArray,byts_length,hlX];exact dig_info),by rw [hX.out];rfl,bPut hb9 hD' _⟩
  case stop =>
   rintro D c' pre Wc _ _ h _
   exact h.elim
end Go.Proofs.YtoeobcmmafncmaaGreatDoor
namespace Go.Proofs.YtoeobcmmafncmaaGreatDoor
open Go.RowKit
inductive Nb where
 | int (n:Int)
 | txt (A:Option Addr) (c:Nat) (d:List Nat)
def Nb.val:Nb→Value
 | .int n => .iface 3 (.int .i64 n)
 | .txt A c d => .iface 123 (.slice A d.length c)
def Nb.it:Nb→It
 | .int n => .int n
 | .txt _ _ d => .text (dgS d)
def Nb.ok (w:World) (B:Nat):Nb→Prop
 | .int n=>inI n
 | .txt A _ d=>Rd w B 1 A d.length (byts d)∧okB d∧0<d.length∧d.length≤1000000
theorem dgS_size (d:List Nat):(dgS d).size=d.length:=by simp [dgS,dgB,ByteArray.size]
theorem Nb.it_ok {w:World} {B:Nat} {x:Nb} (h:x.ok w B):x.it.ok:=by
 cases x with
 | int n=>exact h
 | txt A c d=>show (dgS d).size≤1000000;rw [dgS_size];exact h.2.2.2
theorem convert_rowN {w:World} {B c:Nat} {A:Option Addr} {d:List Nat} (h:Rd w B 1 A d.length (byts d)) (h0:0<d.length) (ho:okB d):(convert 123 9 (.slice A d.length c)).run Tryz.prog w = .ok (.string (dgS d)) w:=by
 obtain ⟨b,off,rfl,_,hc⟩:=h.2 h0
 have:=run_convert_bytes_back (P:=Tryz.prog) w 123 9 5 ⟨b,off,none⟩ c (dgB d) Tryz.underlying123 Tryz.underlying5 Tryz.underlying9 (fun j hj=>by
  have hj':j<d.length:=by simpa [dgB] using hj
  rw [addr_plus,dgB_at ho j hj]
  refine hc j _ ?_
  simp [byts,hj'])
 rw [show (dgB d).length=d.length by simp [dgB]] at this
 exact this
theorem assertB_no (A:Option Addr) (n c:Nat) (w:World):(Instr.typeAssert (.iface 123 (.slice A n c)) 20 3 true).run Tryz.prog w = .ok (.tuple #[.int .i64 0,.bool false]) w:=by kernel_rfl
theorem assertB_yes (A:Option Addr) (n c:Nat) (w:World):(Instr.typeAssert (.iface 123 (.slice A n c)) 20 123 true).run Tryz.prog w = .ok (.tuple #[.slice A n c,.bool true]) w:=by kernel_rfl
theorem sg_list (A:Option Addr) (n c:Nat) (l:List Nb) (W:World) (hA:Rd W W.heap.size 1 A n (l.map Nb.val)) (hok:∀ x∈l,x.ok W W.heap.size) (hn:n≤100) :
  Calls Tryz.prog 105 #[.slice A n c] W (RetSl 1 (encN (l.map Nb.it)).length (byts (encN (l.map Nb.it))) W):=by
 obtain rfl:l.length=n:=by have:=hA.1;rw [List.length_map,Nat.mul_one] at this;exact this
 go_enter Tryz.func105,Tryz.ntmps105
 go_wp2_with fail
 have BV:=Blk.new W 162 #[.int .i64 3,.int .i64 0,.string ⟨#[]⟩,.slice none 0 0] _ rfl
 have hb:=bAl (bRefl W) (.cells #[.int .i64 3,.int .i64 0,.string ⟨#[]⟩,.slice none 0 0] 162)
 generalize W.alloc (.cells #[.int .i64 3,.int .i64 0,.string ⟨#[]⟩,.slice none 0 0] 162)=w1 at *
 go_loopw [13] (fun i wr=>∃ (k:Nat) (v:Value),k≤l.length∧i = .int .i64 k∧Below W.heap.size W wr∧Blk wr W.heap.size 162 #[.int .i64 3,.int .i64 0,.string ⟨#[]⟩,v]∧wr.ownsRow (W.heap.size+1) 162 4 v k (((l.take k).map Nb.it).flatMap It.cells)) (fun i _=>l.length - (intOf i).toNat)
 case atStart=>exact ⟨0,_,Nat.zero_le _,rfl,hb,BV,World.ownsRow_nil _ _ _ _⟩
 case round =>
  clear hb BV
  obtain ⟨k,v,hk,rfl,hb,BV,hown⟩:=hrel
  have c3:wr.cell? ⟨W.heap.size,3,none⟩=some v:=BV.cell 3
  have z3:=BV.frozen 3
  by_cases hlt:k<l.length
  ·obtain ⟨x,hx⟩:∃ x,Hid (l[k]?=some x):=⟨_,Lib.hid (List.getElem?_eq_getElem hlt)⟩
   obtain ⟨b,off,rfl,hbb,hc⟩:=(hA.below hb).2 (by omega)
   have d0:wr.cell? ⟨b,off+k,none⟩=some x.val:=hc k _ (by rw [List.getElem?_map,hx.out];rfl)
   clear hc
   have hsn:Hid (((l.take (k+1)).map Nb.it).flatMap It.cells=((l.take k).map Nb.it).flatMap It.cells++x.it.cells):=by
    obtain ⟨hk,rfl⟩:=List.getElem?_eq_some_iff.1 hx.out
    show _=_
    rw [List.take_succ_eq_append_getElem hk,List.map_append,List.flatMap_append];simp
   have hbs:W.heap.size+1≤wr.heap.size:=BV.lt
   have h63:k+1≤maxLen:=by unfold maxLen;omega
   have hby:(k+1)*56≤140737488355328:=by omega
   have hxok:=hok x (List.mem_of_getElem? hx.out)
   have hone:=it_one x.it
   cases x with
   | int m =>
    have ta:=assert_int m
    change wr.cell? ⟨b,off+k,none⟩=some (.iface 3 (.int .i64 m)) at d0
    go_wp2_with (at_builtin;refine wpList_append1G wr [.int .i64 1,.int .i64 m,.string ⟨#[]⟩,.slice none 0 0] (.tmp 22) (.tmp 25) 160 (W.heap.size+1) 162 (.agg #[.int .i64 0,.int .i64 0,.string ⟨#[]⟩,.slice none 0 0]) 4 56 v k (((l.take k).map Nb.it).flatMap It.cells) rfl rfl Tryz.underlying160 value_info rfl (by omega) rfl hown rfl rfl hone h63 hby hbs ?_;intro v' w' hown4 hg4;obtain ⟨g',cap',rfl⟩:=ownsRow_succ hown4;have b4:=hg4.below hown hbs;have BV4:=BV.below b4 (by omega);have c4:=val_cell BV4;have z4:=BV4.frozen 3)
    exact ⟨⟨k+1,_,by omega,by go_num,bSet (hb.trans (b4.mono (by omega))) (Nat.le_refl _) _,BV4.set_ 3 _,by rw [hsn.out];exact ownsRow_set hown4 (p:=⟨W.heap.size,3,none⟩) (by show W.heap.size<W.heap.size+1;omega) _⟩,by simp [intOf];omega⟩
   | txt Ad cd d =>
    have ta:=assertB_no Ad d.length cd
    have tb:=assertB_yes Ad d.length cd
    have cv:=convert_rowN (c:=cd) (hxok.1.below hb) hxok.2.2.1 hxok.2.1
    change wr.cell? ⟨b,off+k,none⟩=some (.iface 123 (.slice Ad d.length cd)) at d0
    go_wp2_with (at_builtin;refine wpList_append1G wr [.int .i64 2,.int .i64 0,.string (dgS d),.slice none 0 0] (.tmp 32) (.tmp 36) 160 (W.heap.size+1) 162 (.agg #[.int .i64 0,.int .i64 0,.string ⟨#[]⟩,.slice none 0 0]) 4 56 v k (((l.take k).map Nb.it).flatMap It.cells) rfl rfl Tryz.underlying160 value_info rfl (by omega) rfl hown rfl rfl hone h63 hby hbs ?_;intro v' w' hown4 hg4;obtain ⟨g',cap',rfl⟩:=ownsRow_succ hown4;have b4:=hg4.below hown hbs;have BV4:=BV.below b4 (by omega);have c4:=val_cell BV4;have z4:=BV4.frozen 3)
    exact ⟨⟨k+1,_,by omega,by go_num,bSet (hb.trans (b4.mono (by omega))) (Nat.le_refl _) _,BV4.set_ 3 _,by rw [hsn.out];exact ownsRow_set hown4 (p:=⟨W.heap.size,3,none⟩) (by show W.heap.size<W.heap.size+1;omega) _⟩,by simp [intOf];omega⟩
  ·have hkn:k=l.length:=by omega
   rw [hkn,List.take_length] at hown
   clear hkn
   obtain ⟨A2,c2,hv,hR,_⟩:=Sl.of_own hown
   subst hv
   have e0:wr.cell? ⟨W.heap.size,0,none⟩=some (.int .i64 3):=BV.cell 0
   have e1:wr.cell? ⟨W.heap.size,1,none⟩=some (.int .i64 0):=BV.cell 1
   have e2:wr.cell? ⟨W.heap.size,2,none⟩=some (.string ⟨#[]⟩):=BV.cell 2
   have q:=encode_list A2 l.length c2 (l.map Nb.it) wr hR (by
    intro x hx
    obtain ⟨y,hy,rfl⟩:=List.mem_map.1 hx
    exact Nb.it_ok (hok y hy)) (by omega)
   unfold listV at q
   go_wp2_with fail
   with_reducible refine q.mono ?_
   rintro e w5 ⟨v,rfl,b5,hv⟩
   have hb5:=bCall hb b5
   go_wp2_with fail
   go_ret
   exact ⟨_,rfl,hb5,hv⟩
theorem sg_power (a n:Int) (W:World):Calls Tryz.prog 104 #[.int .i64 a,.int .i64 n] W (Ret (.int .i64 (powV a n)) W):=by
 have q:=group_pow a n W
 generalize powV a n=v at *
 generalize powE a=e at *
 go_enter Tryz.func104,Tryz.ntmps104
 go_wp2_with fail
 (with_reducible refine q.mono ?_)
 rintro r w' ⟨rfl,b'⟩
 go_wp2_with fail
 go_ret
 exact ⟨rfl,b'⟩
theorem ordB_no {E S:Int} (h:(ordB E&&ordB S)=false):(E<0∨S<0)∨(1073741789≤E∨1073741789≤S):=by
 unfold ordB at h
 rw [←Bool.decide_and,decide_eq_false_iff_not] at h
 omega
theorem ordB_yes {E S:Int} (h:(ordB E&&ordB S)=true):(0≤E∧0≤S)∧(E<1073741789∧S<1073741789):=by
 unfold ordB at h
 rw [←Bool.decide_and,decide_eq_true_iff] at h
 omega
theorem sgB_no {key:Int} {b:List Nat} {E S:Int} (h:(ordB E&&ordB S)=false):sgB key b E S=false:=by
 unfold sgB;rw [h];simp
theorem sgB_key {key:Int} {b:List Nat} {E S:Int} (h:validB key=false):sgB key b E S=false:=by
 unfold sgB;rw [h];simp
theorem sgB_yes {key:Int} {b:List Nat} {E S:Int} (h:(ordB E&&ordB S)=true) (hk:validB key=true):sgB key b E S=decide (E=(sgV (ptV key E S) key b:Nat)):=by
 unfold sgB;rw [h,hk];simp
theorem pair_cells {w:World} {g:Nat} {t:TypeId} {E S:Int} (h:Blk w g t #[.int .i64 E,.int .i64 S]):w.cell? ⟨g,0,none⟩=some (.int .i64 E)∧w.cell? ⟨g,1,none⟩=some (.int .i64 S):=⟨h.cell 0,h.cell 1⟩
theorem sg_verify (key:Int) (A:Option Addr) (c:Nat) (b:List Nat) (E S:Int) (W:World) (ik:inI key) (hA:Rd W W.heap.size 1 A b.length (byts b)) (hob:okB b) (h0:0<b.length) (hlen:b.length≤1000000) (hG:ShaG W) :
  Calls Tryz.prog 65 #[.int .i64 key,.slice A b.length c,.agg #[.int .i64 E,.int .i64 S]] W (Ret (.bool (sgB key b E S)) W):=by
 have BE:=Blk.new W 51 #[.int .i64 E,.int .i64 S] _ rfl
 have hb:=bAl (bRefl W) (.cells #[.int .i64 E,.int .i64 S] 51)
 obtain ⟨m,hm⟩:∃ m,(if S<E then S else E)=m:=⟨_,rfl⟩
 obtain ⟨M,hM⟩:∃ M,(if S > E then S else E)=M:=⟨_,rfl⟩
 have hM2:(if E<S then S else E)=M:=hM
 cases ho:ordB E&&ordB S with
 | false =>
  rw [sgB_no ho]
  have h:=ordB_no ho
  clear ho
  obtain ⟨c0,c1⟩:=pair_cells BE
  clear BE
  by_cases h1:m<0
  ·clear h
   go_enter Tryz.func65,Tryz.ntmps65
   go_wp2_with fail
   go_ret
   exact ⟨rfl,hb⟩
  ·have h2:1073741789≤M:=by
    rw [←hM2];rw [←hm] at h1
    split at h1 <;> split <;> omega
   clear h
   go_enter Tryz.func65,Tryz.ntmps65
   go_wp2_with fail
   go_ret
   exact ⟨rfl,hb⟩
 | true =>
  obtain ⟨⟨e1,e2⟩,e3,e4⟩:=ordB_yes ho
  have h1:¬m<0:=by rw [←hm];split <;> omega
  have h2:¬1073741789≤M:=by rw [←hM2];split <;> omega
  have q1:=group_valid key (W.alloc (.cells #[.int .i64 E,.int .i64 S] 51))
  cases hk:validB key with
  | false =>
   rw [hk] at q1
   rw [sgB_key hk]
   clear ho hk
   obtain ⟨c0,c1⟩:=pair_cells BE
   clear BE
   go_enter Tryz.func65,Tryz.ntmps65
   go_wp2_with fail
   (with_reducible refine q1.mono ?_)
   rintro e w1 ⟨rfl,rfl⟩
   clear q1
   go_wp2_with fail
   go_ret
   exact ⟨rfl,hb⟩
  | true =>
   rw [hk] at q1
   rw [sgB_yes ho hk]
   clear ho hk
   obtain ⟨p1,hp1⟩:∃ p,powV 4 S=p:=⟨_,rfl⟩
   obtain ⟨p2,hp2⟩:∃ p,powV key (-E)=p:=⟨_,rfl⟩
   obtain ⟨P,hP⟩:∃ P,mulV p1 p2=P:=⟨_,rfl⟩
   obtain ⟨Pe,hPe⟩:∃ P,mulE p1 p2=P:=⟨_,rfl⟩
   obtain ⟨C,hC⟩:∃ C,sgV P key b=C:=⟨_,rfl⟩
   have hv:sgV (ptV key E S) key b=C:=by unfold ptV;rw [hp1,hp2,hP,hC]
   rw [hv]
   have iP:inI P:=by have:=mulV_in p1 p2;rw [hP] at this;exact ⟨by omega,by omega⟩
   have qa:Hid (∀ w,Calls Tryz.prog 104 #[.int .i64 4,.int .i64 S] w (Ret (.int .i64 p1) w)):=Lib.hid (fun w=>by rw [←hp1];exact sg_power 4 S w)
   have qb:Hid (∀ w,Calls Tryz.prog 104 #[.int .i64 key,.int .i64 (-E)] w (Ret (.int .i64 p2) w)):=Lib.hid (fun w=>by rw [←hp2];exact sg_power key (-E) w)
   have qc:Hid (∀ w,Calls Tryz.prog 55 #[.int .i64 p1,.int .i64 p2] w (Same (.tuple #[.int .i64 P,.int .i64 Pe]) w)):=Lib.hid (fun w=>by rw [←hP,←hPe];exact group_mul p1 p2 w)
   have hneg:Hid (IntKind.i64.wrap (-E) = -E):=by show _=_;rw [IntKind.wrap_i64];omega
   have hl:(encN [It.int P,.int key,.text (dgS b)]).length≤1000012012:=encN_len (by
    intro x hx
    simp only [List.mem_cons,List.not_mem_nil,or_false] at hx
    rcases hx with rfl | rfl | rfl
    ·exact iP
    ·exact ik
    ·show (dgS b).size≤1000000;rw [dgS_size];exact hlen) (by simp)
   have hoE:=okB_encN [It.int P,.int key,.text (dgS b)]
   have qd:Hid (∀ w:World,Below W.heap.size W w→Calls Tryz.prog 105 #[.slice (some ⟨w.heap.size,0,none⟩) 3 3] (w.alloc (.cells #[.iface 3 (.int .i64 P),.iface 3 (.int .i64 key),.iface 123 (.slice A b.length c)] 20)).drew (RetSl 1 (encN [It.int P,.int key,.text (dgS b)]).length (byts (encN [It.int P,.int key,.text (dgS b)])) (w.alloc (.cells #[.iface 3 (.int .i64 P),.iface 3 (.int .i64 key),.iface 123 (.slice A b.length c)] 20)).drew)):=Lib.hid (fun w hw=>by
    refine sg_list (some ⟨w.heap.size,0,none⟩) 3 3 [.int P,.int key,.txt A c b] (w.drew.alloc (.cells ([Nb.int P,.int key,.txt A c b].map Nb.val).toArray 20)) (Rd.new w.drew _ _ 1 3 _ rfl rfl) ?_ (by omega)
    intro x hx
    simp only [List.mem_cons,List.not_mem_nil,or_false] at hx
    rcases hx with rfl | rfl | rfl
    ·exact iP
    ·exact ik
    ·refine ⟨((hA.below hw).more hw.size).below (bAl (bDr (bRefl _)) _) |>.more ?_,hob,h0,hlen⟩
     simp)
   have hC2:hashV (sb sgS) (encN [It.int P,.int key,.text (dgS b)])=C:=hC
   clear hv hC hp1 hp2 hP hPe iP ik h0 hlen
   generalize encN [It.int P,.int key,.text (dgS b)]=En at *
   have qe:Hid (∀ (A:Option Addr) (c:Nat) (w:World),Rd w w.heap.size 1 A En.length (byts En)→(A=none→En.length=0∧c=0)→ShaG w→Calls Tryz.prog 89 #[.string ⟨#[115,105,103,110]⟩,.slice A En.length c] w (Ret (.int .i64 (C:Nat)) w)):=Lib.hid (fun A c w hR hn hGw=>by
    rw [←hC2]
    exact hash_any sgS A En.length c En w hR hn hoE (by decide) (Nat.le_trans hl (by decide)) hGw)
   clear hl hoE hC2 hA hob
   obtain ⟨c0,c1⟩:=pair_cells BE
   go_enter Tryz.func65,Tryz.ntmps65
   go_wp2_with fail
   (with_reducible refine q1.mono ?_)
   rintro e w1 ⟨rfl,rfl⟩
   clear q1
   go_upto_region 3 with fail
   clear c0 c1
   generalize W.alloc (.cells #[.int .i64 E,.int .i64 S] 51)=w1 at *
   have KS:Hid (∀ w',Below w1.heap.size w1 w'→w'.cell? ⟨W.heap.size,0,none⟩=some (.int .i64 E)∧w'.cell? ⟨W.heap.size,1,none⟩=some (.int .i64 S)):=Lib.hid (fun w' h=>pair_cells (BE.below h BE.lt))
   refine wp_region_schB (f:=12) KS [(0,1),(1,2),(3,1),(4,1),(5,2),(6,1),(2,0),(7,0),(8,0),(9,1),(10,1),(11,1),(12,3),(13,3)] ?_
   simp only [pickS,List.getElem?_cons_zero,List.getElem?_cons_succ]
   refine wpSched_t ?_
   refine wpSched_r ?_
   iterate 2 refine wpSched_t ?_
   refine wpSched_r ?_
   refine wpSched_t ?_
   refine wpSched_force (fun K hK=>?_)
   go_simp;(first | (go_at_call 104;(with_reducible refine (qa.out _).mono ?_);rintro e w3 ⟨rfl,b3⟩;have B3:Below w1.heap.size w1 w3:=bCall (by repeat (first | with_reducible exact bRefl _ | with_reducible refine bDr ?_ | with_reducible refine bAl ?_ _)) b3) | (go_at_call 104;(try rw [hneg.out]);(with_reducible refine (qb.out _).mono ?_);rintro e w4 ⟨rfl,b4⟩;have B4:Below w1.heap.size w1 w4:=bCall (by repeat (first | with_reducible exact B3 | with_reducible refine bDr ?_ | with_reducible refine bAl ?_ _)) b4) | (go_at_call 55;(with_reducible refine (qc.out _).mono ?_);rintro e w5 ⟨rfl,rfl⟩) | skip)
   refine shut_go hK KS ?_
   clear hK K
   refine wpSched_force (fun K hK=>?_)
   go_simp;(first | (go_at_call 104;(with_reducible refine (qa.out _).mono ?_);rintro e w3 ⟨rfl,b3⟩;have B3:Below w1.heap.size w1 w3:=bCall (by repeat (first | with_reducible exact bRefl _ | with_reducible refine bDr ?_ | with_reducible refine bAl ?_ _)) b3) | (go_at_call 104;(try rw [hneg.out]);(with_reducible refine (qb.out _).mono ?_);rintro e w4 ⟨rfl,b4⟩;have B4:Below w1.heap.size w1 w4:=bCall (by repeat (first | with_reducible exact B3 | with_reducible refine bDr ?_ | with_reducible refine bAl ?_ _)) b4) | (go_at_call 55;(with_reducible refine (qc.out _).mono ?_);rintro e w5 ⟨rfl,rfl⟩) | skip)
   refine shut_go hK KS ?_
   clear hK K
   refine wpSched_force (fun K hK=>?_)
   go_simp;(first | (go_at_call 104;(with_reducible refine (qa.out _).mono ?_);rintro e w3 ⟨rfl,b3⟩;have B3:Below w1.heap.size w1 w3:=bCall (by repeat (first | with_reducible exact bRefl _ | with_reducible refine bDr ?_ | with_reducible refine bAl ?_ _)) b3) | (go_at_call 104;(try rw [hneg.out]);(with_reducible refine (qb.out _).mono ?_);rintro e w4 ⟨rfl,b4⟩;have B4:Below w1.heap.size w1 w4:=bCall (by repeat (first | with_reducible exact B3 | with_reducible refine bDr ?_ | with_reducible refine bAl ?_ _)) b4) | (go_at_call 55;(with_reducible refine (qc.out _).mono ?_);rintro e w5 ⟨rfl,rfl⟩) | skip)
   refine shut_go hK KS ?_
   clear hK K
   iterate 3 refine wpSched_t ?_
   refine wpSched_last ?_
   first | simp only [List.map_nil] | simp only [List.map_cons,List.map_nil]
   go_wp2_with fail
   refine NoPanic.normal ?_
   go_upto_region 4 with fail
   have BE4:=BE.below B4 BE.lt
   have hb4:=bCall hb B4
   have hG4:=hG.below hb4
   have hw4:Below W.heap.size W w4:=hb4
   clear KS qa qb qc hneg b3 b4 B3 B4 hb BE hG
   have KT:Hid (∀ w',Below w4.heap.size w4 w'→w'.cell? ⟨W.heap.size,0,none⟩=some (.int .i64 E)):=Lib.hid (fun w' h=>(BE4.below h BE4.lt).cell 0)
   refine wp_region_schB (f:=12) KT [(0,1),(1,2),(2,1),(3,1),(4,1),(5,1),(6,1),(7,1),(8,0),(9,0),(10,0),(11,1),(12,3)] ?_
   simp only [pickS,List.getElem?_cons_zero,List.getElem?_cons_succ]
   refine wpSched_t ?_
   refine wpSched_r ?_
   iterate 6 refine wpSched_t ?_
   refine wpSched_force (fun K hK=>?_)
   go_simp;(first | (go_at_call 105;(with_reducible refine (qd.out _ (by repeat (first | with_reducible exact hw4 | with_reducible refine bDr ?_ | with_reducible refine bAl ?_ _))).mono ?_);rintro e w5 ⟨v5,rfl,b5,A5,c5,rfl,hR5,_,_,hn5⟩;have B5:Below w4.heap.size w4 w5:=bCall (by repeat (first | with_reducible exact bRefl _ | with_reducible refine bDr ?_ | with_reducible refine bAl ?_ _)) b5;have hG5:=hG4.below B5) | (go_at_call 89;(with_reducible refine (qe.out _ _ _ hR5 hn5 hG5).mono ?_);rintro e w6 ⟨rfl,b6⟩;have B6:Below w4.heap.size w4 w6:=bCall B5 b6) | skip)
   refine shut_go hK KT ?_
   clear hK K
   refine wpSched_force (fun K hK=>?_)
   go_simp;(first | (go_at_call 105;(with_reducible refine (qd.out _ (by repeat (first | with_reducible exact hw4 | with_reducible refine bDr ?_ | with_reducible refine bAl ?_ _))).mono ?_);rintro e w5 ⟨v5,rfl,b5,A5,c5,rfl,hR5,_,_,hn5⟩;have B5:Below w4.heap.size w4 w5:=bCall (by repeat (first | with_reducible exact bRefl _ | with_reducible refine bDr ?_ | with_reducible refine bAl ?_ _)) b5;have hG5:=hG4.below B5) | (go_at_call 89;(with_reducible refine (qe.out _ _ _ hR5 hn5 hG5).mono ?_);rintro e w6 ⟨rfl,b6⟩;have B6:Below w4.heap.size w4 w6:=bCall B5 b6) | skip)
   refine shut_go hK KT ?_
   clear hK K
   refine wpSched_force (fun K hK=>?_)
   go_simp;(first | (go_at_call 105;(with_reducible refine (qd.out _ (by repeat (first | with_reducible exact hw4 | with_reducible refine bDr ?_ | with_reducible refine bAl ?_ _))).mono ?_);rintro e w5 ⟨v5,rfl,b5,A5,c5,rfl,hR5,_,_,hn5⟩;have B5:Below w4.heap.size w4 w5:=bCall (by repeat (first | with_reducible exact bRefl _ | with_reducible refine bDr ?_ | with_reducible refine bAl ?_ _)) b5;have hG5:=hG4.below B5) | (go_at_call 89;(with_reducible refine (qe.out _ _ _ hR5 hn5 hG5).mono ?_);rintro e w6 ⟨rfl,b6⟩;have B6:Below w4.heap.size w4 w6:=bCall B5 b6) | skip)
   refine shut_go hK KT ?_
   clear hK K
   refine wpSched_t ?_
   refine wpSched_last ?_
   first | simp only [List.map_nil] | simp only [List.map_cons,List.map_nil]
   go_wp2_with fail
   refine NoPanic.normal ?_
   go_wp2_with fail
   go_ret
   exact ⟨rfl,bCall hb4 B6⟩
end Go.Proofs.YtoeobcmmafncmaaGreatDoor
