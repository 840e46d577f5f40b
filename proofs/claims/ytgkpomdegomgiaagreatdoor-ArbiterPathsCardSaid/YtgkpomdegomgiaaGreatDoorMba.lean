/- paths.offices: what it yields. -/
import Derived.Test.YtgkpomdegomgiaaGreatDoorMaw
import Derived.Test.YtgkpomdegomgiaaGreatDoorMaz
import Derived.Test.YtgkpomdegomgiaaGreatDoorMay
set_option maxRecDepth 1000000
set_option maxHeartbeats 16000000
namespace Go.Proofs.YtgkpomdegomgiaaGreatDoor
open Go.RowKit
attribute [local go_sem] Oper.semAt_some
theorem offices_any (cs:Array Value) (v:Value) (w:World) (hv:∃ A n c,v = .slice A n c) :
    Calls Tryz.prog 31 #[.agg cs,v] w fun r w' =>
      r = .returned (.func (.func 68) #[] #[.pointer (some ⟨w.heap.size,0,none⟩),.pointer (some ⟨w.heap.size+1,0,none⟩)])∧w'=(w.alloc (.cells cs 33)).alloc (.cells #[v] 22):=by
  have hmf:∀ (fn:Fn) (first cap:Array Value) (w:World),(Instr.makeFunc fn first cap).run Tryz.prog w = .ok (.func fn first cap) w:=fun _ _ _ _=>rfl
  obtain ⟨A,n,c,rfl⟩:=hv
  go_enter Tryz.func31,Tryz.ntmps31
  go_wp2
  go_ret
  exact ⟨rfl,rfl⟩
def upto (n k:Nat):List (Fin n):=(List.finRange n).take k
theorem upto_zero (n:Nat):upto n 0=[]:=by simp [upto]
theorem upto_succ {n k:Nat} (h:k<n):upto n k++[⟨k,h⟩]=upto n (k+1):=by
  unfold upto
  rw [List.take_succ_eq_append_getElem (by simpa using h)]
  simp
theorem upto_length {n k:Nat} (h:k≤n):(upto n k).length=k:=by
  unfold upto;rw [List.length_take,List.length_finRange];omega
def inV (v0:Value) (jobs:List (Array Value)) (em:Nat→Bool):Nat→Value
  | 0=>v0
  | k+1=>((jobs.getD k #[])[if em k then 0 else 4]?).getD undef
def shc (v0:Value) (keys rests:List Int) (jobs:List (Array Value)) (em:Nat→Bool) (k:Nat):Array Value :=
  #[inV v0 jobs em k,.int .i64 (keys.getD k 0),.int .i64 (rests.getD (k+1) 0)]++jobs.getD k #[]
def offE (v0:Value) (keys rests:List Int) (jobs:List (Array Value)) (em:Nat→Bool) {n:Nat} (i:Fin n):Array Value:=#[.int .i64 (i.val:Nat),.agg (shc v0 keys rests jobs em i.val)]
def JobC (jc:Array Value) (e:Bool):Prop:=jc.size=49∧(∀ v∈jc.toList,v.oneCell'=true)∧(∃ A n c,jc[0]?=some (.slice A n c))∧Lens3 (fun i=>jc[i]?) e
theorem inV_slice {A0:Option Addr} {n0 c0:Nat} {jobs:List (Array Value)} {em:Nat→Bool} (hjobs:∀ k jc,jobs[k]?=some jc→JobC jc (em k)):∀ {k:Nat},k≤jobs.length→∃ A n c,inV (.slice A0 n0 c0) jobs em k = .slice A n c
  | 0,_=>⟨A0,n0,c0,rfl⟩
  | k+1,h=>by
    have hj:jobs[k]?=some jobs[k]:=List.getElem?_eq_getElem (by omega)
    obtain ⟨-,-,⟨A,n,c,h0⟩,⟨_,_,_,_,_,_,A3,n3,c3,_,_,h4,_⟩⟩:=hjobs k _ hj
    show ∃ A n c,((jobs.getD k #[])[if em k then 0 else 4]?).getD undef=_
    rw [List.getD_eq_getElem?_getD,hj]
    show ∃ A n c,((jobs[k])[if em k then 0 else 4]?).getD undef=_
    cases em k
    · exact ⟨A3,n3,c3,by rw [if_neg (by simp)];exact congrArg (fun o=>Option.getD o undef) h4⟩
    · exact ⟨A,n,c,by rw [if_pos rfl];exact congrArg (fun o=>Option.getD o undef) h0⟩
theorem foldl_put (o:Nat):∀ (l:List Value) (s:Nat) (init:Array Value) (i:Nat),o+s+l.length≤init.size →
    ((l.zipIdx s).foldl (fun cs x=>cs.setIfInBounds (o+x.2) x.1) init)[i]?=if o+s≤i∧i<o+s+l.length then l[i - (o+s)]? else init[i]?
  | [],s,init,i,h=>by
    rw [if_neg (by simp only [List.length_nil];omega)];rfl
  | v::l,s,init,i,h=>by
    rw [List.zipIdx_cons,List.foldl_cons,foldl_put o l (s+1) _ i (by simp at h ⊢;omega)]
    simp only [List.length_cons] at h ⊢
    by_cases h1:o+s=i
    · subst h1
      rw [if_neg (by omega),if_pos (by omega),Array.getElem?_setIfInBounds_self_of_lt (by omega)]
      simp
    · rw [Array.getElem?_setIfInBounds_ne h1]
      by_cases h2:o+(s+1)≤i∧i<o+(s+1)+l.length
      · rw [if_pos h2,if_pos (by omega)]
        rw [show i - (o+s)=(i - (o+(s+1)))+1 by omega]
        rfl
      · rw [if_neg h2,if_neg (by omega)]
theorem build_shown {jc:Array Value} (h:jc.size=49) (a b c:Value) :
    Array.foldl (fun cs x=>cs.setIfInBounds (3+x.snd) x.fst) #[a,b,c,.slice none 0 0,.slice none 0 0,.slice none 0 0,.slice none 0 0,.slice none 0 0,.slice none 0 0,.slice none 0 0,.int .i64 0,.int .i64 0,.int .i64 0,.int .i64 0,.int .i64 0,.int .i64 0,.int .i64 0,.int .u8 0,.int .u8 0,.int .u8 0,.int .u8 0,.int .u8 0,.int .u8 0,.int .u8 0,.int .u8 0,.int .u8 0,.int .u8 0,.int .u8 0,.int .u8 0,.int .u8 0,.int .u8 0,.int .u8 0,.int .u8 0,.int .u8 0,.int .u8 0,.int .u8 0,.int .u8 0,.int .u8 0,.int .u8 0,.int .u8 0,.int .u8 0,.int .u8 0,.int .u8 0,.int .u8 0,.int .u8 0,.int .u8 0,.int .u8 0,.int .u8 0,.int .u8 0,.int .i64 0,.int .i64 0,.int .i64 0] jc.zipIdx 0 49=#[a,b,c]++jc:=by
  have e:Array.foldl (fun (cs:Array Value) (x:Value×Nat)=>cs.setIfInBounds (3+x.snd) x.fst) #[a,b,c,.slice none 0 0,.slice none 0 0,.slice none 0 0,.slice none 0 0,.slice none 0 0,.slice none 0 0,.slice none 0 0,.int .i64 0,.int .i64 0,.int .i64 0,.int .i64 0,.int .i64 0,.int .i64 0,.int .i64 0,.int .u8 0,.int .u8 0,.int .u8 0,.int .u8 0,.int .u8 0,.int .u8 0,.int .u8 0,.int .u8 0,.int .u8 0,.int .u8 0,.int .u8 0,.int .u8 0,.int .u8 0,.int .u8 0,.int .u8 0,.int .u8 0,.int .u8 0,.int .u8 0,.int .u8 0,.int .u8 0,.int .u8 0,.int .u8 0,.int .u8 0,.int .u8 0,.int .u8 0,.int .u8 0,.int .u8 0,.int .u8 0,.int .u8 0,.int .u8 0,.int .u8 0,.int .u8 0,.int .i64 0,.int .i64 0,.int .i64 0] jc.zipIdx 0 49 =
      (jc.toList.zipIdx 0).foldl (fun cs x=>cs.setIfInBounds (3+x.2) x.1) #[a,b,c,.slice none 0 0,.slice none 0 0,.slice none 0 0,.slice none 0 0,.slice none 0 0,.slice none 0 0,.slice none 0 0,.int .i64 0,.int .i64 0,.int .i64 0,.int .i64 0,.int .i64 0,.int .i64 0,.int .i64 0,.int .u8 0,.int .u8 0,.int .u8 0,.int .u8 0,.int .u8 0,.int .u8 0,.int .u8 0,.int .u8 0,.int .u8 0,.int .u8 0,.int .u8 0,.int .u8 0,.int .u8 0,.int .u8 0,.int .u8 0,.int .u8 0,.int .u8 0,.int .u8 0,.int .u8 0,.int .u8 0,.int .u8 0,.int .u8 0,.int .u8 0,.int .u8 0,.int .u8 0,.int .u8 0,.int .u8 0,.int .u8 0,.int .u8 0,.int .u8 0,.int .u8 0,.int .u8 0,.int .i64 0,.int .i64 0,.int .i64 0]:=by
    have hs:jc.zipIdx.size=49:=by simp [h]
    rw [←hs,←Array.foldl_toList]
    simp
  rw [e]
  apply Array.ext_getElem?
  intro i
  have hl:jc.toList.length=49:=by simp [h]
  rw [foldl_put 3 jc.toList 0 _ i (by rw [hl];exact Nat.le_refl 52),hl,Array.getElem?_append]
  by_cases hi:3+0≤i∧i<3+0+49
  · rw [if_pos hi,if_neg (by simp;omega)]
    simp
  · rw [if_neg hi]
    by_cases h3:i<3
    · rw [if_pos (by simpa using h3)]
      obtain rfl | rfl | rfl:i=0∨i=1∨i=2:=by omega
      all_goals rfl
    · rw [if_neg (by simp;omega),Array.getElem?_eq_none (by simp;omega),Array.getElem?_eq_none (by simp;omega)]
theorem wpListIn_load {F:Fence} {n:Nat} {P:Program} {ops:Array Oper} {rest:List Oper} {o:Oper} {a:Act} {w:World} {Q:Exit→Act→World→Prop} (hgd:o.guard=none) {ty:TypeId} {x:Operand} (ho:o.op = .load ty x) {q v:Value} (hx:a.eval x=q)
    (hl:(Instr.loadAt ty q).run P w = .ok v w) (h:wpListIn F n P ops Q rest (a.put o.dst v) w):wpListIn F n P ops Q (o::rest) a w :=
  wpListIn_plain hgd fun K hK=>by
    refine ⟨fun f hf=>(by unfold Oper.about at hf;rw [ho] at hf;cases hf),?_⟩
    have e:=exec_load ho hx hl
    have hs:o.semAt F.round a.eval=execOp a.eval o:=by
      cases F.round with
      | none=>rfl
      | some l=>exact Oper.semAt_some _ _ _ (by rw [ho];intro c h;cases h)
    rw [hs,e]
    exact hK _ _ h
theorem load_blk {w:World} {g:Nat} {t ty:TypeId} {cs:Array Value} {d:TypeDesc} (h:Blk w g t cs) (hu:Tryz.prog.underlying ty=some d) (hd:d.isRow=true) (hi:(Tryz.prog.info? ty).map (·.size)=some cs.size) :
    (Instr.loadAt ty (.pointer (some ⟨g,0,none⟩))).run Tryz.prog w = .ok (.agg cs) w:=by
  have:=run_loadAt_mid (P:=Tryz.prog) w g 0 ty cs.toList d (fun j v hj=>by rw [Nat.zero_add,h.cell];simpa using hj) hu hd (by rw [Array.length_toList];exact hi)
  rwa [Array.toArray_toList] at this
theorem setRow_alloc_drew (w:World) (cur cs:Array Value) (t:TypeId):(w.alloc (.cells cur t)).drew.setRow w.heap.size cs=(w.alloc (.cells cs t)).drew:=by
  have:=setRow_alloc w cur cs t
  show ((w.alloc (.cells cur t)).setRow w.heap.size cs).drew=_
  rw [this]
theorem job_info:(Tryz.prog.info? 55).map (·.size)=some 49:=by kernel_rfl
theorem shown_info:(Tryz.prog.info? 91).map (·.size)=some 52:=by kernel_rfl
theorem off_loop (L cb rb g B nj ck cj cr:Nat) (AK AJ:Option Addr) (cs:Array Value) (v0:Value) (keys rests:List Int) (jobs:List (Array Value)) (em:Nat→Bool) (K:Nat→Prop) (J Jx:List (Fin nj)→World→Prop) (W:World)
    (hcb:K cb) (hrb:K rb) (hKg:K g) (hKB:∀ k,k<B→K k) (hKn:∀ k,W.heap.size≤k→K k) (hJ:AbT (fun _=>False) W.heap.size J)
    (hY:∀ pre x W1,J pre W1→pre.length<nj→YieldAt Fence.wide (2+1 - 1) Tryz.prog L (offE v0 keys rests jobs em x) W1 fun e W' =>
      (e = .returned (.bool true)∧J (pre++[x]) W'∧KeepsC K W1 W')∨(e = .returned (.bool false)∧Jx (pre++[x]) W'))
    (hBW:B≤W.heap.size) (hBc:Blk W cb 33 cs) (hBr:Blk W rb 22 #[.slice (some ⟨g,0,none⟩) (nj+1) cr]) (hBg:Blk W g 3 (ints rests).toArray)
    (h3:cs[3]?=some v0) (hv0:∃ A n c,v0 = .slice A n c) (h4:cs[4]?=some (.slice AK nj ck)) (h5:cs[5]?=some (.slice AJ nj cj))
    (hK:Rd W B 1 AK nj (ints keys)) (hJb:Rd W B 49 AJ nj (jobs.flatMap Array.toList)) (hjobs:∀ k jc,jobs[k]?=some jc→JobC jc (em k)) (hjl:jobs.length=nj) (hkl:keys.length=nj) (hrl:rests.length=nj+1) (hn:nj≤1000) (h0:J [] W) :
    CallsIn Fence.wide (2+1) Tryz.prog 68 #[.func (.yield L) #[] #[],.pointer (some ⟨cb,0,none⟩),.pointer (some ⟨rb,0,none⟩)] W fun e W'=>(∃ v,e = .returned v) ∧
      ((∃ ys,ys=upto nj nj∧J ys W')∨(∃ pre,(∃ k,k<nj∧pre=upto nj (k+1))∧Jx pre W')):=by
  obtain ⟨A0,n0,c0,rfl⟩:=hv0
  refine callsIn_of_wp Tryz.func68 rfl trivial ?_ rfl
  simp only [Tryz.ntmps68,List.size_toArray,List.length_cons,List.length_nil,Nat.reduceAdd,Nat.reduceSub,Array.replicate_succ,Array.replicate_zero,List.push_toArray,List.append_toArray,List.nil_append,List.cons_append]
  have d3:=(hBc.cell 3).trans h3
  have d5:=(hBc.cell 5).trans h5
  gi_wp2
  gi_loopw [13,4] (fun i vi wr=>∃ (k:Nat),k≤nj∧i = .int .i64 k∧vi=inV (.slice A0 n0 c0) jobs em k∧Blk wr cb 33 cs∧Blk wr rb 22 #[.slice (some ⟨g,0,none⟩) (nj+1) cr]∧Blk wr g 3 (ints rests).toArray ∧
    Rd wr B 1 AK nj (ints keys)∧Rd wr B 49 AJ nj (jobs.flatMap Array.toList)∧W.heap.size≤wr.heap.size∧J (upto nj k) wr) (fun i _ _=>nj - (intOf i).toNat)
  case atStart=>exact ⟨0,Nat.zero_le _,rfl,rfl,hBc,hBr,hBg,hK,hJb,Nat.le_refl _,by rw [upto_zero];exact h0⟩
  case round =>
    clear hBc hBr hBg hK hJb h0 d3 d5
    obtain ⟨k,hkn,rfl,hvi,hBc,hBr,hBg,hK,hJb,hsz,hJ1⟩:=hrel
    have d4:=(hBc.cell 4).trans h4
    by_cases hlt:k<nj
    · obtain ⟨A4,n4,c4,hv4⟩:∃ A n c,inV (.slice A0 n0 c0) jobs em k = .slice A n c:=inV_slice hjobs (by omega)
      obtain ⟨jc,hjc⟩:∃ jc,Hid (jobs[k]?=some jc):=⟨_,Lib.hid (List.getElem?_eq_getElem (by omega))⟩
      obtain ⟨hs49,hone,⟨B0,m0,e0,hj0⟩,hl3⟩:=hjobs k jc hjc.out
      obtain ⟨bj,offj,rfl,hbj,hcj⟩:=hJb.2 (by omega)
      have hrange:wr.rangeAt bj (offj+k*49) jc.toList:=fun j v hj=>by
        rw [Nat.add_assoc]
        refine hcj _ _ ?_
        have hj49:j<49:=by have:=(List.getElem?_eq_some_iff.1 hj).1;simpa [hs49] using this
        rw [flat_mem jobs k j jc (fun y hy=>by obtain ⟨i,hi⟩:=List.getElem?_of_mem hy;simpa using (hjobs i y hi).1) hjc.out hj49]
        exact hj
      rw [hv4] at hvi
      subst hvi
      have HV:=Lib.hid hv4
      have i0:(0:Int)≤(k:Int):=by omega
      have i1:(k:Int)<(nj:Int):=by omega
      clear hv4
      refine wpIn_wide.2 ?_
      go_upto_region 3 with fail
      apply wp_region_lit
      iterate 6 go_step
      refine wpList_load_mid rfl 55 (.tmp 16) rfl bj (offj+k*49) rfl jc.toList _ hrange Tryz.underlying55 rfl (by rw [Array.length_toList,hs49];exact job_info) ?_
      rw [Array.toArray_toList]
      iterate 6 go_step
      have hone':jc.all (·.oneCell')=true:=by have:=all_oneCell_toArray hone;simpa using this
      refine wpList_store_row rfl 55 (.tmp 6) (.tmp 17) rfl wr.heap.size jc rfl rfl 55 _ (Blk.new wr _ _ _ rfl) (by rw [hs49];exact job_info) (by rw [hs49];rfl) hone' ?_
      rw [setRow_alloc]
      have BJ:Blk (wr.alloc (.cells jc 55)) wr.heap.size 55 jc:=Blk.new wr _ _ _ rfl
      have hb1:=bAl (bRefl wr) (.cells jc 55)
      obtain ⟨ky,hky⟩:∃ x,Hid (keys[k]?=some x):=⟨_,Lib.hid (List.getElem?_eq_getElem (by omega))⟩
      obtain ⟨rt,hrt⟩:∃ x,Hid (rests[k+1]?=some x):=⟨_,Lib.hid (List.getElem?_eq_getElem (by omega))⟩
      obtain ⟨bk,offk,rfl,hbk,ck0⟩:=Int_at hK hlt hky.out
      have hBw:B≤wr.heap.size:=by omega
      have hJ2:=hJ.1 _ _ _ none hJ1 (World.grownBy_alloc wr (.cells jc 55) none) (by intro r e;cases e)
      generalize wr.alloc (.cells jc 55)=w1 at *
      have KS:Hid (∀ w',Below w1.heap.size w1 w'→_):=Lib.hid (fun w' h=>and6 (run_loadAt_mid (P:=Tryz.prog) w' wr.heap.size 0 55 jc.toList _ (fun j v hj=>by rw [Nat.zero_add,(BJ.below h BJ.lt).cell];simpa using hj) Tryz.underlying55 rfl (by rw [Array.length_toList,hs49];exact job_info))
        (((hBc.below (bCall hb1 h) hBc.lt).cell 4).trans h4) (((bCall hb1 h).cell (p:=⟨bk,offk+k,none⟩) (by show bk<_;omega)).trans ck0) ((hBr.below (bCall hb1 h) hBr.lt).cell 0)
        (((hBg.below (bCall hb1 h) hBg.lt).cell (k+1)).trans (show (ints rests).toArray[k+1]?=some (.int .i64 rt) by rw [List.getElem?_toArray];exact ints_at hrt.out)) trivial)
      rw [Array.toArray_toList] at KS
      go_upto_region 4 with fail
      have i2:IntKind.i64.wrap ((k:Int)+1)=(k:Int)+1:=by rw [IntKind.wrap_i64];omega
      have i3:((k:Int)+1).toNat=k+1:=by omega
      have i4:(k:Int)+1<(nj:Int)+1:=by omega
      have i5:(0:Int)≤(k:Int)+1:=by omega
      refine wp_region_maskB (f:=14) (n:=1) KS [1,1,2,1,1,2,2,1,1,1,2,2,1,0,0] ?_
      simp only [pickH,pickT]
      refine wpHeads_t ?_
      refine wpHeads_t ?_
      refine wpHeads_r ?_
      refine wpHeads_t ?_
      refine wpHeads_t ?_
      refine wpHeads_r ?_
      refine wpHeads_r ?_
      refine wpHeads_t ?_
      refine wpHeads_t ?_
      refine wpHeads_t ?_
      refine wpHeads_r ?_
      refine wpHeads_r (v:=?v1) (hv:=?h1) ?_;case h1=>(intro w hSw;(first | refine (exec_load rfl rfl hSw.1).trans ?_ | refine (exec_load rfl rfl hSw.2.1).trans ?_ | refine (exec_load rfl rfl hSw.2.2.1).trans ?_ | refine (exec_load rfl rfl hSw.2.2.2.1).trans ?_);with_reducible rfl)
      refine wpHeads_t ?_
      refine wpHeads_nil ?_
      iterate 1 (refine wpTailS_cons (fun K hK=>?_);go_simp;(first | (fail) | skip);refine mask_go hK KS ?_;clear hK K)
      refine wpTailS_zero ?_
      rw [build_shown hs49]
      have hX:∀ v∈((#[.slice A4 n4 c4,.int .i64 ky,.int .i64 rt]:Array Value)++jc).toList,v.oneCell'=true:=by
        intro v hv
        rw [Array.toList_append] at hv
        rcases List.mem_append.1 hv with hv | hv
        · simp only [List.mem_cons,List.not_mem_nil,or_false] at hv
          rcases hv with rfl | rfl | rfl <;> rfl
        · exact hone v hv
      have hX':((#[.slice A4 n4 c4,.int .i64 ky,.int .i64 rt]:Array Value)++jc).all (·.oneCell')=true:=by have:=all_oneCell_toArray hX;rwa [Array.toArray_toList] at this
      have hXs:((#[.slice A4 n4 c4,.int .i64 ky,.int .i64 rt]:Array Value)++jc).size=52:=by simp [hs49]
      have hXe:offE (.slice A0 n0 c0) keys rests jobs em (⟨k,hlt⟩:Fin nj)=#[.int .i64 (k:Nat),.agg ((#[.slice A4 n4 c4,.int .i64 ky,.int .i64 rt]:Array Value)++jc)]:=by
        unfold offE shc
        rw [HV.out,List.getD_eq_getElem?_getD (l:=keys),List.getD_eq_getElem?_getD (l:=rests),List.getD_eq_getElem?_getD (l:=jobs),hky.out,hrt.out,hjc.out]
        rfl
      have hX3:∀ i,((#[.slice A4 n4 c4,.int .i64 ky,.int .i64 rt]:Array Value)++jc)[3+i]?=jc[i]?:=fun i=>by
        rw [Array.getElem?_append_right (by simp)];simp
      generalize ((#[.slice A4 n4 c4,.int .i64 ky,.int .i64 rt]:Array Value)++jc)=X at *
      refine wpList_store_row (by rfl) 91 (.tmp 7) (.tmp 30) (by rfl) w1.heap.size X (by rfl) (by rfl) 91 _ (Blk.dr (Blk.new w1 _ _ _ rfl)) (by rw [hXs];exact shown_info) (by rw [hXs];rfl) hX' ?_
      rw [setRow_alloc_drew]
      have BX:Blk (w1.alloc (.cells X 91)).drew w1.heap.size 91 X:=Blk.dr (Blk.new w1 _ _ _ rfl)
      have BJ2:=Blk.dr (BJ.alloc (.cells X 91))
      have hb2:=bDr (bAl hb1 (.cells X 91))
      have hJ3:=hJ.1 _ _ _ none (hJ.1 _ _ _ none hJ2 (World.grownBy_alloc w1 (.cells X 91) none) (by intro r e;cases e)) (grownBy_below (bDr (bRefl (w1.alloc (.cells X 91)))) none) (by intro r e;cases e)
      have hw1:=hb1.size
      have hw2:=BJ.lt
      clear BJ hb1 KS hJ2 i2 i3 i4 i5
      generalize (w1.alloc (.cells X 91)).drew=w2 at *
      have Bc2:=hBc.below hb2 hBc.lt
      have Br2:=hBr.below hb2 hBr.lt
      have Bg2:=hBg.below hb2 hBg.lt
      have K2:=hK.below (hb2.mono hBw)
      have J2:=hJb.below (hb2.mono hBw)
      have hlen:(upto nj k).length<nj:=by rw [upto_length (by omega)];exact hlt
      obtain ⟨fn,tmps,assign,body,hy,hR⟩:=hY (upto nj k) ⟨k,hlt⟩ _ hJ3 hlen
      rw [hXe] at hy
      rw [upto_succ hlt] at hR
      clear hY hXe hX hX' hJ3 hJ1 hrange hcj ck0 hBc hBr hBg hK hJb hone hone'
      go_upto_region 5 with fail
      refine NoPanic.normal ?_
      go_upto_region 5 with fail
      refine (wpIn_wide (n:=3)).1 ?_
      apply wpIn_region_lit
      have LX:(Instr.loadAt 91 (.pointer (some ⟨w1.heap.size,0,none⟩))).run Tryz.prog w2 = .ok (.agg X) w2:=load_blk BX Tryz.underlying91 rfl (by rw [hXs];exact shown_info)
      iterate 6 gi_step
      refine wpListIn_load rfl rfl rfl LX ?_
      gi_wp2
      refine hR.mono ?_
      rintro e W3 (⟨rfl,hJ3,hk3⟩ | ⟨rfl,hJx3⟩)
      · have Bc3:=hk3.blk hcb Bc2
        have Br3:=hk3.blk hrb Br2
        have Bg3:=hk3.blk hKg Bg2
        have K3:=hk3.rd hKB K2
        have J3:=hk3.rd hKB J2
        have BX3:=hk3.blk (hKn _ (by omega)) BX
        have BJ3:=hk3.blk (hKn _ (by omega)) BJ2
        have hs3:=Nat.le_trans (show W.heap.size≤w2.heap.size by have:=hb2.size;omega) hk3.1
        clear hy LX Bc2 Br2 Bg2 K2 J2 BX BJ2 hk3 hb2
        have hl3':=hl3
        obtain ⟨A1,n1,c1,A2,n2,c2,A3,n3,c3,-,-,h4',-,-,-,-⟩:=hl3'
        have y4:W3.cell? ⟨wr.heap.size,4,none⟩=some (.slice A3 n3 c3):=(BJ3.cell 4).trans h4'
        have y0:W3.cell? ⟨wr.heap.size,0,none⟩=some (.slice B0 m0 e0):=(BJ3.cell 0).trans hj0
        have hl4:Lens3 (fun i=>X[3+i]?) (em k):=by simp only [hX3];exact hl3
        have hin0:Hid (em k=true→inV (.slice A0 n0 c0) jobs em (k+1) = .slice B0 m0 e0):=fun he=>by
          show ((jobs.getD k #[])[if em k then 0 else 4]?).getD undef=_
          rw [List.getD_eq_getElem?_getD,hjc.out,he]
          exact congrArg (fun o=>Option.getD o undef) hj0
        have hin1:Hid (em k=false→inV (.slice A0 n0 c0) jobs em (k+1) = .slice A3 n3 c3):=fun he=>by
          show ((jobs.getD k #[])[if em k then 0 else 4]?).getD undef=_
          rw [List.getD_eq_getElem?_getD,hjc.out,he]
          exact congrArg (fun o=>Option.getD o undef) h4'
        gi_wp2
        go_upto_region 7 with fail
        apply wp_region_lit
        refine wpList_load_row rfl 91 (.tmp 7) rfl w1.heap.size rfl 91 X (0,0) _ BX3 Tryz.underlying91 rfl (by rw [hXs];exact shown_info) ?_
        have q:=pa_bare_ X (em k) W3 hl4
        clear hl4 hl3 hX3 BX3 hXs h4' hj0
        have i2:IntKind.i64.wrap ((k:Int)+1)=(k:Int)+1:=by rw [IntKind.wrap_i64];omega
        go_wp2_with fail
        (with_reducible refine q.mono ?_)
        rintro e w4 ⟨rfl,b4⟩
        clear q
        have y0':=(b4.cell (p:=⟨wr.heap.size,0,none⟩) BJ3.lt).trans y0
        have Bc4:=Bc3.below b4 Bc3.lt
        have Br4:=Br3.below b4 Br3.lt
        have Bg4:=Bg3.below b4 Bg3.lt
        have hBW3:B≤W3.heap.size:=by omega
        have K4:=K3.below (b4.mono hBW3)
        have J4:=J3.below (b4.mono hBW3)
        have hs4:=Nat.le_trans hs3 b4.size
        have hJ4:=hJ.1 _ _ _ none hJ3 (grownBy_below b4 none) (by intro r e;cases e)
        clear Bc3 Br3 Bg3 K3 J3 hs3 hJ3 BJ3 y0 y4 b4
        cases hem:em k
        · have hv:=hin1.out hem
          clear hin0 hin1 hem
          go_wp2_with fail
          exact ⟨⟨k+1,by omega,by go_num,hv.symm,Bc4,Br4,Bg4,K4,J4,hs4,hJ4⟩,by simp [intOf];omega⟩
        · have hv:=hin0.out hem
          clear hin0 hin1 hem
          go_wp2_with fail
          exact ⟨⟨k+1,by omega,by go_num,hv.symm,Bc4,Br4,Bg4,K4,J4,hs4,hJ4⟩,by simp [intOf];omega⟩
      · gi_wp2
        go_wp2_with fail
        refine bodyPost_ret (results_none rfl _ _ _) rfl ?_
        exact ⟨⟨_,rfl⟩,.inr ⟨_,⟨k,hlt,rfl⟩,hJx3⟩⟩
    · have:k=nj:=by omega
      subst this
      gi_wp2
      go_end0
      exact ⟨⟨_,rfl⟩,.inl ⟨_,rfl,hJ1⟩⟩
end Go.Proofs.YtgkpomdegomgiaaGreatDoor
namespace Go.Proofs.YtgkpomdegomgiaaGreatDoor
open Go.RowKit
structure Cs where
  first:List Ltr
  keys:List Int
  jobs:List Jb
  place:Int
  words:Wd
  r0:Int
  r1:Int
  r2:Int
  steps:List Stp
def zeroJ:Jb:=⟨[],[],[],[],[],[],[]⟩
def zeroS:Stp:=⟨0,⟨0,0,0,0,List.replicate 32 0⟩,⟨0,0,0,0,List.replicate 32 0⟩,-1⟩
def Cs.jobAt (c:Cs) (k:Nat):Jb:=c.jobs.getD k zeroJ
def nextL (j:Jb):List Ltr:=if j.emptyB then j.bare else j.mo
def Cs.inAt (c:Cs):Nat→List Ltr
  | 0=>c.first
  | k+1=>nextL (c.jobAt k)
def Cs.keyAt (c:Cs) (k:Nat):Int:=c.keys.getD k 0
def Cs.restAt (c:Cs) (k:Nat):Int:=(restL c.keys).getD k 0
def Cs.stepAt (c:Cs) (k:Nat):Stp:=c.steps.getD k zeroS
def Cs.bareAt (c:Cs) (i:Nat):Bool:=!(c.jobAt i).emptyB||checkBareB (c.keyAt i) (c.inAt i) (c.jobAt i).bare (c.jobAt i).proofs
def Cs.whyAt (c:Cs) (i k:Nat):Int:=if (c.stepAt i).mid = -1 then 5 else
  if strippedB (c.keyAt i) (c.inAt i) (c.jobAt i) k=true then (if openedB (c.restAt (i+1)) (c.inAt i).length (c.jobAt i) (c.stepAt i) k=true then 0 else 4) else 3
def Cs.way (c:Cs):Nat→Nat→Nat→Int×Int
  | 0,_,_=>(0,0)
  | f+1,i,k=>if (c.jobAt i).emptyB=true then c.way f (i+1) k else if c.whyAt i k=0 then c.way f (i+1) (c.stepAt i).right.at_.toNat else ((i:Int),c.whyAt i k)
def Cs.formed (c:Cs):Bool:=formedB c.keys.length c.jobs.length c.steps.length c.first c.place
def Cs.valid (c:Cs):Bool:=c.keys.all validB
def Cs.bares (c:Cs):Bool:=(List.range c.keys.length).all c.bareAt
def Cs.sealed (c:Cs):Bool:=decide (sealE (c.restAt 0) c.words.x c.words.y c.words.z=0)&&(sealV (c.restAt 0) c.words.x c.words.y c.words.z c.r0 c.r1 c.r2).eqB (c.first.getD c.place.toNat zeroL)
def Cs.check (c:Cs):Int×Int×Int :=
  if c.formed=true then (if c.valid=true then (if c.bares=true then (if c.sealed=true then ((c.way c.keys.length 0 c.place.toNat).1,(c.way c.keys.length 0 c.place.toNat).2,0) else (0,1,0)) else (0,0,550)) else (0,0,550)) else (0,0,550)
def Cs.go (c:Cs) {n:Nat} (σ:Option Nat) (i:Fin n):Option Nat:=σ.bind fun k=>if (c.jobAt i.val).emptyB=true then some k else if c.whyAt i.val k=0 then some (c.stepAt i.val).right.at_.toNat else none
theorem Cs.way_go (c:Cs) {n:Nat} (p0:Nat):∀ {k p:Nat},k≤n→(upto n k).foldl c.go (some p0)=some p→c.way n 0 p0=c.way (n - k) k p
  | 0,p,_,h=>by
    rw [upto_zero] at h
    injection h with h
    rw [h];rfl
  | k+1,p,hk,h=>by
    rw [←upto_succ (show k<n by omega),List.foldl_append,List.foldl_cons,List.foldl_nil] at h
    cases hq:(upto n k).foldl c.go (some p0) with
    | none=>rw [hq] at h;cases h
    | some q =>
      rw [hq] at h
      rw [Cs.way_go c p0 (show k≤n by omega) hq,show n - k=(n - (k+1))+1 by omega]
      change (if (c.jobAt k).emptyB=true then some q else if c.whyAt k q=0 then some (c.stepAt k).right.at_.toNat else none)=some p at h
      show (if (c.jobAt k).emptyB=true then c.way (n - (k+1)) (k+1) q else if c.whyAt k q=0 then c.way (n - (k+1)) (k+1) (c.stepAt k).right.at_.toNat else ((k:Int),c.whyAt k q))=_
      by_cases he:(c.jobAt k).emptyB=true
      · rw [if_pos he] at h ⊢
        injection h with h;rw [h]
      · rw [if_neg he] at h ⊢
        by_cases hw:c.whyAt k q=0
        · rw [if_pos hw] at h ⊢
          injection h with h;rw [h]
        · rw [if_neg hw] at h;cases h
theorem Cs.way_done (c:Cs) {n p0 p:Nat} (h:(upto n n).foldl c.go (some p0)=some p):c.way n 0 p0=(0,0):=by
  rw [c.way_go p0 (Nat.le_refl n) h,Nat.sub_self];rfl
theorem Cs.way_found (c:Cs) {n p0 k p:Nat} (hk:k<n) (h:(upto n k).foldl c.go (some p0)=some p) (he:(c.jobAt k).emptyB=false) (hw:c.whyAt k p≠0):c.way n 0 p0=((k:Int),c.whyAt k p):=by
  rw [c.way_go p0 (Nat.le_of_lt hk) h,show n - k=(n - (k+1))+1 by omega]
  show (if (c.jobAt k).emptyB=true then _ else if c.whyAt k p=0 then _ else ((k:Int),c.whyAt k p))=_
  rw [if_neg (by rw [he];simp),if_neg hw]
def legOf {n:Nat} (pre:List (Fin n)):Nat:=(pre.getLast?.map Fin.val).getD 0
def Cs.atOf (c:Cs) {n:Nat} (p0:Nat) (pre:List (Fin n)):Nat:=(pre.dropLast.foldl c.go (some p0)).getD 0
theorem legOf_snoc {n:Nat} (pre:List (Fin n)) (x:Fin n):legOf (pre++[x])=x.val:=by simp [legOf]
theorem Cs.atOf_snoc (c:Cs) {n:Nat} (p0:Nat) (pre:List (Fin n)) (x:Fin n) {p:Nat} (h:pre.foldl c.go (some p0)=some p):c.atOf p0 (pre++[x])=p:=by
  unfold Cs.atOf;rw [List.dropLast_concat,h];rfl
theorem Cs.go_bare (c:Cs) {n:Nat} {p0 p:Nat} {pre:List (Fin n)} {x:Fin n} (h:pre.foldl c.go (some p0)=some p) (he:(c.jobAt x.val).emptyB=true):(pre++[x]).foldl c.go (some p0)=some p:=by
  rw [List.foldl_append,h]
  show (if (c.jobAt x.val).emptyB=true then some p else _)=_
  rw [if_pos he]
theorem Cs.go_on (c:Cs) {n:Nat} {p0 p:Nat} {pre:List (Fin n)} {x:Fin n} (h:pre.foldl c.go (some p0)=some p) (he:(c.jobAt x.val).emptyB=false) (hw:c.whyAt x.val p=0):(pre++[x]).foldl c.go (some p0)=some (c.stepAt x.val).right.at_.toNat:=by
  rw [List.foldl_append,h]
  show (if (c.jobAt x.val).emptyB=true then some p else if c.whyAt x.val p=0 then some (c.stepAt x.val).right.at_.toNat else none)=_
  rw [if_neg (by rw [he];simp),if_pos hw]
theorem Stp.cl_length {s:Stp} (h:s.ok):s.cl.length=74:=by
  unfold Stp.cl
  rw [List.length_append,List.length_append,List.length_append,Opn.cl_length h.2.1,Opn.cl_length h.2.2.1];rfl
theorem Opn.one (o:Opn):∀ v∈o.cl,v.oneCell'=true:=by
  intro v hv
  unfold Opn.cl at hv
  rcases List.mem_append.1 hv with hv | hv
  · simp only [List.mem_cons,List.not_mem_nil,or_false] at hv
    rcases hv with rfl | rfl | rfl | rfl <;> rfl
  · exact byts_oneCell v hv
theorem Stp.one (s:Stp):∀ v∈s.cl,v.oneCell'=true:=by
  intro v hv
  unfold Stp.cl at hv
  rcases List.mem_append.1 hv with hv | hv
  · simp only [List.mem_cons,List.not_mem_nil,or_false] at hv
    subst hv;rfl
  · rcases List.mem_append.1 hv with hv | hv
    · exact s.left.one v hv
    · rcases List.mem_append.1 hv with hv | hv
      · exact s.right.one v hv
      · simp only [List.mem_cons,List.not_mem_nil,or_false] at hv
        subst hv;rfl
theorem zeroS_ok:zeroS.ok:=by
  have h0:inI 0:=⟨by omega,by omega⟩
  have ho:(⟨0,0,0,0,List.replicate 32 0⟩:Opn).ok:=⟨h0,h0,h0,h0,by simp,fun x hx=>by have:=List.eq_of_mem_replicate hx;omega⟩
  exact ⟨h0,ho,ho,⟨by show (-9223372036854775808:Int) ≤ -1;omega,by show (-1:Int)≤9223372036854775807;omega⟩⟩
theorem Cs.why5 {c:Cs} {i k:Nat} (h:(c.stepAt i).mid = -1):c.whyAt i k=5:=by unfold Cs.whyAt;rw [if_pos h]
theorem Cs.why3 {c:Cs} {i k:Nat} (h:(c.stepAt i).mid ≠ -1) (hs:strippedB (c.keyAt i) (c.inAt i) (c.jobAt i) k=false):c.whyAt i k=3:=by unfold Cs.whyAt;rw [if_neg h,if_neg (by rw [hs];simp)]
theorem Cs.why4 {c:Cs} {i k:Nat} (h:(c.stepAt i).mid ≠ -1) (hs:strippedB (c.keyAt i) (c.inAt i) (c.jobAt i) k=true) (ho:openedB (c.restAt (i+1)) (c.inAt i).length (c.jobAt i) (c.stepAt i) k=false):c.whyAt i k=4:=by
  unfold Cs.whyAt;rw [if_neg h,if_pos hs,if_neg (by rw [ho];simp)]
theorem Cs.why0 {c:Cs} {i k:Nat} (h:(c.stepAt i).mid ≠ -1) (hs:strippedB (c.keyAt i) (c.inAt i) (c.jobAt i) k=true) (ho:openedB (c.restAt (i+1)) (c.inAt i).length (c.jobAt i) (c.stepAt i) k=true):c.whyAt i k=0:=by
  unfold Cs.whyAt;rw [if_neg h,if_pos hs,if_pos ho]
theorem stripped_lt {key:Int} {inn:List Ltr} {j:Jb} {k:Nat} (h:strippedB key inn j k=true):k<inn.length∧j.bare.length=inn.length:=by
  unfold strippedB at h
  simp only [Bool.and_eq_true,decide_eq_true_eq] at h
  exact ⟨h.1,h.2.1⟩
theorem opened_lt {rest:Int} {n:Nat} {j:Jb} {s:Stp} {k:Nat} (h:openedB rest n j s k=true):0≤s.right.at_∧s.right.at_<n:=by
  unfold openedB at h
  simp only [Bool.and_eq_true,decide_eq_true_eq] at h
  exact ⟨h.2.2.2.2.2.2.1,h.2.2.2.2.2.2.2.1⟩
structure CaseAt (w:World) (B:Nat) (cs:Array Value) (jcs:List (Array Value)) (c:Cs):Prop where
  size:cs.size=15
  one:∀ v∈cs.toList,v.oneCell'=true
  first:LsAt w B cs[3]? c.first
  keys:∃ A ck,cs[4]?=some (.slice A c.keys.length ck)∧Rd w B 1 A c.keys.length (ints c.keys)
  jobs:∃ A cj,cs[5]?=some (.slice A c.jobs.length cj)∧Rd w B 49 A c.jobs.length (jcs.flatMap Array.toList)
  jlen:jcs.length=c.jobs.length
  job:∀ k jc,jcs[k]?=some jc→jc.size=49∧(∀ v∈jc.toList,v.oneCell'=true)∧JobAt w B (fun i=>jc[i]?) (c.jobAt k)∧(c.jobAt k).small
  place:cs[6]?=some (.int .i64 c.place)
  w0:cs[7]?=some (.int .i64 c.words.x)
  w1:cs[8]?=some (.int .i64 c.words.y)
  w2:cs[9]?=some (.int .i64 c.words.z)
  r0:cs[10]?=some (.int .i64 c.r0)
  r1:cs[11]?=some (.int .i64 c.r1)
  r2:cs[12]?=some (.int .i64 c.r2)
  steps:∃ A ct,cs[13]?=some (.slice A c.steps.length ct)∧Rd w B 74 A c.steps.length (c.steps.flatMap Stp.cl)
  stepOk:∀ s∈c.steps,s.ok
section
variable {w w':World} {B:Nat} {cs:Array Value} {jcs:List (Array Value)} {c:Cs}
theorem CaseAt.below (h:CaseAt w B cs jcs c) (b:Below B w w'):CaseAt w' B cs jcs c:=by
  obtain ⟨A,ck,k1,k2⟩:=h.keys
  obtain ⟨A',cj,j1,j2⟩:=h.jobs
  obtain ⟨A'',ct,s1,s2⟩:=h.steps
  exact ⟨h.size,h.one,h.first.below b,⟨A,ck,k1,k2.below b⟩,⟨A',cj,j1,j2.below b⟩,h.jlen,fun k jc hk=>by obtain ⟨a1,a2,a3,a4⟩:=h.job k jc hk;exact ⟨a1,a2,a3.below b,a4⟩,h.place,h.w0,h.w1,h.w2,h.r0,h.r1,h.r2,⟨A'',ct,s1,s2.below b⟩,h.stepOk⟩
theorem CaseAt.more {B':Nat} (h:CaseAt w B cs jcs c) (b:B≤B'):CaseAt w B' cs jcs c:=by
  obtain ⟨A,ck,k1,k2⟩:=h.keys
  obtain ⟨A',cj,j1,j2⟩:=h.jobs
  obtain ⟨A'',ct,s1,s2⟩:=h.steps
  exact ⟨h.size,h.one,h.first.more b,⟨A,ck,k1,k2.more b⟩,⟨A',cj,j1,j2.more b⟩,h.jlen,fun k jc hk=>by obtain ⟨a1,a2,a3,a4⟩:=h.job k jc hk;exact ⟨a1,a2,a3.more b,a4⟩,h.place,h.w0,h.w1,h.w2,h.r0,h.r1,h.r2,⟨A'',ct,s1,s2.more b⟩,h.stepOk⟩
def Cs.em (c:Cs) (k:Nat):Bool:=(c.jobAt k).emptyB
theorem CaseAt.jobC (h:CaseAt w B cs jcs c):∀ k jc,jcs[k]?=some jc→JobC jc (c.em k):=fun k jc hk=>by
  obtain ⟨a1,a2,a3,a4⟩:=h.job k jc hk
  obtain ⟨A,n,h0,_⟩:=a3.h0
  exact ⟨a1,a2,⟨A,_,n,h0⟩,a3.lens3 a4⟩
theorem CaseAt.shown (h:CaseAt w B cs jcs c) {v0:Value} (hv:cs[3]?=some v0) {k:Nat} (hk:k<c.jobs.length) :
    ShnAt w B (shc v0 c.keys (restL c.keys) jcs c.em k) (c.inAt k) (c.keyAt k) (c.restAt (k+1)) (c.jobAt k):=by
  obtain ⟨jc,hjc⟩:∃ jc,jcs[k]?=some jc:=⟨_,List.getElem?_eq_getElem (by rw [h.jlen];exact hk)⟩
  obtain ⟨a1,a2,a3,a4⟩:=h.job k jc hjc
  have hg:jcs.getD k #[]=jc:=by rw [List.getD_eq_getElem?_getD,hjc];rfl
  have e:∀ i,(shc v0 c.keys (restL c.keys) jcs c.em k)[3+i]?=jc[i]?:=fun i=>by
    unfold shc
    rw [hg,Array.getElem?_append_right (by simp)];simp
  refine ⟨?_,by unfold shc;rw [Array.getElem?_append_left (by simp)];rfl,by unfold shc;rw [Array.getElem?_append_left (by simp)];rfl,?_⟩
  · have e0:(shc v0 c.keys (restL c.keys) jcs c.em k)[0]?=some (inV v0 jcs c.em k):=by
      unfold shc;rw [Array.getElem?_append_left (by simp)];rfl
    rw [e0]
    cases k with
    | zero=>rw [←show cs[3]?=some (inV v0 jcs c.em 0) from hv];exact h.first
    | succ k =>
      obtain ⟨jd,hjd⟩:∃ jd,jcs[k]?=some jd:=⟨_,List.getElem?_eq_getElem (by rw [h.jlen];omega)⟩
      obtain ⟨b1,b2,b3,b4⟩:=h.job k jd hjd
      have hd:jcs.getD k #[]=jd:=by rw [List.getD_eq_getElem?_getD,hjd];rfl
      show LsAt w B (some (((jcs.getD k #[])[if c.em k=true then 0 else 4]?).getD undef)) (nextL (c.jobAt k))
      rw [hd]
      unfold nextL
      cases he:(c.jobAt k).emptyB
      · have:c.em k=false:=he
        rw [this,if_neg (by simp),if_neg (by simp)]
        obtain ⟨A,n,q⟩:=b3.h4
        have q0:jd[4]?=_:=q.1
        rw [q0]
        exact ⟨A,n,rfl,q.2⟩
      · have:c.em k=true:=he
        rw [this,if_pos rfl,if_pos rfl]
        obtain ⟨A,n,q⟩:=b3.h0
        have q0:jd[0]?=_:=q.1
        rw [q0]
        exact ⟨A,n,rfl,q.2⟩
  · rw [show (fun i=>(shc v0 c.keys (restL c.keys) jcs c.em k)[3+i]?)=fun i=>jc[i]? from funext e]
    exact a3
end
theorem CaseAt.shown_row {w:World} {B:Nat} {cs:Array Value} {jcs:List (Array Value)} {c:Cs} (h:CaseAt w B cs jcs c) (A0:Option Addr) (n0 c0:Nat) {k:Nat} (hk:k<c.jobs.length) :
    (shc (.slice A0 n0 c0) c.keys (restL c.keys) jcs c.em k).size=52∧(shc (.slice A0 n0 c0) c.keys (restL c.keys) jcs c.em k).all (·.oneCell')=true:=by
  obtain ⟨jc,hjc⟩:∃ jc,jcs[k]?=some jc:=⟨_,List.getElem?_eq_getElem (by rw [h.jlen];exact hk)⟩
  obtain ⟨a1,a2,-,-⟩:=h.job k jc hjc
  have hg:jcs.getD k #[]=jc:=by rw [List.getD_eq_getElem?_getD,hjc];rfl
  obtain ⟨A,n,cc,hi⟩:=inV_slice (A0:=A0) (n0:=n0) (c0:=c0) h.jobC (k:=k) (by rw [h.jlen];omega)
  unfold shc
  rw [hg,hi]
  refine ⟨by simp [a1],?_⟩
  have hX:∀ v∈((#[.slice A n cc,.int .i64 (c.keys.getD k 0),.int .i64 ((restL c.keys).getD (k+1) 0)]:Array Value)++jc).toList,v.oneCell'=true:=by
    intro v hv
    rw [Array.toList_append] at hv
    rcases List.mem_append.1 hv with hv | hv
    · simp only [List.mem_cons,List.not_mem_nil,or_false] at hv
      rcases hv with rfl | rfl | rfl <;> rfl
    · exact a2 v hv
  have:=all_oneCell_toArray hX
  rwa [Array.toArray_toList] at this
theorem inAt_small {w:World} {B:Nat} {cs:Array Value} {jcs:List (Array Value)} {c:Cs} (h:CaseAt w B cs jcs c) (hf:c.first.length≤64) {k:Nat} (hk:k≤c.jobs.length):(c.inAt k).length≤1152921504606846976:=by
  cases k with
  | zero=>show c.first.length≤_;omega
  | succ k =>
    obtain ⟨jd,hjd⟩:∃ jd,jcs[k]?=some jd:=⟨_,List.getElem?_eq_getElem (by rw [h.jlen];omega)⟩
    obtain ⟨b1,b2,b3,b4⟩:=h.job k jd hjd
    show (nextL _).length≤_
    unfold nextL
    split
    · exact b4.1
    · exact b4.2.2.2
structure Hd where
  line:Int
  at_:Int
  arrive:Int
  leg:Int
  from_:Int
  to_:Int
  many:Int
  root:List Nat
  time:Int
  e:Int
  s:Int
def Hd.cl (h:Hd):List Value:=[.int .i64 h.line,.int .i64 h.at_,.int .i64 h.arrive,.int .i64 h.leg,.int .i64 h.from_,.int .i64 h.to_,.int .i64 h.many]++(byts h.root++[.int .i64 h.time,.int .i64 h.e,.int .i64 h.s])
def Hd.ok (h:Hd):Prop:=inI h.line∧inI h.at_∧inI h.arrive∧inI h.leg∧inI h.from_∧inI h.to_∧inI h.many∧(h.root.length=32∧okB h.root)∧inI h.time∧inI h.e∧inI h.s
theorem Hd.cl_length {h:Hd} (ho:h.ok):h.cl.length=42:=by
  obtain ⟨_,_,_,_,_,_,_,⟨hr,_⟩,_⟩:=ho
  simp [Hd.cl,byts_length,hr]
theorem Hd.one (h:Hd):∀ v∈h.cl,v.oneCell'=true:=by
  intro v hv
  unfold Hd.cl at hv
  rcases List.mem_append.1 hv with hv | hv
  · simp only [List.mem_cons,List.not_mem_nil,or_false] at hv
    rcases hv with rfl | rfl | rfl | rfl | rfl | rfl | rfl <;> rfl
  · rcases List.mem_append.1 hv with hv | hv
    · exact byts_oneCell v hv
    · simp only [List.mem_cons,List.not_mem_nil,or_false] at hv
      rcases hv with rfl | rfl | rfl <;> rfl
theorem Hd.cells {h:Hd} (ho:h.ok):h.cl[0]?=some (.int .i64 h.line)∧h.cl[1]?=some (.int .i64 h.at_)∧h.cl[2]?=some (.int .i64 h.arrive)∧h.cl[3]?=some (.int .i64 h.leg)∧h.cl[4]?=some (.int .i64 h.from_)∧h.cl[5]?=some (.int .i64 h.to_)∧h.cl[6]?=some (.int .i64 h.many) ∧
    (∀ j,j<32→h.cl[7+j]?=(byts h.root)[j]?)∧h.cl[39]?=some (.int .i64 h.time)∧h.cl[40]?=some (.int .i64 h.e)∧h.cl[41]?=some (.int .i64 h.s):=by
  have hr:=ho.2.2.2.2.2.2.2.1.1
  have hl:(byts h.root).length=32:=by rw [byts_length,hr]
  unfold Hd.cl
  refine ⟨rfl,rfl,rfl,rfl,rfl,rfl,rfl,fun j hj=>?_,?_,?_,?_⟩
  · rw [List.getElem?_append_right (by simp),List.getElem?_append_left (by rw [hl];simp;omega)]
    simp
  · rw [List.getElem?_append_right (by simp),List.getElem?_append_right (by rw [hl];simp)]
    simp [hl]
  · rw [List.getElem?_append_right (by simp),List.getElem?_append_right (by rw [hl];simp)]
    simp [hl]
  · rw [List.getElem?_append_right (by simp),List.getElem?_append_right (by rw [hl];simp)]
    simp [hl]
def stB (l:List Nat):ByteArray:=⟨l.map (fun n=>UInt8.ofNat n) |>.toArray⟩
def Hd.its (h:Hd):List It:=[.int h.line,.int h.at_,.int h.arrive,.int h.leg,.int h.from_,.int h.to_,.int h.many,.text (dgS h.root),.int h.time]
def Hd.text (h:Hd):List Nat:=encN h.its
def tmB (n:Int):Bool:=decide (0≤n)&&decide (n<2097152)
def Hd.formed (h:Hd):Bool:=(tmB h.at_&&(tmB h.arrive&&tmB h.time))&&((decide (0≤h.from_∧h.from_<24)&&(decide (-1≤h.to_∧h.to_<24)&&decide (h.from_≠h.to_)))&&(decide (0≤h.line∧h.line<64)&&(decide (0≤h.leg∧h.leg≤8)&&decide (0≤h.many∧h.many≤64))))
def ptV (key E S:Int):Int:=mulV (powV 4 S) (powV key (-E))
def sgS:ByteArray:=⟨#[115,105,103,110]⟩
def sgV (pt key:Int) (b:List Nat):Nat:=hashV (sb sgS) (encN [.int pt,.int key,.text (dgS b)])
def sgB (key:Int) (b:List Nat) (E S:Int):Bool:=(validB key&&(ordB E&&ordB S))&&decide (E=(sgV (ptV key E S) key b:Nat))
def Hd.signed (key:Int) (h:Hd):Bool:=h.formed&&sgB key h.text h.e h.s
def nodS:List Nat:=[110,111,100,101]
def leaS:List Nat:=[108,101,97,102]
def nooS:List Nat:=[110,111,110,101]
def leafN (b:List Nat):List Nat:=shaN (shaN leaS++b)
def nodeN (a b:List Nat):List Nat:=shaN (shaN nodS++(a++b))
def upN:List (List Nat)→List (List Nat)
  | a::b::l=>nodeN a b::upN l
  | l=>l
theorem upN_length:∀ l:List (List Nat),(upN l).length=(l.length+1) / 2
  | []=>rfl
  | [_]=>by simp [upN]
  | a::b::l=>by
    show (nodeN a b::upN l).length=_
    rw [List.length_cons,upN_length l,List.length_cons,List.length_cons];omega
def rowN (l:List (List Nat)):Nat→List (List Nat)
  | 0=>l
  | k+1=>upN (rowN l k)
def topN:Nat→List (List Nat)→List Nat
  | 0,l=>l.headD []
  | f+1,l=>if l.length≤1 then l.headD [] else topN f (upN l)
def rootN (l:List (List Nat)):List Nat:=if l=[] then taggedN nooS [] else topN l.length (l.map leafN)
theorem leafN_len (b:List Nat):(leafN b).length=32:=shaN_len _
def dgOk (d:List Nat):Prop:=d.length=32∧okB d
theorem leafN_ok (b:List Nat):dgOk (leafN b):=⟨shaN_len _,okB_sha _⟩
theorem nodeN_ok (a b:List Nat):dgOk (nodeN a b):=⟨shaN_len _,okB_sha _⟩
theorem upN_ok:∀ {l:List (List Nat)},(∀ d∈l,dgOk d)→∀ d∈upN l,dgOk d
  | [],_,d,hd=>by cases hd
  | [a],h,d,hd=>h d hd
  | a::b::l,h,d,hd=>by
    rcases List.mem_cons.1 hd with rfl | hd
    · exact nodeN_ok a b
    · exact upN_ok (l:=l) (fun x hx=>h x (by simp [hx])) d hd
theorem topN_ok:∀ (f:Nat) {l:List (List Nat)},l≠[]→(∀ d∈l,dgOk d)→dgOk (topN f l)
  | f,[],h,_=>absurd rfl h
  | 0,a::l,_,h=>h a (by simp)
  | f+1,a::l,_,h=>by
    show dgOk (if (a::l).length≤1 then a else topN f (upN (a::l)))
    split
    · exact h a (by simp)
    · refine topN_ok f ?_ (upN_ok h)
      intro e
      have:=congrArg List.length e
      rw [upN_length,List.length_cons,List.length_nil] at this
      omega
theorem rootN_ok (l:List (List Nat)):dgOk (rootN l):=by
  unfold rootN
  split
  · exact ⟨taggedN_len _ _,okB_sha _⟩
  · rename_i h
    exact topN_ok _ (by simpa using h) (fun d hd=>by obtain ⟨x,_,rfl⟩:=List.mem_map.1 hd;exact leafN_ok x)
def Ltr.its (x:Ltr):List It:=[.int x.a0,.int x.b0,.int x.a1,.int x.b1,.int x.a2,.int x.b2]
def Ltr.txt (x:Ltr):List Nat:=encN x.its
def rootL (l:List Ltr):List Nat:=rootN (l.map Ltr.txt)
structure Ca where
  c:Cs
  hs:List Hd
  line:Int
  at_:Int
  arrive:Int
def zeroH:Hd:=⟨0,0,0,0,0,0,0,List.replicate 32 0,0,0,0⟩
def Ca.handAt (a:Ca) (k:Nat):Hd:=a.hs.getD k zeroH
def offAt (l:List Int) (k:Nat):Int:=l.getD k 0
def nextOff (l:List Int) (k:Nat):Int:=l.getD (k+1) (-1)
def Ca.right (a:Ca) (l:List Int) (k:Nat):Bool :=
  (decide ((a.handAt k).line=a.line∧(a.handAt k).at_=a.at_∧(a.handAt k).arrive=a.arrive)&&decide ((a.handAt k).leg=k))&&((decide ((a.handAt k).from_=offAt l k)&&decide ((a.handAt k).to_=nextOff l k)) &&
    ((decide ((a.handAt k).many=(a.c.jobAt k).mo.length)&&decide ((a.handAt k).root=rootL (a.c.jobAt k).mo))&&(a.handAt k).signed (a.c.keyAt k)))
def Ca.wrong (a:Ca) (l:List Int) (k:Nat):Bool:=!(a.c.jobAt k).emptyB && !a.right l k
def firstW (P:Nat→Bool):Nat→Nat→Option Nat
  | 0,_=>none
  | f+1,i=>if P i=true then some i else firstW P f (i+1)
theorem firstW_none {P:Nat→Bool} : ∀ {f i:Nat},firstW P f i=none↔∀ k,i≤k→k<i+f→P k=false
  | 0,i=>⟨fun _ k h1 h2=>by omega,fun _=>rfl⟩
  | f+1,i=>by
    show (if P i=true then some i else firstW P f (i+1))=none↔_
    by_cases h:P i=true
    · rw [if_pos h]
      refine ⟨fun e=>(by cases e),fun e=>?_⟩
      rw [e i (Nat.le_refl _) (by omega)] at h
      cases h
    · rw [if_neg h,firstW_none]
      constructor
      · intro e k h1 h2
        by_cases hk:k=i
        · subst hk;simpa using h
        · exact e k (by omega) (by omega)
      · intro e k h1 h2
        exact e k (by omega) (by omega)
theorem firstW_some {P:Nat→Bool} {h:Nat} : ∀ {f i:Nat},firstW P f i=some h→i≤h∧h<i+f∧P h=true∧∀ k,i≤k→k<h→P k=false
  | 0,i,e=>by cases e
  | f+1,i,e=>by
    change (if P i=true then some i else firstW P f (i+1))=some h at e
    by_cases hp:P i=true
    · rw [if_pos hp] at e
      injection e with e
      subst e
      exact ⟨Nat.le_refl _,by omega,hp,fun k h1 h2=>by omega⟩
    · rw [if_neg hp] at e
      obtain ⟨h1,h2,h3,h4⟩:=firstW_some e
      refine ⟨by omega,by omega,h3,fun k k1 k2=>?_⟩
      by_cases hk:k=i
      · subst hk;simpa using hp
      · exact h4 k (by omega) k2
def lineB:List Int→Bool
  | []=>true
  | o::l=>(decide (0≤o∧o<24) && !l.contains o)&&lineB l
def Ca.judge (a:Ca) (l:List Int):Int×Int×Int :=
  if lineB l=true∧l.length=a.c.keys.length then
    (if a.c.check.2.2≠0 then (0,0,a.c.check.2.2) else if a.c.check.2.1=1 then (-1,1,0) else
      match firstW (a.wrong l) (if a.c.check.2.1=0 then l.length else a.c.check.1.toNat) 0 with
      | some h=>((h:Int),2,0)
      | none=>if a.c.check.2.1=0 then (-1,0,0) else (a.c.check.1,a.c.check.2.1,0))
  else (0,0,560)
end Go.Proofs.YtgkpomdegomgiaaGreatDoor
