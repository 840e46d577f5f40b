/- paths.stripped, walked. -/
import Derived.Test.YtgkpomdegomgiaaGreatDoorMaq
import Derived.Test.YtgkpomdegomgiaaGreatDoorMaj
import Derived.Test.YtgkpomdegomgiaaGreatDoorMad
import Derived.ChangeKeysEq
set_option maxRecDepth 1000000
set_option maxHeartbeats 16000000
namespace Go.Proofs.YtgkpomdegomgiaaGreatDoor
open Go.RowKit
theorem and4 {a b c d:Prop} (h1:a) (h2:b) (h3:c) (h4:d):a∧b∧c∧d:=⟨h1,h2,h3,h4⟩
def strippedB (key:Int) (inn:List Ltr) (j:Jb) (k:Nat):Bool:=decide (k<inn.length)&&(decide (j.bare.length=inn.length)&&(decide (j.proofs.length=inn.length) &&
  checkBareB key [inn.getD k zeroL] [j.bare.getD k zeroL] [j.proofs.getD k zeroL]))
theorem pa_stripped (cs st:Array Value) (inn:List Ltr) (key rest:Int) (j:Jb) (k:Nat) (W:World) (h:ShnAt W W.heap.size cs inn key rest j) (hk:k≤1152921504606846976) (hG:ShaG W) :
    Calls Tryz.prog 78 #[.agg cs,.agg st,.int .i64 (k:Nat)] W (Ret (.bool (strippedB key inn j k)) W):=by
  obtain ⟨A,c,h0,hA,hAc,hAm⟩:=h.hin
  obtain ⟨A1,c1,h1,hA1,hA1c,hA1m⟩:=h.hjob.h0
  obtain ⟨A2,c2,h2,hA2,hA2c,hA2m⟩:=h.hjob.h1
  have hk1:=h.hkey
  obtain ⟨v,hv⟩:∃ v,v=strippedB key inn j k:=⟨_,rfl⟩
  rw [←hv]
  have B0:Blk ((W.alloc (.cells cs 91)).alloc (.cells st 97)) W.heap.size 91 cs:=(Blk.new W _ cs _ rfl).alloc _
  have hb:=bAl (bAl (bRefl W) (.cells cs 91)) (.cells st 97)
  go_enter Tryz.func78,Tryz.ntmps78
  go_upto_region 1 with fail
  generalize (W.alloc (.cells cs 91)).alloc (.cells st 97)=W2 at *
  have k0:=(B0.cell 0).trans h0
  have KS:Hid (∀ w',Below W2.heap.size W2 w'→_):=Lib.hid (fun w' h=>and4 (((B0.below h B0.lt).cell 0).trans h0) (((B0.below h B0.lt).cell 1).trans hk1) (((B0.below h B0.lt).cell 3).trans h1) (((B0.below h B0.lt).cell 4).trans h2))
  clear h0 h1 h2 hk1
  go_wp2_with fail
  clear k0
  by_cases t1:k<inn.length
  case neg =>
    have Hv:Hid (v=false):=by show _=_;rw [hv];unfold strippedB;rw [decide_eq_false t1];rfl
    have e1:decide ((k:Int)<(inn.length:Int))=false:=by rw [decide_eq_false];omega
    have e2:decide (k<inn.length)=false:=decide_eq_false t1
    clear hv t1
    refine wp_region_maskB (f:=44) (n:=2) KS [1,1,1,1,1,1,1,1,1,1,1,1,1,1,1,1,1,1,1,1,1,1,1,1,1,1,1,1,1,1,1,1,1,1,1,1,1,1,1,1,1,1,0,0,0] ?_
    simp only [pickH,pickT]
    refine wpHeads_t ?_
    refine wpHeads_t ?_
    refine wpHeads_t ?_
    refine wpHeads_t ?_
    refine wpHeads_p ?_
    refine wpHeads_p ?_
    refine wpHeads_p ?_
    refine wpHeads_p ?_
    refine wpHeads_p ?_
    refine wpHeads_p ?_
    refine wpHeads_t ?_
    refine wpHeads_t ?_
    refine wpHeads_p ?_
    refine wpHeads_p ?_
    refine wpHeads_p ?_
    refine wpHeads_p ?_
    refine wpHeads_p ?_
    refine wpHeads_p ?_
    refine wpHeads_t ?_
    refine wpHeads_t ?_
    refine wpHeads_p ?_
    refine wpHeads_p ?_
    refine wpHeads_p ?_
    refine wpHeads_p ?_
    refine wpHeads_p ?_
    refine wpHeads_p ?_
    refine wpHeads_p ?_
    refine wpHeads_p ?_
    refine wpHeads_p ?_
    refine wpHeads_p ?_
    refine wpHeads_p ?_
    refine wpHeads_p ?_
    refine wpHeads_p ?_
    refine wpHeads_p ?_
    refine wpHeads_p ?_
    refine wpHeads_p ?_
    refine wpHeads_p ?_
    refine wpHeads_p ?_
    refine wpHeads_p ?_
    refine wpHeads_p ?_
    refine wpHeads_p ?_
    refine wpHeads_p ?_
    refine wpHeads_nil ?_
    iterate 2 (refine wpTailS_cons (fun K hK=>?_);go_simp;(first | (fail) | skip);refine mask_go hK KS ?_;clear hK K)
    refine wpTailS_zero ?_
    go_wp2_with fail
    refine NoPanic.normal ?_
    go_wp2_with fail
    go_ret
    exact ⟨ret_bool Hv.out.symm,bDr hb⟩
  by_cases t2:j.bare.length=inn.length
  case neg =>
    have Hv:Hid (v=false):=by show _=_;rw [hv];unfold strippedB;rw [decide_eq_false t2];simp
    have e1:((j.bare.length:Int)==(inn.length:Int))=false:=by rw [beq_eq_false_iff_ne];omega
    clear hv t2
    refine wp_region_maskB (f:=44) (n:=2) KS [1,1,1,1,1,1,2,1,1,1,1,1,1,1,1,1,1,1,1,1,1,1,1,1,1,1,1,1,1,1,1,1,1,1,1,1,1,1,1,1,1,1,0,0,0] ?_
    simp only [pickH,pickT]
    refine wpHeads_t ?_
    refine wpHeads_t ?_
    refine wpHeads_t ?_
    refine wpHeads_t ?_
    refine wpHeads_t ?_
    refine wpHeads_t ?_
    refine wpHeads_r ?_
    refine wpHeads_t ?_
    refine wpHeads_t ?_
    refine wpHeads_t ?_
    refine wpHeads_t ?_
    refine wpHeads_t ?_
    refine wpHeads_p ?_
    refine wpHeads_p ?_
    refine wpHeads_p ?_
    refine wpHeads_p ?_
    refine wpHeads_p ?_
    refine wpHeads_p ?_
    refine wpHeads_t ?_
    refine wpHeads_t ?_
    refine wpHeads_p ?_
    refine wpHeads_p ?_
    refine wpHeads_p ?_
    refine wpHeads_p ?_
    refine wpHeads_p ?_
    refine wpHeads_p ?_
    refine wpHeads_p ?_
    refine wpHeads_p ?_
    refine wpHeads_p ?_
    refine wpHeads_p ?_
    refine wpHeads_p ?_
    refine wpHeads_p ?_
    refine wpHeads_p ?_
    refine wpHeads_p ?_
    refine wpHeads_p ?_
    refine wpHeads_p ?_
    refine wpHeads_p ?_
    refine wpHeads_p ?_
    refine wpHeads_p ?_
    refine wpHeads_p ?_
    refine wpHeads_p ?_
    refine wpHeads_p ?_
    refine wpHeads_nil ?_
    iterate 2 (refine wpTailS_cons (fun K hK=>?_);go_simp;(first | (fail) | skip);refine mask_go hK KS ?_;clear hK K)
    refine wpTailS_zero ?_
    go_wp2_with fail
    refine NoPanic.normal ?_
    go_wp2_with fail
    go_ret
    exact ⟨ret_bool Hv.out.symm,bDr hb⟩
  have e2:((j.bare.length:Int)==(inn.length:Int))=true:=by rw [beq_iff_eq];omega
  by_cases t3:j.proofs.length=inn.length
  case neg =>
    have Hv:Hid (v=false):=by show _=_;rw [hv];unfold strippedB;rw [decide_eq_false t3];simp
    have e1:((j.proofs.length:Int)==(inn.length:Int))=false:=by rw [beq_eq_false_iff_ne];omega
    clear hv t2 t3
    refine wp_region_maskB (f:=44) (n:=2) KS [1,1,1,1,1,1,2,1,1,1,1,1,1,1,2,1,1,1,1,1,1,1,1,1,1,1,1,1,1,1,1,1,1,1,1,1,1,1,1,1,1,1,0,0,0] ?_
    simp only [pickH,pickT]
    refine wpHeads_t ?_
    refine wpHeads_t ?_
    refine wpHeads_t ?_
    refine wpHeads_t ?_
    refine wpHeads_t ?_
    refine wpHeads_t ?_
    refine wpHeads_r ?_
    refine wpHeads_t ?_
    refine wpHeads_t ?_
    refine wpHeads_t ?_
    refine wpHeads_t ?_
    refine wpHeads_t ?_
    refine wpHeads_t ?_
    refine wpHeads_t ?_
    refine wpHeads_r ?_
    refine wpHeads_t ?_
    refine wpHeads_t ?_
    refine wpHeads_t ?_
    refine wpHeads_t ?_
    refine wpHeads_t ?_
    refine wpHeads_p ?_
    refine wpHeads_p ?_
    refine wpHeads_p ?_
    refine wpHeads_p ?_
    refine wpHeads_p ?_
    refine wpHeads_p ?_
    refine wpHeads_p ?_
    refine wpHeads_p ?_
    refine wpHeads_p ?_
    refine wpHeads_p ?_
    refine wpHeads_p ?_
    refine wpHeads_p ?_
    refine wpHeads_p ?_
    refine wpHeads_p ?_
    refine wpHeads_p ?_
    refine wpHeads_p ?_
    refine wpHeads_p ?_
    refine wpHeads_p ?_
    refine wpHeads_p ?_
    refine wpHeads_p ?_
    refine wpHeads_p ?_
    refine wpHeads_p ?_
    refine wpHeads_nil ?_
    iterate 2 (refine wpTailS_cons (fun K hK=>?_);go_simp;(first | (fail) | skip);refine mask_go hK KS ?_;clear hK K)
    refine wpTailS_zero ?_
    go_wp2_with fail
    refine NoPanic.normal ?_
    go_wp2_with fail
    go_ret
    exact ⟨ret_bool Hv.out.symm,bDr hb⟩
  have e3:((j.proofs.length:Int)==(inn.length:Int))=true:=by rw [beq_iff_eq];omega
  case pos =>
    obtain ⟨x,hx⟩:∃ x,Hid (inn[k]?=some x):=⟨_,Lib.hid (List.getElem?_eq_getElem t1)⟩
    obtain ⟨y,hy⟩:∃ y,Hid (j.bare[k]?=some y):=⟨_,Lib.hid (List.getElem?_eq_getElem (by omega))⟩
    obtain ⟨z,hz⟩:∃ z,Hid (j.proofs[k]?=some z):=⟨_,Lib.hid (List.getElem?_eq_getElem (by omega))⟩
    have Hv:Hid (v=checkBareB key [x] [y] [z]):=by
      show _=_
      rw [hv];unfold strippedB
      rw [decide_eq_true t1,decide_eq_true t2,decide_eq_true t3,List.getD_eq_getElem?_getD,List.getD_eq_getElem?_getD,List.getD_eq_getElem?_getD,hx.out,hy.out,hz.out];rfl
    obtain ⟨b,off,rfl,hbb,_⟩:=Ltr_at hA t1 hx.out
    obtain ⟨b1,off1,rfl,hbb1,_⟩:=Ltr_at hA1 (show k<j.bare.length by omega) hy.out
    obtain ⟨b2,off2,rfl,hbb2,_⟩:=Ltr_at hA2 (show k<j.proofs.length by omega) hz.out
    have r0:=Rd.one hA t1 hx.out
    have r1:=Rd.one hA1 (show k<j.bare.length by omega) hy.out
    have r2:=Rd.one hA2 (show k<j.proofs.length by omega) hz.out
    have q:Hid (∀ w:World,Below W.heap.size W w→Calls Tryz.prog 33 #[.int .i64 key,.slice (some ⟨b,off+k*6,none⟩) 1 (c - k),.slice (some ⟨b1,off1+k*6,none⟩) 1 (c1 - k),.slice (some ⟨b2,off2+k*6,none⟩) 1 (c2 - k)] w (Ret (.bool v) w)):=fun w hw=>by
      rw [Hv.out]
      exact equal_checkBare key _ _ _ 1 1 1 _ _ _ [x] [y] [z] w (r0.below hw |>.more hw.size) (r1.below hw |>.more hw.size) (r2.below hw |>.more hw.size) (by omega) (by omega) (by omega) (hG.below hw)
    have i0:(0:Int)≤(k:Int):=by omega
    have i1:IntKind.i64.wrap ((k:Int)+1)=(k:Int)+1:=by rw [IntKind.wrap_i64];omega
    have i2:((k:Int)+1).toNat=k+1:=by omega
    have i3:(k:Int)+1≤(c:Int):=by omega
    have i4:(k:Int)+1≤(c1:Int):=by omega
    have i5:(k:Int)+1≤(c2:Int):=by omega
    have i6:decide ((k:Int)<(inn.length:Int))=true:=by rw [decide_eq_true];omega
    have i7:(0:Int)≤(k:Int)+1:=by omega
    have n1:¬(c=k):=by omega
    have n2:¬(c1=k):=by omega
    have n3:¬(c2=k):=by omega
    clear hv t2 t3
    refine wp_region_maskB (f:=44) (n:=2) KS [1,1,1,1,1,1,2,1,1,1,1,1,1,1,2,1,1,1,1,1,1,2,1,2,1,1,1,1,1,1,2,1,1,1,1,1,1,2,1,1,1,1,0,0,0] ?_
    simp only [pickH,pickT]
    refine wpHeads_t ?_
    refine wpHeads_t ?_
    refine wpHeads_t ?_
    refine wpHeads_t ?_
    refine wpHeads_t ?_
    refine wpHeads_t ?_
    refine wpHeads_r ?_
    refine wpHeads_t ?_
    refine wpHeads_t ?_
    refine wpHeads_t ?_
    refine wpHeads_t ?_
    refine wpHeads_t ?_
    refine wpHeads_t ?_
    refine wpHeads_t ?_
    refine wpHeads_r ?_
    refine wpHeads_t ?_
    refine wpHeads_t ?_
    refine wpHeads_t ?_
    refine wpHeads_t ?_
    refine wpHeads_t ?_
    refine wpHeads_t ?_
    refine wpHeads_r ?_
    refine wpHeads_t ?_
    refine wpHeads_r ?_
    refine wpHeads_t ?_
    refine wpHeads_t ?_
    refine wpHeads_t ?_
    refine wpHeads_t ?_
    refine wpHeads_t ?_
    refine wpHeads_t ?_
    refine wpHeads_r ?_
    refine wpHeads_t ?_
    refine wpHeads_t ?_
    refine wpHeads_t ?_
    refine wpHeads_t ?_
    refine wpHeads_t ?_
    refine wpHeads_t ?_
    refine wpHeads_r ?_
    refine wpHeads_t ?_
    refine wpHeads_t ?_
    refine wpHeads_t ?_
    refine wpHeads_t ?_
    refine wpHeads_nil ?_
    iterate 2 (refine wpTailS_cons (fun K hK=>?_);go_simp;(first | (go_at_call 33;(with_reducible refine (q.out _ (by repeat (first | exact hb | refine bAl ?_ _ | refine bDr ?_))).mono ?_);rintro e w9 ⟨rfl,b9⟩;have B1:Below W2.heap.size W2 w9:=bCall (by repeat (first | exact bRefl _ | refine bAl ?_ _ | refine bDr ?_)) b9) | skip);refine mask_go hK KS ?_;clear hK K)
    refine wpTailS_zero ?_
    go_wp2_with fail
    refine NoPanic.normal ?_
    go_wp2_with fail
    go_ret
    exact ⟨rfl,bCall hb B1⟩
end Go.Proofs.YtgkpomdegomgiaaGreatDoor
namespace Go.Proofs.YtgkpomdegomgiaaGreatDoor
open Go Go.RowKit
theorem eqCipher (d:Nat) (a b c e:Int) (w:World):(Op.equalIn (d+1+1) 68 (.agg #[.int .i64 a,.int .i64 b]) (.agg #[.int .i64 c,.int .i64 e])).run Tryz.prog w = .ok (a==c&&b==e) w:=by
  have hS:Tryz.prog.underlying 68=some (.struct (Tryz.prog.fieldsOf 68)):=by kernel_rfl
  have hp:Tryz.prog.stoodInHeld 68=false:=by kernel_rfl
  have u3:=Tryz.underlying3
  have a3:=Tryz.isAgg3
  have z3:=Tryz.sizeOf3
  rw [run_equalIn_agg w (d+1) 68 _ _ hS hp]
  simp only [Program.fieldsOf,Tryz.underlying68]
  go_simp
  by_cases h1:a=c <;> by_cases h2:b=e <;> simp [h1,h2]
theorem eqSealed (x y:Ltr) (w:World):(Op.equalIn 10000 70 x.agg y.agg).run Tryz.prog w = .ok ((x.a0==y.a0&&x.b0==y.b0)&&((x.a1==y.a1&&x.b1==y.b1)&&(x.a2==y.a2&&x.b2==y.b2))) w:=by
  have a3:=Tryz.isAgg68
  have z3:=Tryz.sizeOf68
  unfold Ltr.agg
  rw [show (10000:Nat)=9999+1 from rfl,Op.equalIn]
  simp only [Sem.run_bind,run_underlying Tryz.underlying70,Result.andThen_ok]
  simp only [Std.Legacy.Range.forIn_eq_forIn_range',Std.Legacy.Range.size,Nat.sub_zero,Nat.add_sub_cancel,Nat.div_one,List.range'_succ,List.range'_zero,List.forIn_cons,List.forIn_nil]
  have e1:=fun (a b c e:Int)=>eqCipher 9997 a b c e w
  go_simp
  by_cases h0:x.a0=y.a0
  · by_cases h1 : x.b0 = y.b0
    · by_cases h2 : x.a1 = y.a1
      · by_cases h3 : x.b1 = y.b1
        · by_cases h4 : x.a2 = y.a2
          · by_cases h5:x.b2=y.b2
            · simp [h0,h1,h2,h3,h4,h5]
            · simp [h0,h1,h2,h3,h4,h5]
          · simp [h0,h1,h2,h3,h4]
        · simp [h0,h1,h2,h3]
      · simp [h0,h1,h2]
    · simp [h0,h1]
  · simp [h0]
def Ltr.eqB (x y:Ltr):Bool:=(x.a0==y.a0&&x.b0==y.b0)&&((x.a1==y.a1&&x.b1==y.b1)&&(x.a2==y.a2&&x.b2==y.b2))
theorem Ltr.eqB_iff {x y:Ltr} : x.eqB y=true↔x=y:=by
  cases x;cases y
  simp [Ltr.eqB,and_assoc]
theorem run_eqS (x y:Ltr) (w:World):(binOp .eql 70 x.agg y.agg).run Tryz.prog w = .ok (.bool (x.eqB y)) w:=by
  show (binOp .eql 70 x.agg y.agg).run Tryz.prog w=_
  have h:=eqSealed x y w
  unfold Ltr.agg at h ⊢
  rw [run_eql_struct,h];rfl
theorem run_neS (x y:Ltr) (w:World):(binOp .neq 70 x.agg y.agg).run Tryz.prog w = .ok (.bool (!(x.eqB y))) w:=by
  show (binOp .neq 70 x.agg y.agg).run Tryz.prog w=_
  have h:=eqSealed x y w
  unfold Ltr.agg at h ⊢
  rw [run_neq_struct,h];rfl
theorem eqItems_byts (d:Nat) (a b:List Nat) (w:World):∀ is:List Nat,(∀ i∈is,i<a.length∧i<b.length) →
    (Op.eqItems (d+1) 5 1 (byts a).toArray (byts b).toArray is).run Tryz.prog w = .ok (is.all fun i=>a.getD i 0==b.getD i 0) w
  | [],_=>by simp [Op.eqItems]
  | i::is,h=>by
    obtain ⟨h1,h2⟩:=h i (by simp)
    have ih:=eqItems_byts d a b w is (fun j hj=>h j (by simp [hj]))
    have a5:=Tryz.isAgg5
    have x1:(byts a).toArray[i*1]?=some (.int .u8 (a.getD i 0:Nat)):=by simp [byts,h1]
    have x2:(byts b).toArray[i*1]?=some (.int .u8 (b.getD i 0:Nat)):=by simp [byts,h2]
    have p1:(part 5 (byts a).toArray (i*1)).run Tryz.prog w = .ok (.int .u8 (a.getD i 0:Nat)) w:=by simp only [part,Sem.run_bind,a5,Result.andThen_ok];rw [x1];simp
    have p2:(part 5 (byts b).toArray (i*1)).run Tryz.prog w = .ok (.int .u8 (b.getD i 0:Nat)) w:=by simp only [part,Sem.run_bind,a5,Result.andThen_ok];rw [x2];simp
    simp only [Op.eqItems,Sem.run_bind,p1,p2,Result.andThen_ok,run_equalIn_int w d 5 .u8 .u8 _ _ Tryz.underlying5]
    have e:(((a.getD i 0:Nat):Int)==((b.getD i 0:Nat):Int))=(a.getD i 0==b.getD i 0):=by
      generalize a.getD i 0=m
      generalize b.getD i 0=n
      rw [Bool.eq_iff_iff,beq_iff_eq,beq_iff_eq]
      omega
    rw [List.all_cons,e]
    cases (a.getD i 0==b.getD i 0)
    · simp
    · simpa using ih
theorem all_eq {a b:List Nat} (ha:a.length=32) (hb:b.length=32):((List.range 32).all fun i=>a.getD i 0==b.getD i 0)=decide (a=b):=by
  rw [Bool.eq_iff_iff,List.all_eq_true,decide_eq_true_eq]
  constructor
  · intro h
    apply List.ext_getElem?
    intro i
    rcases Nat.lt_or_ge i 32 with hi | hi
    · have:=h i (List.mem_range.2 hi)
      rw [beq_iff_eq,List.getD_eq_getElem?_getD,List.getD_eq_getElem?_getD] at this
      rw [List.getElem?_eq_getElem (by omega),List.getElem?_eq_getElem (by omega)] at this ⊢
      exact congrArg some this
    · rw [List.getElem?_eq_none (by omega),List.getElem?_eq_none (by omega)]
  · rintro rfl i _
    simp
theorem run_eqD (a b:List Nat) (ha:a.length=32) (hb:b.length=32) (w:World):(binOp .eql 43 (.agg (byts a).toArray) (.agg (byts b).toArray)).run Tryz.prog w = .ok (.bool (decide (a=b))) w:=by
  obtain ⟨i0,hi⟩:∃ i,Tryz.prog.info? 5=some i:=info_of_underlying Tryz.underlying5
  have hc:Tryz.prog.cellsOf 5=1:=by kernel_rfl
  have h2:(Op.equalIn 10000 43 (.agg (byts a).toArray) (.agg (byts b).toArray)).run Tryz.prog w = .ok (decide (a=b)) w:=by
    rw [show (10000:Nat)=9998+1+1 from rfl,run_equalIn_array w (9998+1) _ _ Tryz.underlying43 hi,hc,eqItems_byts 9998 a b w _ (by intro i hi;have:=List.mem_range.1 hi;omega),all_eq ha hb]
  rw [run_eql_struct,h2];rfl
end Go.Proofs.YtgkpomdegomgiaaGreatDoor
