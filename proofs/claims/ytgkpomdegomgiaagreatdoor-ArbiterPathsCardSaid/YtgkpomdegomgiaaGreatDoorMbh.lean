/- The small functions of the reference that the laws of paths ask: power, Valid, Check, few, FewJob, Few, Empty. -/
import Derived.Test.YtgkpomdegomgiaaGreatDoorMba
import Derived.Test.YtgkpomdegomgiaaGreatDoorMad
import Derived.Laws.CopyRow
set_option maxRecDepth 1000000
set_option maxHeartbeats 16000000
namespace Go.Proofs.YtgkpomdegomgiaaGreatDoor
open Go.RowKit
theorem ref_power (a0 n0:Nat) (W:World) (ha:a0<2147483579) (hn:n0<2147483648) :
    Calls Tryz.prog 80 #[.int .i64 (a0:Nat),.int .i64 (n0:Nat)] W (Same (.int .i64 (powP a0 n0:Nat)) W):=by
  go_enter Tryz.func80,Tryz.ntmps80
  go_wp2
  go_loop [0,1,5] (fun va vn vc=>∃ a n c:Nat,va = .int .i64 (a:Nat)∧vn = .int .i64 (n:Nat)∧vc = .int .i64 (c:Nat)∧a<2147483579∧n<2147483648∧c<2147483579∧Hid ((c*a ^ n) % Pn=powP a0 n0)) (fun _ vn _=>(intOf vn).toNat)
  case atStart=>exact ⟨a0,n0,1,rfl,rfl,rfl,ha,hn,by omega,by show _=_;unfold powP;rw [Nat.one_mul]⟩
  case round =>
    obtain ⟨a,n,c,rfl,rfl,rfl,ha,hn,hc,hr⟩:=hrel
    by_cases h0:0<n
    · have hm1:=mul_rngN ha ha
      have hm2:=mul_rngN hc ha
      have hs:=square_step c a n
      rw [hr.out] at hs
      have e1:((a:Int)*a % 2147483579)=((a*a % 2147483579:Nat):Int):=by simp
      have e2:(n:Int) / 2=((n / 2:Nat):Int):=by simp
      have e3:((c:Int)*a % 2147483579)=((c*a % 2147483579:Nat):Int):=by simp
      have E1:=Lib.hid e1
      have E2:=Lib.hid e2
      have E3:=Lib.hid e3
      have M1:a*a % 2147483579<2147483579:=Nat.mod_lt _ (by decide)
      have M2:c*a % 2147483579<2147483579:=Nat.mod_lt _ (by decide)
      by_cases hb:n % 2=1
      · rw [if_pos hb] at hs
        have Hs:=Lib.hid hs.symm
        have t:((n:Int) % 2==1)=true:=by rw [beq_iff_eq];omega
        clear e1 e2 e3 hs hb hr
        go_wp2
        rw [E1.out,E2.out,E3.out]
        exact ⟨⟨_,_,_,rfl,rfl,rfl,M1,by omega,M2,Hs⟩,by simp [intOf];omega⟩
      · rw [if_neg hb] at hs
        have Hs:=Lib.hid hs.symm
        have t:((n:Int) % 2==1)=false:=by rw [beq_eq_false_iff_ne];omega
        clear e1 e2 e3 hs hb hr
        go_wp2
        rw [E1.out,E2.out]
        exact ⟨⟨_,_,_,rfl,rfl,rfl,M1,by omega,hc,Hs⟩,by simp [intOf];omega⟩
    · obtain rfl:n=0:=by omega
      have hv:Hid (c=powP a0 n0):=by
        show _=_
        have:=hr.out
        rw [Nat.pow_zero,Nat.mul_one,Nat.mod_eq_of_lt (show c<Pn from hc)] at this
        exact this
      go_wp2
      go_ret
      exact ⟨by rw [hv.out];rfl,rfl⟩
theorem ref_valid (x:Int) (W:World):Calls Tryz.prog 36 #[.int .i64 x] W (Same (.bool (validB x)) W):=by
  by_cases h1:1≤x
  · by_cases h2 : x < 2147483579
    · obtain ⟨n,rfl⟩:=Int.eq_ofNat_of_zero_le (show 0≤x by omega)
      have hQ:((Qn:Nat):Int)=1073741789:=rfl
      have q:=ref_power n Qn W (by omega) (by decide)
      rw [hQ] at q
      have hv:Hid (validB (n:Int)=(((powP n Qn:Nat):Int)==1)):=by
        show _=_
        unfold validB validN
        rw [decide_eq_true h1,decide_eq_true h2,Int.toNat_natCast,Bool.true_and,Bool.true_and]
        generalize powP n Qn=m
        rw [Bool.eq_iff_iff,beq_iff_eq,beq_iff_eq]
        omega
      generalize powP n Qn=m at *
      clear hQ
      go_enter Tryz.func36,Tryz.ntmps36
      go_wp2_with fail
      (with_reducible refine q.mono ?_)
      rintro e w' ⟨rfl,rfl⟩
      go_wp2_with fail
      go_ret
      exact ⟨ret_bool hv.out.symm,rfl⟩
    · have hv:=Lib.hid (validB_high (x:=x) (by omega))
      go_enter Tryz.func36,Tryz.ntmps36
      go_wp2_with fail
      go_ret
      exact ⟨ret_bool hv.out.symm,rfl⟩
  · have hv:=Lib.hid (validB_low (x:=x) (by omega))
    go_enter Tryz.func36,Tryz.ntmps36
    go_wp2_with fail
    go_ret
    exact ⟨ret_bool hv.out.symm,rfl⟩
def fewB (n:Nat):Bool:=decide (n≤8)||(decide (64<n)&&decide (n≤80))
theorem ref_few (n:Nat) (W:World):Calls Tryz.prog 22 #[.int .i64 (n:Nat)] W (Same (.bool (fewB n)) W):=by
  go_enter Tryz.func22,Tryz.ntmps22
  by_cases h1:n≤8
  · go_wp2_with fail
    go_ret
    refine ⟨ret_bool ?_,rfl⟩
    unfold fewB;rw [decide_eq_true h1];rfl
  · have e1:decide ((n:Int)≤8)=false:=by rw [decide_eq_false];omega
    by_cases h2:64<n
    · go_wp2_with fail
      go_ret
      refine ⟨ret_bool ?_,rfl⟩
      unfold fewB;rw [Bool.eq_iff_iff];simp;omega
    · go_wp2_with fail
      go_ret
      refine ⟨ret_bool ?_,rfl⟩
      unfold fewB;rw [Bool.eq_iff_iff];simp;omega
theorem ref_empty (cs:Array Value) (v:Bool) (W:World) (h:Lens3 (fun i=>cs[i]?) v):Calls Tryz.prog 13 #[.agg cs] W (Ret (.bool v) W):=by
  obtain ⟨A1,n1,c1,A2,n2,c2,A3,n3,c3,h2,h3,h4,l1,l2,l3,he0⟩:=h
  have B0:=Blk.new W 55 cs _ rfl
  have hb:=bAl (bRefl W) (.cells cs 55)
  have k2:=(B0.cell 2).trans h2
  have k3:=(B0.cell 3).trans h3
  have k4:=(B0.cell 4).trans h4
  have he:=Lib.hid he0
  clear h2 h3 h4 he0
  go_enter Tryz.func13,Tryz.ntmps13
  go_wp2_with fail
  go_ret
  refine ⟨ret_bool ?_,hb⟩
  rw [he.out,Bool.eq_iff_iff];simp;omega
theorem ref_check (x:Ltr) (W:World):Calls Tryz.prog 81 #[.agg #[.int .i64 x.a0,.int .i64 x.b0,.int .i64 x.a1,.int .i64 x.b1,.int .i64 x.a2,.int .i64 x.b2]] W (Ret (.int .i64 x.err) W):=by
  have B0:Blk (W.alloc (.cells x.cells 70)) W.heap.size 70 x.cells:=Blk.new W _ _ _ rfl
  have hb:=bAl (bRefl W) (.cells x.cells 70)
  obtain ⟨v,hv⟩:∃ v,v=x.err:=⟨_,rfl⟩
  rw [←hv]
  go_enter Tryz.func81,Tryz.ntmps81
  go_upto_region 1 with fail
  change Code.wp _ _ _ _ (W.alloc (.cells x.cells 70))
  generalize W.alloc (.cells x.cells 70)=w1 at *
  obtain ⟨k0,k1,k2,k3,k4,k5⟩:=Blk.six (v0 := .int .i64 x.a0) (v1 := .int .i64 x.b0) (v2 := .int .i64 x.a1) (v3 := .int .i64 x.b1) (v4 := .int .i64 x.a2) (v5 := .int .i64 x.b2) B0
  have Hv:=Lib.hid hv
  clear hv B0
  go_wp2_with fail
  go_loop [3] (fun i=>∃ m:Int,i = .int .i64 m∧(m=0∧Hid True∨m=1∧Hid (x.goodAt 0=true)∨m=2∧Hid (x.goodAt 0=true∧x.goodAt 1=true)∨m=3∧Hid (x.good=true))) (fun i=>3 - (intOf i).toNat)
  case atStart=>exact ⟨0,rfl,.inl ⟨rfl,Lib.hid trivial⟩⟩
  case round =>
    obtain ⟨m,rfl,(⟨rfl,hq⟩ | ⟨rfl,hq⟩ | ⟨rfl,hq⟩ | ⟨rfl,hq⟩)⟩:=hrel
    · have q1:=ref_valid x.a0 w1
      have q2:=ref_valid x.b0 w1
      have hga:x.goodAt 0=(validB x.a0&&validB x.b0):=rfl
      cases h1:validB x.a0
      · have hbad:Hid (v=100):=by show _=_;rw [Hv.out];unfold Ltr.err;rw [x.bad_of 0 (by rw [hga,h1];rfl)];rfl
        rw [h1] at q1
        clear h1 q2 hga
        go_wp2_with fail
        (with_reducible refine q1.mono ?_)
        rintro e w' ⟨rfl,rfl⟩
        go_wp2_with fail
        go_ret
        exact ⟨ret_int hbad.out.symm,hb⟩
      · cases h2:validB x.b0
        · have hbad:Hid (v=100):=by show _=_;rw [Hv.out];unfold Ltr.err;rw [x.bad_of 0 (by rw [hga,h1,h2];rfl)];rfl
          rw [h1] at q1
          rw [h2] at q2
          clear h1 h2 hga
          go_wp2_with fail
          (with_reducible refine q1.mono ?_)
          rintro e w' ⟨rfl,rfl⟩
          go_wp2_with fail
          (with_reducible refine q2.mono ?_)
          rintro e w' ⟨rfl,rfl⟩
          go_wp2_with fail
          go_ret
          exact ⟨ret_int hbad.out.symm,hb⟩
        · have hg:x.goodAt 0=true:=by rw [hga,h1,h2];rfl
          have hn:Hid (x.goodAt 0=true):=hg
          rw [h1] at q1
          rw [h2] at q2
          clear h1 h2 hga hg
          go_wp2_with fail
          (with_reducible refine q1.mono ?_)
          rintro e w' ⟨rfl,rfl⟩
          go_wp2_with fail
          (with_reducible refine q2.mono ?_)
          rintro e w' ⟨rfl,rfl⟩
          go_wp2_with fail
          exact ⟨⟨1,rfl,.inr (.inl ⟨rfl,hn⟩)⟩,by simp [intOf]⟩
    · have q1:=ref_valid x.a1 w1
      have q2:=ref_valid x.b1 w1
      have hga:x.goodAt 1=(validB x.a1&&validB x.b1):=rfl
      cases h1:validB x.a1
      · have hbad:Hid (v=100):=by show _=_;rw [Hv.out];unfold Ltr.err;rw [x.bad_of 1 (by rw [hga,h1];rfl)];rfl
        rw [h1] at q1
        clear h1 q2 hga
        go_wp2_with fail
        (with_reducible refine q1.mono ?_)
        rintro e w' ⟨rfl,rfl⟩
        go_wp2_with fail
        go_ret
        exact ⟨ret_int hbad.out.symm,hb⟩
      · cases h2:validB x.b1
        · have hbad:Hid (v=100):=by show _=_;rw [Hv.out];unfold Ltr.err;rw [x.bad_of 1 (by rw [hga,h1,h2];rfl)];rfl
          rw [h1] at q1
          rw [h2] at q2
          clear h1 h2 hga
          go_wp2_with fail
          (with_reducible refine q1.mono ?_)
          rintro e w' ⟨rfl,rfl⟩
          go_wp2_with fail
          (with_reducible refine q2.mono ?_)
          rintro e w' ⟨rfl,rfl⟩
          go_wp2_with fail
          go_ret
          exact ⟨ret_int hbad.out.symm,hb⟩
        · have hg:x.goodAt 1=true:=by rw [hga,h1,h2];rfl
          have hn:Hid (x.goodAt 0=true∧x.goodAt 1=true):=⟨hq.out,hg⟩
          rw [h1] at q1
          rw [h2] at q2
          clear h1 h2 hga hg
          go_wp2_with fail
          (with_reducible refine q1.mono ?_)
          rintro e w' ⟨rfl,rfl⟩
          go_wp2_with fail
          (with_reducible refine q2.mono ?_)
          rintro e w' ⟨rfl,rfl⟩
          go_wp2_with fail
          exact ⟨⟨2,rfl,.inr (.inr (.inl ⟨rfl,hn⟩))⟩,by simp [intOf]⟩
    · have q1:=ref_valid x.a2 w1
      have q2:=ref_valid x.b2 w1
      have hga:x.goodAt 2=(validB x.a2&&validB x.b2):=rfl
      cases h1:validB x.a2
      · have hbad:Hid (v=100):=by show _=_;rw [Hv.out];unfold Ltr.err;rw [x.bad_of 2 (by rw [hga,h1];rfl)];rfl
        rw [h1] at q1
        clear h1 q2 hga
        go_wp2_with fail
        (with_reducible refine q1.mono ?_)
        rintro e w' ⟨rfl,rfl⟩
        go_wp2_with fail
        go_ret
        exact ⟨ret_int hbad.out.symm,hb⟩
      · cases h2:validB x.b2
        · have hbad:Hid (v=100):=by show _=_;rw [Hv.out];unfold Ltr.err;rw [x.bad_of 2 (by rw [hga,h1,h2];rfl)];rfl
          rw [h1] at q1
          rw [h2] at q2
          clear h1 h2 hga
          go_wp2_with fail
          (with_reducible refine q1.mono ?_)
          rintro e w' ⟨rfl,rfl⟩
          go_wp2_with fail
          (with_reducible refine q2.mono ?_)
          rintro e w' ⟨rfl,rfl⟩
          go_wp2_with fail
          go_ret
          exact ⟨ret_int hbad.out.symm,hb⟩
        · have hg:x.goodAt 2=true:=by rw [hga,h1,h2];rfl
          have hn:Hid (x.good=true):=by show _=_;rw [x.good_eq,hq.out.1,hq.out.2,hg];rfl
          rw [h1] at q1
          rw [h2] at q2
          clear h1 h2 hga hg
          go_wp2_with fail
          (with_reducible refine q1.mono ?_)
          rintro e w' ⟨rfl,rfl⟩
          go_wp2_with fail
          (with_reducible refine q2.mono ?_)
          rintro e w' ⟨rfl,rfl⟩
          go_wp2_with fail
          exact ⟨⟨3,rfl,.inr (.inr (.inr ⟨rfl,hn⟩))⟩,by simp [intOf]⟩
    · have hx:Hid (v=0):=by show _=_;rw [Hv.out];unfold Ltr.err;rw [hq.out];rfl
      go_wp2_with fail
      go_ret
      exact ⟨ret_int hx.out.symm,hb⟩
theorem wpList_loadG {P:Program} {ops:Array Oper} {rest:List Oper} {o:Oper} {a:Act} {w:World} {Q:Exit→Act→World→Prop} (hgd:Region.wanted o (yielded ops a.tmps)=true) {ty:TypeId} {x:Operand} (ho:o.op = .load ty x) {q v:Value} (hx:a.eval x=q)
    (hl:(Instr.loadAt ty q).run P w = .ok v w) (h:wpList P ops Q rest (a.put o.dst v) w):wpList P ops Q (o::rest) a w :=
  wpList_step fun K hK=>by
    rw [if_pos hgd]
    unfold Oper.wp
    rw [exec_load ho hx hl]
    exact hK _ _ h
theorem wpList_storeG {P:Program} {ops:Array Oper} {rest:List Oper} {o:Oper} {a:Act} {w w':World} {Q:Exit→Act→World→Prop} (hgd:Region.wanted o (yielded ops a.tmps)=true) {ty:TypeId} {x y:Operand} (ho:o.op = .store ty x y) {q v:Value} (hx:a.eval x=q) (hy:a.eval y=v)
    (hl:(Instr.storeAt ty q v).run P w = .ok () w') (h:wpList P ops Q rest (a.put o.dst undef) w'):wpList P ops Q (o::rest) a w :=
  wpList_step fun K hK=>by
    rw [if_pos hgd]
    have e:(execOp a.eval o).run P w = .ok .skip w':=by
      unfold execOp
      rw [ho]
      simp only [Sem.run_bind,hx,hy,hl,Result.andThen_ok,Sem.run_pure]
    unfold Oper.wp
    rw [e]
    exact hK _ _ h
theorem store_at {P:Program} {w:World} {g o:Nat} {t ty:TypeId} {cur X:Array Value} (h:Blk w g t cur) (hi:(P.info? ty).map (·.size)=some X.size) (hl:o+X.size≤cur.size) (h1:∀ v∈X.toList,v.oneCell'=true) :
    (Instr.storeAt ty (.pointer (some ⟨g,o,none⟩)) (.agg X)).run P w = .ok () (w.setRow g (cur.toList.take o++X.toList++cur.toList.drop (o+X.size)).toArray):=by
  have:=run_storeCells_at P g o t X.toList 0 cur w h (by simpa using hl) h1
  cases hq:P.info? ty with
  | none=>simp [hq] at hi
  | some i =>
    have hs:X.size=i.size:=by simp [hq] at hi;omega
    simp only [Nat.add_zero,Array.length_toList] at this
    simp [Instr.storeAt,Instr.sureAddr,Sem.run_bind,Sem.run_pure,Result.andThen_ok,storeVar,sizeOf,typeInfo,hq,Value.cells,hs,this]
section
variable {w:World} {g g':Nat} {t t':TypeId} {cs cs' X:Array Value}
theorem Blk.row (h:Blk w g t cs) (X:Array Value):Blk (w.setRow g X) g t X:=setRow_heap w g cs X t _ h
theorem Blk.farRow (h:Blk w g t cs) (hne:g≠g') (X:Array Value):Blk (w.setRow g' X) g t cs:=(setRow_other w g' g X hne).trans h
theorem Blk.farRowT (h:Blk w g t cs) (h2:Blk w g' t' cs') (hne:t≠t') (X:Array Value):Blk (w.setRow g' X) g t cs:=h.farRow (by
  intro e
  subst e
  unfold Blk at h h2
  rw [h] at h2
  simp at h2
  exact hne h2.2) X
end
theorem flatA_set {sz:Nat} : ∀ (l:List (Array Value)) (k:Nat) (x:Array Value),(∀ y∈l,y.toList.length=sz)→k<l.length →
    (l.flatMap Array.toList).take (k*sz)++x.toList++(l.flatMap Array.toList).drop (k*sz+sz)=(l.set k x).flatMap Array.toList
  | [],k,_,_,h=>by simp at h
  | y::l,0,x,hf,_=>by
    have hy:=hf y (by simp)
    rw [Nat.zero_mul,List.take_zero,List.nil_append,List.flatMap_cons,Nat.zero_add,List.drop_append_of_le_length (by omega),List.drop_eq_nil_of_le (by omega)]
    rfl
  | y::l,k+1,x,hf,h=>by
    have hy:=hf y (by simp)
    have ih:=flatA_set l k x (fun z hz=>hf z (List.mem_cons_of_mem _ hz)) (by simpa using h)
    rw [List.flatMap_cons,List.set_cons_succ,List.flatMap_cons,←ih]
    have e1:(k+1)*sz=y.toList.length+k*sz:=by rw [hy,Nat.succ_mul];omega
    rw [e1,List.take_length_add_append,Nat.add_assoc,List.drop_length_add_append]
    simp only [List.append_assoc]
def JobIn' (w:World) (B:Nat) (jc:Array Value) (j:Jb):Prop:=jc.size=49∧(∀ v∈jc.toList,v.oneCell'=true)∧JobAt w B (fun i=>jc[i]?) j∧j.small
section
variable {w w':World} {B:Nat} {cs:Array Value} {jcs:List (Array Value)} {c:Cs}
theorem one_set {cs:Array Value} (h:∀ v∈cs.toList,v.oneCell'=true) (i:Nat) {u:Value} (hu:u.oneCell'=true):∀ v∈(cs.setIfInBounds i u).toList,v.oneCell'=true:=by
  intro v hv
  rw [Array.toList_setIfInBounds] at hv
  rcases List.mem_or_eq_of_mem_set hv with hv | rfl
  · exact h v hv
  · exact hu
theorem set_ne {cs:Array Value} {i j:Nat} {u:Value} (h:j≠i):(cs.setIfInBounds j u)[i]?=cs[i]?:=Array.getElem?_setIfInBounds_ne h
theorem set_eq {cs:Array Value} {i:Nat} {u:Value} (h:i<cs.size):(cs.setIfInBounds i u)[i]?=some u:=by rw [Array.getElem?_setIfInBounds_self,if_pos h]
theorem CaseAt.setJobs (h:CaseAt w B cs jcs c) {A:Option Addr} {cj:Nat} {jcs':List (Array Value)} {jobs':List Jb} (hR:Rd w B 49 A jobs'.length (jcs'.flatMap Array.toList)) (hl:jcs'.length=jobs'.length)
    (hjob:∀ k jc,jcs'[k]?=some jc→JobIn' w B jc (jobs'.getD k zeroJ)):CaseAt w B (cs.setIfInBounds 5 (.slice A jobs'.length cj)) jcs' { c with jobs:=jobs' }:=by
  have hs:=h.size
  refine ⟨by rw [Array.size_setIfInBounds,hs],one_set h.one 5 rfl,?_,?_,⟨A,cj,set_eq (by omega),hR⟩,hl,hjob,?_,?_,?_,?_,?_,?_,?_,?_,h.stepOk⟩
  all_goals rw [set_ne (by decide)]
  · exact h.first
  · exact h.keys
  · exact h.place
  · exact h.w0
  · exact h.w1
  · exact h.w2
  · exact h.r0
  · exact h.r1
  · exact h.r2
  · exact h.steps
end
theorem JobIn'.below {w w':World} {B:Nat} {jc:Array Value} {j:Jb} (h:JobIn' w B jc j) (b:Below B w w'):JobIn' w' B jc j:=⟨h.1,h.2.1,h.2.2.1.below b,h.2.2.2⟩
theorem JobIn'.more {w:World} {B B':Nat} {jc:Array Value} {j:Jb} (h:JobIn' w B jc j) (b:B≤B'):JobIn' w B' jc j:=⟨h.1,h.2.1,h.2.2.1.more b,h.2.2.2⟩
theorem case_info':(Tryz.prog.info? 33).map (·.size)=some 15:=by kernel_rfl
def CheckOk:Prop:=∀ (cs:Array Value) (jcs:List (Array Value)) (c:Cs) (W:World),CaseAt W W.heap.size cs jcs c→ShaG W →
  Calls Tryz.prog 11 #[.agg cs] W (Ret (.tuple #[.int .i64 c.check.1,.int .i64 c.check.2.1,.int .i64 c.check.2.2]) W)
theorem CheckOk.of (hP:CheckOk) {cs:Array Value} {jcs:List (Array Value)} {c:Cs} {W:World} (h:CaseAt W W.heap.size cs jcs c) (hG:ShaG W) {a b e:Int} (hc:c.check=(a,b,e)) :
    Calls Tryz.prog 11 #[.agg cs] W (Ret (.tuple #[.int .i64 a,.int .i64 b,.int .i64 e]) W):=by
  have:=hP cs jcs c W h hG
  rw [hc] at this
  exact this
theorem load_case {w:World} {g:Nat} {cs:Array Value} (h:Blk w g 33 cs) (hs:cs.size=15):(Instr.loadAt 33 (.pointer (some ⟨g,0,none⟩))).run Tryz.prog w = .ok (.agg cs) w :=
  load_blk h Tryz.underlying33 rfl (by rw [hs];exact case_info')
theorem load_job {w:World} {g:Nat} {cs:Array Value} (h:Blk w g 55 cs) (hs:cs.size=49):(Instr.loadAt 55 (.pointer (some ⟨g,0,none⟩))).run Tryz.prog w = .ok (.agg cs) w :=
  load_blk h Tryz.underlying55 rfl (by rw [hs];exact job_info)
theorem store_whole {P:Program} {w:World} {g:Nat} {t ty:TypeId} {old X:Array Value} (h:Blk w g t old) (hi:(P.info? ty).map (·.size)=some X.size) (ho:old.size=X.size) (h1:∀ v∈X.toList,v.oneCell'=true) :
    (Instr.storeAt ty (.pointer (some ⟨g,0,none⟩)) (.agg X)).run P w = .ok () (w.setRow g X):=by
  simp only [Instr.storeAt,Instr.sureAddr,Sem.run_bind,Sem.run_pure,Result.andThen_ok,run_storeVar_row w g t ty old X h hi ho (by have:=all_oneCell_toArray h1;simpa using this)]
theorem store_newW {P:Program} {w:World} {t ty:TypeId} {old X:Array Value} (hi:(P.info? ty).map (·.size)=some X.size) (ho:old.size=X.size) (h1:∀ v∈X.toList,v.oneCell'=true) :
    (Instr.storeAt ty (.pointer (some ⟨w.heap.size,0,none⟩)) (.agg X)).run P (w.alloc (.cells old t)) = .ok () (w.alloc (.cells X t)):=by
  rw [store_whole (Blk.new w t old _ rfl) hi ho h1,setRow_alloc]
def zJobC:Array Value:=#[.slice none 0 0,.slice none 0 0,.slice none 0 0,.slice none 0 0,.slice none 0 0,.slice none 0 0,.slice none 0 0,.int .i64 0,.int .i64 0,.int .i64 0,.int .i64 0,.int .i64 0,.int .i64 0,.int .i64 0,.int .u8 0,.int .u8 0,.int .u8 0,.int .u8 0,.int .u8 0,.int .u8 0,.int .u8 0,.int .u8 0,.int .u8 0,.int .u8 0,.int .u8 0,.int .u8 0,.int .u8 0,.int .u8 0,.int .u8 0,.int .u8 0,.int .u8 0,.int .u8 0,.int .u8 0,.int .u8 0,.int .u8 0,.int .u8 0,.int .u8 0,.int .u8 0,.int .u8 0,.int .u8 0,.int .u8 0,.int .u8 0,.int .u8 0,.int .u8 0,.int .u8 0,.int .u8 0,.int .i64 0,.int .i64 0,.int .i64 0]
def zJob:Value := .agg #[.slice none 0 0,.slice none 0 0,.slice none 0 0,.slice none 0 0,.slice none 0 0,.slice none 0 0,.slice none 0 0,.int .i64 0,.int .i64 0,.int .i64 0,.int .i64 0,.int .i64 0,.int .i64 0,.int .i64 0,.int .u8 0,.int .u8 0,.int .u8 0,.int .u8 0,.int .u8 0,.int .u8 0,.int .u8 0,.int .u8 0,.int .u8 0,.int .u8 0,.int .u8 0,.int .u8 0,.int .u8 0,.int .u8 0,.int .u8 0,.int .u8 0,.int .u8 0,.int .u8 0,.int .u8 0,.int .u8 0,.int .u8 0,.int .u8 0,.int .u8 0,.int .u8 0,.int .u8 0,.int .u8 0,.int .u8 0,.int .u8 0,.int .u8 0,.int .u8 0,.int .u8 0,.int .u8 0,.int .i64 0,.int .i64 0,.int .i64 0]
theorem job_info4:(Tryz.prog.info? 55).map (fun i=>(i.zero,i.size,i.bytes))=some (some zJob,49,280):=by kernel_rfl
def zLtr:Value := .agg #[.int .i64 0,.int .i64 0,.int .i64 0,.int .i64 0,.int .i64 0,.int .i64 0]
theorem own_empty (w:World) (e:TypeId) (sz base:Nat) (hb:base≤w.heap.size):(w.alloc (.cells #[] e)).ownsRow base e sz (.slice (some ⟨w.heap.size,0,none⟩) 0 0) 0 [] :=
  ⟨by simp,.inr ⟨w.heap.size,0,#[],rfl,hb,Blk.new w e #[] _ rfl,Nat.le_refl _,by unfold maxLen;omega,by simp,by simp⟩⟩
theorem own_some {w:World} {base n sz:Nat} {e:TypeId} {v:Value} {xs:List Value} (h:w.ownsRow base e sz v (0+n) ([]++xs)) (hn:0<n) :
    ∃ g cap cur,v = .slice (some ⟨g,0,none⟩) n cap∧base≤g∧Blk w g e cur∧n≤cap∧cap≤maxLen∧cur.size=cap*sz∧cur.toList.take (n*sz)=xs:=by
  rw [Nat.zero_add,List.nil_append] at h
  rcases h.2 with ⟨_,h0⟩ | ⟨g,cap,cur,h1,h2,h3,h4,h5,h6,h7⟩
  · omega
  · exact ⟨g,cap,cur,h1,h2,h3,h4,h5,h6,h7⟩
theorem take_seg {α:Type} {l x:List α} {o n:Nat} (h:o+x.length≤n) (hn:n≤l.length):(l.take o++x++l.drop (o+x.length)).take n=(l.take n).take o++x++(l.take n).drop (o+x.length):=by
  have e1:(l.take o).length=o:=by rw [List.length_take];omega
  rw [List.take_take,Nat.min_eq_left (show o≤n by omega),List.drop_take]
  have e2:n=(l.take o++x).length+(n - (o+x.length)):=by rw [List.length_append,e1];omega
  conv=>lhs;rw [e2]
  rw [List.take_length_add_append]
theorem Rd.of_blk {w:World} {g n sz:Nat} {e:TypeId} {cur:Array Value} {xs:List Value} (h:Blk w g e cur) (hx:cur.toList.take (n*sz)=xs) (hl:xs.length=n*sz):Rd w w.heap.size sz (some ⟨g,0,none⟩) n xs :=
  ⟨hl,fun _=>⟨g,0,rfl,h.lt,fun j u hu=>by
    rw [Nat.zero_add,h.cell]
    rw [←hx,List.getElem?_take] at hu
    split at hu
    · simpa using hu
    · cases hu⟩⟩
end Go.Proofs.YtgkpomdegomgiaaGreatDoor
