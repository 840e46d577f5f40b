/- frankinglaw56.ArbiterClear, walked. -/
import Derived.Test.YtgkpomdegomgiaaGreatDoorMbi
import Derived.Test.YtgkpomdegomgiaaGreatDoorMbv
import Derived.Test.YtgkpomdegomgiaaGreatDoorMbo
import Derived.Test.YtgkpomdegomgiaaGreatDoorMbt
set_option maxRecDepth 1000000
set_option maxHeartbeats 16000000
namespace Go.Proofs.YtgkpomdegomgiaaGreatDoor
open Go.RowKit
def saysB (x:Ltr) (w:Wd):Bool:=x.good&&(readV x).eqB w
theorem says_end {c:Cs} {x:Ltr} (hw:c.words.ok) {k:Nat} (h:c.At c.words.el c.place.toNat c.keys.length k x):saysB x c.words=true:=by
  unfold saysB
  rw [h.good,at_end hw h,Wd.eqB_iff.2 rfl];rfl
theorem at_next {c:Cs} {e:Fin 3→Int} (he:∀ k,validB (e k)=true) {p0 i k:Nat} {x y:Ltr} {s:Int} (h:c.At e p0 i k x) (hi:i<c.keys.length) (hv:c.valid=true) (hs:secB s=true) (hkey:pubV s=c.keyAt i)
    (hy:(c.jobAt i).bare[k]?=some y) (hxy:stripL s x=y) (hw:(c.jobAt i).emptyB=false→c.whyAt i k=0):∃ k' z,c.At e p0 (i+1) k' z:=by
  obtain ⟨h1,h2⟩:=at_on he h hi hv hs hkey hy hxy hw
  cases hem:(c.jobAt i).emptyB
  · obtain ⟨_,_,z,hz⟩:=h2 hem
    exact ⟨_,z,hz⟩
  · exact ⟨k,y,h1 hem⟩
def Cs.Here (c:Cs) (i:Nat):Prop:=∃ x,c.At c.words.el c.place.toNat i (c.wayK i) x
theorem here_of {c:Cs} {i k:Nat} {x:Ltr} (h:c.At c.words.el c.place.toNat i k x):c.Here i:=⟨x,by rw [At.wayK h];exact h⟩
theorem lw_clear (hP:JudgeOk) (cs:Array Value) (jcs:List (Array Value)) (a:Ca) (l:List Int) (Al:Option Addr) (cl:Nat) (arr:Array Value) (ss:List Int) (W:World) (hG:ShaG W) (h:CaseAt W W.heap.size cs jcs a.c) (hca:a.c.few=true→CaAt W W.heap.size cs jcs a)
    (hl:Rd W W.heap.size 1 Al l.length (ints l)) (hlc:l.length≤cl) (hlc2:cl≤9223372036854775807) (hcell:∀ (i:Nat) (s:Int),ss[i]?=some s→arr[i]?=some (.int .i64 s)) (hss:ss.length=5) :
    Calls Tryz.prog 6 #[.slice Al l.length cl,.agg cs,.agg arr] W (Ret (.bool true) W):=by
  obtain ⟨w1,hw1⟩:∃ w1,w1=(W.alloc (.cells cs 33)).alloc (.cells arr 62):=⟨_,rfl⟩
  have BC:Blk w1 W.heap.size 33 cs:=by rw [hw1];exact (Blk.new W _ _ _ rfl).alloc _
  have BA:Blk w1 (W.heap.size+1) 62 arr:=by rw [hw1];exact Blk.new _ _ _ _ (by simp)
  have hb:Below W.heap.size W w1:=by rw [hw1];exact bAl (bAl (bRefl W) _) _
  go_enter Tryz.func6,Tryz.ntmps6
  go_upto_region 1 with fail
  rw [←hw1]
  clear hw1
  have q:=aw_sane hP w1 (hG.below hb)
  go_wp2_with fail
  (with_reducible refine q.mono ?_)
  rintro e w2 ⟨rfl,b2⟩
  clear q
  replace BC:=BC.below b2 BC.lt
  replace BA:=BA.below b2 BA.lt
  replace hb:=bCall hb b2
  clear b2
  have LC:=load_case BC h.size
  have qf:=ref_fewcase cs jcs a.c w2 ((h.below hb).more hb.size)
  go_upto_region 3 with fail
  apply wp_region_lit
  refine wpList_loadG (by rfl) (by rfl) (by rfl) LC ?_
  simp only [Act.put,List.setIfInBounds_toArray,List.set_cons_zero,List.set_cons_succ]
  clear LC
  cases hf:a.c.few
  · rw [hf] at qf
    go_wp2_with fail
    (with_reducible refine qf.mono ?_)
    rintro e w3 ⟨rfl,b3⟩
    go_wp2_with fail
    go_ret
    exact ⟨rfl,bCall hb b3⟩
  rw [hf] at qf
  have Hf:=Lib.hid hf
  have CA:=hca hf
  obtain ⟨hkl,hjl,-,hfl⟩:=few_le hf
  have hk4:a.c.keys.length≤4∨9<a.c.keys.length:=by
    unfold Cs.few at hf
    simp only [Bool.and_eq_true,Bool.or_eq_true,decide_eq_true_eq] at hf
    exact hf.1
  clear hf hca
  by_cases hl40:40<l.length
  · have t:(40:Int)<(l.length:Int):=by omega
    go_wp2_with fail
    (with_reducible refine qf.mono ?_)
    rintro e w3 ⟨rfl,b3⟩
    go_wp2_with fail
    go_ret
    exact ⟨rfl,bCall hb b3⟩
  have t40:¬(40:Int)<(l.length:Int):=by omega
  go_wp2_with fail
  (with_reducible refine qf.mono ?_)
  rintro e w3 ⟨rfl,b3⟩
  replace BC:=BC.below b3 BC.lt
  replace BA:=BA.below b3 BA.lt
  replace hb:=bCall hb b3
  clear b3 qf
  have LC:=load_case BC h.size
  have CA3:=(CA.below hb).more hb.size
  have hl3:=(hl.below hb).more hb.size
  go_upto_region 5 with fail
  apply wp_region_lit
  iterate 3 go_step
  refine wpList_loadG (by rfl) (by rfl) (by rfl) LC ?_
  simp only [Act.put,List.setIfInBounds_toArray,List.set_cons_zero,List.set_cons_succ]
  clear LC
  rcases judge_says a l with ⟨je,hj,he⟩ | hj | ⟨hj,hc1,hc2⟩ | ⟨jo,jy,hj,ho,hy1,hy2⟩
  · have q := hP.of CA3 rfl hl3 (by omega) hlc hlc2 (hG.below hb) hj
    clear CA3 hj
    go_wp2_with fail
    (with_reducible refine q.mono ?_)
    rintro e w4 ⟨rfl,b4⟩
    clear q
    replace BC:=BC.below b4 BC.lt
    replace BA:=BA.below b4 BA.lt
    replace hb:=bCall hb b4
    clear b4
    go_upto_region 6 with fail
    have BV:=Blk.new w4 37 #[.int .i64 0,.int .i64 0] _ rfl
    replace BC:=BC.alloc (.cells #[.int .i64 0,.int .i64 0] 37)
    replace BA:=BA.alloc (.cells #[.int .i64 0,.int .i64 0] 37)
    replace hb:=bAl hb (.cells #[.int .i64 0,.int .i64 0] 37)
    generalize w4.alloc (.cells #[.int .i64 0,.int .i64 0] 37)=w5 at *
    generalize w4.heap.size=vb at *
    obtain ⟨x0,x1,-,-⟩:=BV.two_
    have te:(je != 0)=true:=by rw [bne_iff_ne];exact he
    have hq:=eqVer 0 0 0 0 w5
    go_wp2_with fail
    go_ret
    exact ⟨rfl,hb⟩
  · have q := hP.of CA3 rfl hl3 (by omega) hlc hlc2 (hG.below hb) hj
    clear CA3 hj
    go_wp2_with fail
    (with_reducible refine q.mono ?_)
    rintro e w4 ⟨rfl,b4⟩
    clear q
    replace BC:=BC.below b4 BC.lt
    replace BA:=BA.below b4 BA.lt
    replace hb:=bCall hb b4
    clear b4
    go_upto_region 6 with fail
    have BV:=Blk.new w4 37 #[.int .i64 (-1),.int .i64 1] _ rfl
    replace BC:=BC.alloc (.cells #[.int .i64 (-1),.int .i64 1] 37)
    replace BA:=BA.alloc (.cells #[.int .i64 (-1),.int .i64 1] 37)
    replace hb:=bAl hb (.cells #[.int .i64 (-1),.int .i64 1] 37)
    generalize w4.alloc (.cells #[.int .i64 (-1),.int .i64 1] 37)=w5 at *
    generalize w4.heap.size=vb at *
    obtain ⟨x0,x1,-,-⟩:=BV.two_
    go_wp2_with fail
    go_ret
    exact ⟨rfl,hb⟩
  · have q := hP.of CA3 rfl hl3 (by omega) hlc hlc2 (hG.below hb) hj
    clear CA3 hj
    go_wp2_with fail
    (with_reducible refine q.mono ?_)
    rintro e w4 ⟨rfl,b4⟩
    clear q
    replace BC:=BC.below b4 BC.lt
    replace BA:=BA.below b4 BA.lt
    replace hb:=bCall hb b4
    clear b4
    go_upto_region 6 with fail
    have BV:=Blk.new w4 37 #[.int .i64 (-1),.int .i64 0] _ rfl
    replace BC:=BC.alloc (.cells #[.int .i64 (-1),.int .i64 0] 37)
    replace BA:=BA.alloc (.cells #[.int .i64 (-1),.int .i64 0] 37)
    replace hb:=bAl hb (.cells #[.int .i64 (-1),.int .i64 0] 37)
    generalize w4.alloc (.cells #[.int .i64 (-1),.int .i64 0] 37)=w5 at *
    generalize w4.heap.size=vb at *
    obtain ⟨x0,x1,-,-⟩:=BV.two_
    obtain ⟨hform,hval,hbar,hsea,hway⟩:=right_of hc1 hc2
    have hff:=hform
    unfold Cs.formed formedB at hff
    simp only [Bool.and_eq_true,decide_eq_true_eq] at hff
    obtain ⟨n2,n9,hjn,-,hfl0,hf64,hgood,hp0,hp1⟩:=hff
    have hk4':a.c.keys.length≤4:=by omega
    obtain ⟨hAt0,hwok⟩:=at_start hp0 hp1 hsea
    have H0:=Lib.hid (here_of hAt0)
    have Hwok:=Lib.hid hwok
    have Hbar:=Lib.hid hbar
    have Hval:=Lib.hid hval
    have Hway:=Lib.hid hway
    have Hwlt:=Lib.hid (fun (i:Nat) (hi:i≤a.c.keys.length)=>wayK_lt hbar (show a.c.place.toNat<a.c.first.length by omega) hway hi)
    have qc:∀ (w:World) (i:Nat),Below W.heap.size W w→i≤a.c.keys.length→Calls Tryz.prog 17 #[.agg cs,.int .i64 (i:Nat)] w (fun e w'=>∃ A cc,e = .returned (.tuple #[.slice A (a.c.inAt i).length cc,.int .i64 (a.c.wayK i:Nat),.bool true])∧Below w.heap.size w w'∧Rd w' w'.heap.size 6 A (a.c.inAt i).length ((a.c.inAt i).flatMap Ltr.cl)):=fun w i hw hi =>
      aw_come cs jcs a.c w ((h.below hw).more hw.size) (by omega) hkl hform hval hsea a.c.wayK i hi (goes_all hway hi)
    have qfm:=ref_formed55 cs jcs a.c w5 ((h.below hb).more hb.size) (by omega) (by omega)
    rw [hform,hval,hbar] at qfm
    obtain ⟨AK,ck,k4,hRK⟩:=h.keys
    obtain ⟨AJ,cj,k5,hRJ⟩:=h.jobs
    have y4:=(BC.cell 4).trans k4
    have t5:¬(5:Int)<(a.c.keys.length:Int):=by omega
    have LC:=load_case BC h.size
    clear hc1 hc2 hform hval hbar hsea hway hAt0 hwok hgood
    go_upto_region 12 with fail
    apply wp_region_lit
    iterate 12 go_step
    refine wpList_loadG (by rfl) (by rfl) (by rfl) LC ?_
    simp only [Act.put,List.setIfInBounds_toArray,List.set_cons_zero,List.set_cons_succ]
    clear LC
    go_wp2_with fail
    (with_reducible refine qfm.mono ?_)
    rintro e w6 ⟨rfl,b6⟩
    replace BC:=BC.below b6 BC.lt
    replace BA:=BA.below b6 BA.lt
    replace hb:=bCall hb b6
    clear b6 qfm y4 BV x0 x1
    have y4:=(BC.cell 4).trans k4
    have LC:=load_case BC h.size
    have qn:=qc w6 a.c.keys.length hb (Nat.le_refl _)
    go_upto_region 14 with fail
    apply wp_region_lit
    refine wpList_loadG (by rfl) (by rfl) (by rfl) LC ?_
    simp only [Act.put,List.setIfInBounds_toArray,List.set_cons_zero,List.set_cons_succ]
    clear LC
    go_wp2_with fail
    (with_reducible refine qn.mono ?_)
    rintro e w7 ⟨A7,c7,rfl,b7,hR7⟩
    replace BC:=BC.below b7 BC.lt
    replace BA:=BA.below b7 BA.lt
    replace hb:=bCall hb b7
    clear b7 qn y4
    have hkn:=Hwlt.out _ (Nat.le_refl _)
    generalize hkg:a.c.wayK a.c.keys.length=kn at hkn ⊢
    have hkn2:=Lib.hid hkg
    clear hkg
    obtain ⟨Z,hZ⟩:∃ Z,Hid ((a.c.inAt a.c.keys.length)[kn]?=some Z):=⟨_,Lib.hid (List.getElem?_eq_getElem hkn)⟩
    obtain ⟨bo,oo,rfl,hbo,o0,o1,o2,o3,o4,o5⟩:=Ltr_at hR7 hkn hZ.out
    have qr:=el_read Z w7
    obtain ⟨rz,hrz⟩:∃ rz,Hid (rz=readV Z):=⟨_,Lib.hid rfl⟩
    obtain ⟨ze,hze⟩:∃ ze,Hid (ze=Z.err):=⟨_,Lib.hid rfl⟩
    rw [←hrz.out,←hze.out] at qr
    unfold Ltr.agg Wd.agg at qr
    replace hkn:=Lib.hid hkn
    have v0:¬(kn:Int)<0:=by omega
    have v1:¬((a.c.inAt a.c.keys.length).length:Int)≤(kn:Int):=by have:=hkn.out;omega
    have m0:(0:Int)≤(kn:Int):=by omega
    have m1:(kn:Int)<((a.c.inAt a.c.keys.length).length:Int):=by have:=hkn.out;omega
    go_upto_region 17 with fail
    go_wp2_with fail
    (with_reducible refine qr.mono ?_)
    rintro e w8 ⟨rfl,b8⟩
    replace BC:=BC.below b8 BC.lt
    replace BA:=BA.below b8 BA.lt
    replace hb:=bCall hb b8
    clear b8 qr o0 o1 o2 o3 o4 o5
    go_upto_region 18 with fail
    have BW:=Blk.new w8 28 #[.int .i64 rz.x,.int .i64 rz.y,.int .i64 rz.z] _ rfl
    replace BC:=BC.alloc (.cells #[.int .i64 rz.x,.int .i64 rz.y,.int .i64 rz.z] 28)
    replace BA:=BA.alloc (.cells #[.int .i64 rz.x,.int .i64 rz.y,.int .i64 rz.z] 28)
    replace hb:=bAl hb (.cells #[.int .i64 rz.x,.int .i64 rz.y,.int .i64 rz.z] 28)
    generalize w8.alloc (.cells #[.int .i64 rz.x,.int .i64 rz.y,.int .i64 rz.z] 28)=w9 at *
    generalize w8.heap.size=wb at *
    have x0:w9.cell? ⟨wb,0,none⟩=some (.int .i64 rz.x):=BW.cell 0
    have x1:w9.cell? ⟨wb,1,none⟩=some (.int .i64 rz.y):=BW.cell 1
    have x2:w9.cell? ⟨wb,2,none⟩=some (.int .i64 rz.z):=BW.cell 2
    have y7:=(BC.cell 7).trans h.w0
    have y8:=(BC.cell 8).trans h.w1
    have y9:=(BC.cell 9).trans h.w2
    have hq:=run_eqW rz a.c.words
    unfold Wd.agg at hq
    go_cut [120] from 112 to 119 (fun s120 wc=>∃ b:Bool,s120 = .bool b∧wc=w9∧(b=false→Hid (saysB Z a.c.words=false)))
    case first =>
      by_cases hg:Z.good=true
      case neg =>
        have t:(ze==0)=false:=by
          rw [hze.out,beq_eq_false_iff_ne]
          unfold Ltr.err
          rw [if_neg hg]
          omega
        have hn:Hid (saysB Z a.c.words=false):=Lib.hid (by unfold saysB;rw [Bool.eq_false_iff.2 hg];rfl)
        clear hg
        go_wp2_with fail
        go_meet
        exact ⟨false,rfl,rfl,fun _=>hn⟩
      case pos =>
        have hz0:ze=0:=by rw [hze.out];exact if_pos hg
        subst hz0
        have hsy:Hid (saysB Z a.c.words=rz.eqB a.c.words):=Lib.hid (by unfold saysB;rw [hg,←hrz.out];rfl)
        clear hg
        cases hr:rz.eqB a.c.words
        · rw [hr] at hq hsy
          go_wp2_with fail
          go_meet
          exact ⟨false,rfl,rfl,fun _=>hsy⟩
        · rw [hr] at hq
          go_wp2_with fail
          go_meet
          exact ⟨true,rfl,rfl,fun h=>by cases h⟩
    case rest =>
      obtain ⟨br,rfl,rfl,hno⟩:=hcut
      clear x0 x1 x2 y7 y8 y9 hq BW
      cases br
      case true =>
        go_wp2_with fail
        go_ret
        exact ⟨rfl,hb⟩
      replace hno:=hno rfl
      have y4:=(BC.cell 4).trans k4
      go_upto_region 20 with fail
      go_wp2_with fail
      clear y4 hbo v0 v1 m0 m1
      go_loopw [124] (fun lg wr=>∃ i:Nat,i≤a.c.keys.length∧lg = .int .i64 i∧Below W.heap.size W wr∧Blk wr W.heap.size 33 cs∧Blk wr (W.heap.size+1) 62 arr∧Hid (a.c.Here i)) (fun lg _=>a.c.keys.length - (intOf lg).toNat)
      case atStart=>exact ⟨0,Nat.zero_le _,rfl,hb,BC,BA,H0⟩
      case round =>
        clear BC BA hb H0
        obtain ⟨i,hin,rfl,hb,BC,BA,hH⟩:=hrel
        by_cases hlt:i<a.c.keys.length
        · obtain ⟨s,hs0⟩:∃ s,Hid (ss[i]?=some s):=⟨_,Lib.hid (List.getElem?_eq_getElem (by omega))⟩
          obtain ⟨ky,hky⟩:∃ ky,Hid (a.c.keys[i]?=some ky):=⟨_,Lib.hid (List.getElem?_eq_getElem hlt)⟩
          have cA:=(BA.cell i).trans (hcell i s hs0.out)
          have q1:=el_public s wr
          have j0:(0:Int)≤(i:Int):=by omega
          have j1:(i:Int)<(a.c.keys.length:Int):=by omega
          have j2:(i:Int)<5:=by omega
          by_cases hsec:secB s=true
          case neg =>
            have e1:pubE s=110:=by unfold pubE;rw [if_neg hsec]
            rw [e1] at q1
            clear e1 hsec
            go_wp2_with fail
            (with_reducible refine q1.mono ?_)
            rintro e w1 ⟨rfl,b1⟩
            go_wp2_with fail
            go_ret
            exact ⟨rfl,bCall hb b1⟩
          have e1:pubE s=0:=by unfold pubE;rw [if_pos hsec];unfold powE;rw [if_pos valid_four]
          rw [e1] at q1
          have Hsec:=Lib.hid hsec
          clear e1 hsec
          obtain ⟨pk,hpk⟩:∃ pk,Hid (pk=pubV s):=⟨_,Lib.hid rfl⟩
          rw [←hpk.out] at q1
          obtain ⟨bk,offk,hAK,hbk,c1⟩:=Int_at hRK hlt hky.out
          subst hAK
          go_wp2_with fail
          (with_reducible refine q1.mono ?_)
          rintro e w1 ⟨rfl,b1⟩
          replace BC:=BC.below b1 BC.lt
          replace BA:=BA.below b1 BA.lt
          replace hb:=bCall hb b1
          clear q1 b1 cA
          have d1:=(hb.cell (p:=⟨bk,offk+i,none⟩) hbk).trans c1
          have y4:=(BC.cell 4).trans k4
          by_cases hkk:pk=ky
          case neg =>
            have t:(pk != ky)=true:=by rw [bne_iff_ne];exact hkk
            go_wp2_with fail
            go_ret
            exact ⟨rfl,hb⟩
          subst hkk
          have hkey:Hid (pubV s=a.c.keyAt i):=Lib.hid (by rw [key_of hky.out];exact hpk.out.symm)
          obtain ⟨x,hx⟩:=hH.out
          have Hx:=Lib.hid hx
          have LC:=load_case BC h.size
          have qi:=qc w1 i hb hin
          obtain ⟨f1,f2,f3,y,p,hy,hp,hcb⟩:=at_fits hx (bare_of Hbar.out hlt) (fun he=>way_right Hway.out hlt hx.way he)
          have Hy:=Lib.hid hy
          have hit:=hx.here
          have Hit:=Lib.hid hit
          clear hx hy hp hcb f3 hit
          generalize hkg2:a.c.wayK i=k at f1 f2 Hy Hit Hx qi
          have hk0:=Lib.hid hkg2
          clear hkg2
          obtain ⟨jc,hjc⟩:∃ jc,Hid (jcs[i]?=some jc):=⟨_,Lib.hid (List.getElem?_eq_getElem (by rw [h.jlen];omega))⟩
          obtain ⟨a1,a2,a3,a4⟩:=h.job i jc hjc.out
          obtain ⟨A0,n0,u0,hR0⟩:=a3.h0
          have l3:(i:Int)<(a.c.jobs.length:Int):=by omega
          obtain ⟨bj,oj,cj',h5',hbj,hL⟩:=h.jobLoad (by omega)
          have hLc:=(hL i jc hjc.out).2 0 _ u0
          clear hL
          have v0:¬(k:Int)<0:=by omega
          have v1:¬((a.c.inAt i).length:Int)≤(k:Int):=by omega
          have v2:¬((a.c.jobAt i).bare.length:Int)≤(k:Int):=by omega
          have m0:(0:Int)≤(k:Int):=by omega
          have m1:(k:Int)<((a.c.inAt i).length:Int):=by omega
          have m2:(k:Int)<((a.c.jobAt i).bare.length:Int):=by omega
          go_upto_region 26 with fail
          apply wp_region_lit
          refine wpList_loadG (by rfl) (by rfl) (by rfl) LC ?_
          simp only [Act.put,List.setIfInBounds_toArray,List.set_cons_zero,List.set_cons_succ]
          clear LC
          go_wp2_with fail
          (with_reducible refine qi.mono ?_)
          rintro e w2 ⟨A2,c2,rfl,b2,hR2⟩
          replace BC:=BC.below b2 BC.lt
          replace BA:=BA.below b2 BA.lt
          replace hb:=bCall hb b2
          clear qi b2 d1 y4
          obtain ⟨bb,offb,rfl,hbb,o0,o1,o2,o3,o4,o5⟩:=Ltr_at hR2 f1 Hit.out
          have y5:=(BC.cell 5).trans h5'
          have z0:w2.cell? ⟨bj,oj+i*49,none⟩=_:=(hb.cell (p:=⟨bj,oj+i*49+0,none⟩) hbj).trans hLc
          have cA:=(BA.cell i).trans (hcell i s hs0.out)
          obtain ⟨e1,e2⟩:=strip_is Hsec.out Hx.out.good
          have qs:Hid (∀ w,Calls Tryz.prog 20 #[.int .i64 s,.agg #[.int .i64 x.a0,.int .i64 x.b0,.int .i64 x.a1,.int .i64 x.b1,.int .i64 x.a2,.int .i64 x.b2]] w (Ret (.tuple #[(stripL s x).agg,.int .i64 0]) w)):=Lib.hid (fun w=>by
            have:=el_strip s x w
            rw [e1,e2] at this
            exact this)
          clear e1 e2
          obtain ⟨sv,hsv⟩:∃ sv,Hid (sv=stripL s x):=⟨_,Lib.hid rfl⟩
          rw [←hsv.out] at qs
          unfold Ltr.agg at qs
          go_upto_region 29 with fail
          have KS:Hid (∀ w',Below w2.heap.size w2 w'→_):=Lib.hid (fun w' b'=>(fun a0 a1 a2 a3 a4 a5 a6=>⟨a0,a1,a2,a3,a4,a5,a6⟩:w'.cell? ⟨W.heap.size+1,i,none⟩=some (.int .i64 s)→w'.cell? ⟨bb,offb+k*6,none⟩=some (.int .i64 x.a0)→w'.cell? ⟨bb,offb+k*6+1,none⟩=some (.int .i64 x.b0)→w'.cell? ⟨bb,offb+k*6+2,none⟩=some (.int .i64 x.a1)→w'.cell? ⟨bb,offb+k*6+3,none⟩=some (.int .i64 x.b1)→w'.cell? ⟨bb,offb+k*6+4,none⟩=some (.int .i64 x.a2)→w'.cell? ⟨bb,offb+k*6+5,none⟩=some (.int .i64 x.b2)→_∧_∧_∧_∧_∧_∧_)
            ((b'.cell (p:=⟨W.heap.size+1,i,none⟩) BA.lt).trans cA) ((b'.cell (p:=⟨bb,offb+k*6,none⟩) hbb).trans o0) ((b'.cell (p:=⟨bb,offb+k*6+1,none⟩) hbb).trans o1) ((b'.cell (p:=⟨bb,offb+k*6+2,none⟩) hbb).trans o2) ((b'.cell (p:=⟨bb,offb+k*6+3,none⟩) hbb).trans o3) ((b'.cell (p:=⟨bb,offb+k*6+4,none⟩) hbb).trans o4) ((b'.cell (p:=⟨bb,offb+k*6+5,none⟩) hbb).trans o5))
          clear y5 z0
          go_cut [20,21] from 152 to 185 (fun s14 s15 wc=>∃ lb,s14 = .pointer (some ⟨lb,0,none⟩)∧s15 = .int .i64 0∧Blk wc lb 70 #[.int .i64 sv.a0,.int .i64 sv.b0,.int .i64 sv.a1,.int .i64 sv.b1,.int .i64 sv.a2,.int .i64 sv.b2]∧Below w2.heap.size w2 wc)
          case first =>
            go_region_held3 (fun w'=>w'.cell? ⟨W.heap.size+1,i,none⟩=some (.int .i64 s)∧w'.cell? ⟨bb,offb+k*6,none⟩=some (.int .i64 x.a0)∧w'.cell? ⟨bb,offb+k*6+1,none⟩=some (.int .i64 x.b0)∧w'.cell? ⟨bb,offb+k*6+2,none⟩=some (.int .i64 x.a1)∧w'.cell? ⟨bb,offb+k*6+3,none⟩=some (.int .i64 x.b1)∧w'.cell? ⟨bb,offb+k*6+4,none⟩=some (.int .i64 x.a2)∧w'.cell? ⟨bb,offb+k*6+5,none⟩=some (.int .i64 x.b2))
              (exact KS.out _ (by repeat (first | with_reducible exact B7 | with_reducible exact bRefl _ | with_reducible refine bAl ?_ _ | with_reducible refine bDr ?_ | with_reducible refine bSet ?_ (by exact Nat.le_refl _) _)))
              (first
              | (go_simp;go_at_call 20;(with_reducible refine (qs.out _).mono ?_);rintro e w7 ⟨rfl,b7⟩;have B7:Below w2.heap.size w2 w7:=bCall (by repeat (first | exact bRefl _ | refine bAl ?_ _ | refine bDr ?_)) b7;(try (have BZ:Blk w7 w2.heap.size 70 #[.int .i64 0,.int .i64 0,.int .i64 0,.int .i64 0,.int .i64 0,.int .i64 0]:=Blk.below (by first | exact Blk.new _ _ _ _ rfl | exact Blk.dr (Blk.new _ _ _ _ rfl)) b7 (by simp);obtain ⟨k0,k1,k2,k3,k4,k5⟩:=BZ.six;obtain ⟨z0,z1,z2,z3,z4,z5⟩:=BZ.six_free))))
            all_goals
              go_wp2_with fail
              go_meet
              first
                | (with_reducible refine ⟨_,rfl,rfl,Blk.new _ _ _ _ rfl,bAl B7 _⟩;done)
                | exact ⟨_,rfl,rfl,BZ.set6 (.int .i64 sv.a0) (.int .i64 sv.b0) (.int .i64 sv.a1) (.int .i64 sv.b1) (.int .i64 sv.a2) (.int .i64 sv.b2),bSet6 B7 (Nat.le_refl _) (.int .i64 sv.a0) (.int .i64 sv.b0) (.int .i64 sv.a1) (.int .i64 sv.b1) (.int .i64 sv.a2) (.int .i64 sv.b2)⟩
          case rest =>
            obtain ⟨lb,rfl,rfl,BS,b8⟩:=hcut
            replace BC:=BC.below b8 BC.lt
            replace BA:=BA.below b8 BA.lt
            replace hb:=bCall hb b8
            clear KS qs b8 cA o0 o1 o2 o3 o4 o5
            obtain ⟨s0,s1,s2,s3,s4,s5⟩:=BS.six
            have y5:=(BC.cell 5).trans h5'
            have z0:wc.cell? ⟨bj,oj+i*49,none⟩=_:=(hb.cell (p:=⟨bj,oj+i*49+0,none⟩) hbj).trans hLc
            obtain ⟨b0,off0,rfl,hb0,r0,r1,r2,r3,r4,r5⟩:=Ltr_at hR0.1 (show k<(a.c.jobAt i).bare.length by omega) Hy.out
            have x0:=(hb.cell (p:=⟨b0,off0+k*6,none⟩) hb0).trans r0
            have x1:=(hb.cell (p:=⟨b0,off0+k*6+1,none⟩) hb0).trans r1
            have x2:=(hb.cell (p:=⟨b0,off0+k*6+2,none⟩) hb0).trans r2
            have x3:=(hb.cell (p:=⟨b0,off0+k*6+3,none⟩) hb0).trans r3
            have x4:=(hb.cell (p:=⟨b0,off0+k*6+4,none⟩) hb0).trans r4
            have x5:=(hb.cell (p:=⟨b0,off0+k*6+5,none⟩) hb0).trans r5
            have hne:=run_neS sv y
            unfold Ltr.agg at hne
            clear r0 r1 r2 r3 r4 r5 hLc
            cases hr:sv.eqB y
            case false =>
              rw [hr] at hne
              clear hr
              go_upto_region 30 with fail
              go_quiet (fail)
              go_wp2_with fail
              go_ret
              exact ⟨rfl,bDrN hb nq⟩
            case true =>
              rw [hr] at hne
              have hxy:stripL s x=y:=by rw [←hsv.out];exact Ltr.eqB_iff.1 hr
              obtain ⟨k',z',hz'⟩:=at_next (fun k=>(elem_ok (Hwok.out k)).1) Hx.out hlt Hval.out Hsec.out hkey.out Hy.out hxy (fun he=>way_right Hway.out hlt (by rw [←hk0.out];exact wayK_is Hway.out hin) he)
              have Hn:=Lib.hid (here_of hz')
              clear hr hxy hz'
              go_upto_region 30 with fail
              go_quiet (fail)
              go_wp2_with fail
              exact ⟨⟨i+1,hlt,by go_num,bDrN hb nq,BC,BA,Hn⟩,by simp [intOf];omega⟩
        · have hie:i=a.c.keys.length:=by omega
          subst hie
          exfalso
          obtain ⟨x,hx⟩:=hH.out
          have h1:=hx.here
          rw [hkn2.out,hZ.out] at h1
          injection h1 with h1
          subst h1
          have h2:=says_end Hwok.out hx
          rw [hno.out] at h2
          cases h2
  · have q := hP.of CA3 rfl hl3 (by omega) hlc hlc2 (hG.below hb) hj
    clear CA3 hj
    go_wp2_with fail
    (with_reducible refine q.mono ?_)
    rintro e w4 ⟨rfl,b4⟩
    clear q
    replace BC:=BC.below b4 BC.lt
    replace BA:=BA.below b4 BA.lt
    replace hb:=bCall hb b4
    clear b4
    go_upto_region 6 with fail
    have BV:=Blk.new w4 37 #[.int .i64 jo,.int .i64 jy] _ rfl
    replace BC:=BC.alloc (.cells #[.int .i64 jo,.int .i64 jy] 37)
    replace BA:=BA.alloc (.cells #[.int .i64 jo,.int .i64 jy] 37)
    replace hb:=bAl hb (.cells #[.int .i64 jo,.int .i64 jy] 37)
    generalize w4.alloc (.cells #[.int .i64 jo,.int .i64 jy] 37)=w5 at *
    generalize w4.heap.size=vb at *
    obtain ⟨x0,x1,-,-⟩:=BV.two_
    have t1:((jo:Int) != -1)=true:=by rw [bne_iff_ne];omega
    have t2:(0:Int)≤(jo:Int):=by omega
    have t3:(jo:Int)<(l.length:Int):=by omega
    go_wp2_with fail
    go_ret
    exact ⟨rfl,hb⟩
end Go.Proofs.YtgkpomdegomgiaaGreatDoor
