/- The reference's elgamal: power, times, Formed, Seal, Again. -/
import Derived.Test.YtgkpomdegomgiaaGreatDoorMbr
import Derived.Test.YtgkpomdegomgiaaGreatDoorMak
import Derived.Test.YtgkpomdegomgiaaGreatDoorMaz
import Derived.Test.YtgkpomdegomgiaaGreatDoorMbq
import Derived.Test.YtgkpomdegomgiaaGreatDoorMan
set_option maxRecDepth 1000000
set_option maxHeartbeats 16000000
namespace Go.Proofs.YtgkpomdegomgiaaGreatDoor
open Go.RowKit
theorem ref_formed (A:Option Addr) (n c:Nat) (l:List Ltr) (W:World) (hA:Rd W W.heap.size 6 A n (l.flatMap Ltr.cl)) (hn:n≤9223372036854775807) :
    Calls Tryz.prog 37 #[.slice A n c] W (Ret (.bool (l.all Ltr.good)) W):=by
  obtain rfl:l.length=n:=Ltrs_length hA
  obtain ⟨v,hv⟩:∃ v,v=l.all Ltr.good:=⟨_,rfl⟩
  rw [←hv]
  have Hv:=Lib.hid hv
  clear hv
  go_enter Tryz.func37,Tryz.ntmps37
  go_wp2_with fail
  go_loopw [3] (fun i wr=>∃ k:Nat,k≤l.length∧i = .int .i64 k∧Below W.heap.size W wr∧Hid (∀ y∈l.take k,y.good=true)) (fun i _=>l.length - (intOf i).toNat)
  case atStart=>exact ⟨0,Nat.zero_le _,rfl,bRefl W,Lib.hid (by simp)⟩
  case round =>
    obtain ⟨k,hkn,rfl,hb,hp⟩:=hrel
    by_cases hlt:k<l.length
    · obtain ⟨x,hx⟩:∃ x,Hid (l[k]?=some x):=⟨_,Lib.hid (List.getElem?_eq_getElem hlt)⟩
      obtain ⟨b,off,hAb,hbb,o0,o1,o2,o3,o4,o5⟩:=Ltr_at (hA.below hb) hlt hx.out
      subst hAb
      have q:=ref_check x wr
      have i0:(0:Int)≤(k:Int):=by omega
      have i1:(k:Int)<(l.length:Int):=by omega
      by_cases hg:x.good=true
      · have he:x.err=0:=if_pos hg
        rw [he] at q
        have hp':Hid (∀ z∈l.take (k+1),z.good=true):=by
          intro z hz
          obtain ⟨hk,rfl⟩:=List.getElem?_eq_some_iff.1 hx.out
          rw [List.take_succ_eq_append_getElem hk] at hz
          rcases List.mem_append.1 hz with hz | hz
          · exact hp.out z hz
          · obtain rfl:z=l[k]:=by simpa using hz
            exact hg
        clear he hg
        go_wp2_with fail
        (with_reducible refine q.mono ?_)
        rintro e w' ⟨rfl,b'⟩
        go_wp2_with fail
        exact ⟨⟨k+1,by omega,by go_num,bCall hb b',hp'⟩,by simp [intOf];omega⟩
      · have he:x.err=100:=if_neg hg
        rw [he] at q
        have hx0:Hid (v=false):=by
          show _=_
          rw [Hv.out]
          exact List.all_eq_false.2 ⟨x,List.mem_of_getElem? hx.out,hg⟩
        clear he hg
        go_wp2_with fail
        (with_reducible refine q.mono ?_)
        rintro e w' ⟨rfl,b'⟩
        go_wp2_with fail
        go_ret
        exact ⟨ret_bool hx0.out.symm,bCall hb b'⟩
    · have hx0:Hid (v=true):=by
        show _=_
        rw [Hv.out]
        exact List.all_eq_true.2 (by have:=hp.out;rw [List.take_of_length_le (by omega)] at this;exact this)
      go_wp2_with fail
      go_ret
      exact ⟨ret_bool hx0.out.symm,hb⟩
def nAt (n0 n1 n2:Int) (k:Fin 3):Int:=match k with | 0=>n0 | 1=>n1 | 2=>n2
def setL (y:Ltr) (k:Fin 3) (a b:Int):Ltr:=match k with | 0=>⟨a,b,y.a1,y.b1,y.a2,y.b2⟩ | 1=>⟨y.a0,y.b0,a,b,y.a2,y.b2⟩ | 2=>⟨y.a0,y.b0,y.a1,y.b1,a,b⟩
theorem mulL_pair (x z:Int):mulL [x,z]=mulV x z:=by
  unfold mulL
  simp only [List.foldl]
  by_cases hx:validB x=true
  · rw [mulV_eq valid_one hx,Int.one_mul,modP hx]
  · have h1:mulV 1 x=0:=(mulV_no2 hx).1
    have h2:mulV x z=0:=(mulV_no1 hx).1
    have h0:¬validB 0=true:=by
      intro h
      have:=validB_rng h
      omega
    rw [h1,h2,(mulV_no1 h0).1]
theorem pair_two {w:World} {b:Nat} {t:TypeId} {v u:Value} (h:Blk w b t #[v,u]):w.cell? ⟨b,0,none⟩=some v∧w.cell? ⟨b,1,none⟩=some u:=⟨h.cell 0,h.cell 1⟩
theorem ref_eformed (key a d E S:Int) (W:World) :
    Calls Tryz.prog 148 #[.int .i64 key,.int .i64 a,.int .i64 d,.agg #[.int .i64 E,.int .i64 S]] W (Ret (.bool (chk1 key a d&&chk2 E S)) W):=by
  obtain ⟨v,hv⟩:∃ v,v=(chk1 key a d&&chk2 E S):=⟨_,rfl⟩
  rw [←hv]
  unfold chk1 chk2 ordB at hv
  have BE:=Blk.new W 137 #[.int .i64 E,.int .i64 S] _ rfl
  have hb:=bAl (bRefl W) (.cells #[.int .i64 E,.int .i64 S] 137)
  go_enter Tryz.func148,Tryz.ntmps148
  go_upto_region 1 with fail
  generalize W.alloc (.cells #[.int .i64 E,.int .i64 S] 137)=w1 at *
  obtain ⟨c0,c1⟩:=pair_two BE
  have q1:=ref_valid key w1
  have q2:=ref_valid a w1
  have q3:=ref_valid d w1
  cases h1:validB key
  · have Hv:Hid (v=false):=by show _=_;rw [hv,h1];simp
    rw [h1] at q1
    clear hv h1
    go_wp2_with fail
    (with_reducible refine q1.mono ?_)
    rintro e w' ⟨rfl,rfl⟩
    go_wp2_with fail
    go_ret
    exact ⟨ret_bool Hv.out.symm,hb⟩
  cases h2:validB a
  · have Hv:Hid (v=false):=by show _=_;rw [hv,h2];simp
    rw [h1] at q1
    rw [h2] at q2
    clear hv h1 h2
    go_wp2_with fail
    (with_reducible refine q1.mono ?_)
    rintro e w' ⟨rfl,rfl⟩
    go_wp2_with fail
    (with_reducible refine q2.mono ?_)
    rintro e w' ⟨rfl,rfl⟩
    go_wp2_with fail
    go_ret
    exact ⟨ret_bool Hv.out.symm,hb⟩
  cases h3:validB d
  · have Hv:Hid (v=false):=by show _=_;rw [hv,h3];simp
    rw [h1] at q1
    rw [h2] at q2
    rw [h3] at q3
    clear hv h1 h2 h3
    go_wp2_with fail
    (with_reducible refine q1.mono ?_)
    rintro e w' ⟨rfl,rfl⟩
    go_wp2_with fail
    (with_reducible refine q2.mono ?_)
    rintro e w' ⟨rfl,rfl⟩
    go_wp2_with fail
    (with_reducible refine q3.mono ?_)
    rintro e w' ⟨rfl,rfl⟩
    go_wp2_with fail
    go_ret
    exact ⟨ret_bool Hv.out.symm,hb⟩
  rw [h1] at q1
  rw [h2] at q2
  rw [h3] at q3
  rw [h1,h2,h3] at hv
  clear h1 h2 h3
  by_cases e0:0≤E
  case neg =>
    have Hv:Hid (v=false):=by show _=_;rw [hv];simp;omega
    have g:decide (0≤E)=false:=by rw [decide_eq_false];omega
    clear hv
    clear e0
    go_wp2_with fail
    (with_reducible refine q1.mono ?_)
    rintro e w' ⟨rfl,rfl⟩
    go_wp2_with fail
    (with_reducible refine q2.mono ?_)
    rintro e w' ⟨rfl,rfl⟩
    go_wp2_with fail
    (with_reducible refine q3.mono ?_)
    rintro e w' ⟨rfl,rfl⟩
    go_wp2_with fail
    go_ret
    exact ⟨ret_bool Hv.out.symm,hb⟩
  by_cases e1:E<1073741789
  case neg =>
    have Hv:Hid (v=false):=by show _=_;rw [hv];simp;omega
    have g:decide (E<1073741789)=false:=by rw [decide_eq_false];omega
    clear hv
    clear e1
    go_wp2_with fail
    (with_reducible refine q1.mono ?_)
    rintro e w' ⟨rfl,rfl⟩
    go_wp2_with fail
    (with_reducible refine q2.mono ?_)
    rintro e w' ⟨rfl,rfl⟩
    go_wp2_with fail
    (with_reducible refine q3.mono ?_)
    rintro e w' ⟨rfl,rfl⟩
    go_wp2_with fail
    go_ret
    exact ⟨ret_bool Hv.out.symm,hb⟩
  by_cases s0:0≤S
  case neg =>
    have Hv:Hid (v=false):=by show _=_;rw [hv];simp;omega
    have g:decide (0≤S)=false:=by rw [decide_eq_false];omega
    clear hv
    clear s0
    go_wp2_with fail
    (with_reducible refine q1.mono ?_)
    rintro e w' ⟨rfl,rfl⟩
    go_wp2_with fail
    (with_reducible refine q2.mono ?_)
    rintro e w' ⟨rfl,rfl⟩
    go_wp2_with fail
    (with_reducible refine q3.mono ?_)
    rintro e w' ⟨rfl,rfl⟩
    go_wp2_with fail
    go_ret
    exact ⟨ret_bool Hv.out.symm,hb⟩
  by_cases s1:S<1073741789
  case neg =>
    have Hv:Hid (v=false):=by show _=_;rw [hv];simp;omega
    have g:decide (S<1073741789)=false:=by rw [decide_eq_false];omega
    clear hv
    clear s1
    go_wp2_with fail
    (with_reducible refine q1.mono ?_)
    rintro e w' ⟨rfl,rfl⟩
    go_wp2_with fail
    (with_reducible refine q2.mono ?_)
    rintro e w' ⟨rfl,rfl⟩
    go_wp2_with fail
    (with_reducible refine q3.mono ?_)
    rintro e w' ⟨rfl,rfl⟩
    go_wp2_with fail
    go_ret
    exact ⟨ret_bool Hv.out.symm,hb⟩
  have Hv:Hid (v=true):=by show _=_;rw [hv];simp;omega
  clear hv
  go_wp2_with fail
  (with_reducible refine q1.mono ?_)
  rintro e w' ⟨rfl,rfl⟩
  go_wp2_with fail
  (with_reducible refine q2.mono ?_)
  rintro e w' ⟨rfl,rfl⟩
  go_wp2_with fail
  (with_reducible refine q3.mono ?_)
  rintro e w' ⟨rfl,rfl⟩
  go_wp2_with fail
  go_ret
  exact ⟨ret_bool Hv.out.symm,hb⟩
theorem neg_in {n:Int} (h:0≤n∧n<1073741789):IntKind.i64.wrap (-n) = -n:=by rw [IntKind.wrap_i64];omega
theorem ref_commits (key a d E S:Int) (W:World) (hE:0≤E∧E<1073741789) :
    Calls Tryz.prog 149 #[.int .i64 key,.int .i64 a,.int .i64 d,.agg #[.int .i64 E,.int .i64 S]] W (Ret (.tuple #[.int .i64 (rV key E S),.int .i64 (sV a d E S)]) W):=by
  have hn:=neg_in hE
  obtain ⟨x,hx⟩:∃ x,Hid (x=rV key E S):=⟨_,Lib.hid rfl⟩
  obtain ⟨y,hy⟩:∃ y,Hid (y=sV a d E S):=⟨_,Lib.hid rfl⟩
  have q1:=fun w=>ref_pow 4 S w
  have q2:=fun w=>ref_pow key (-E) w
  have q3:=fun w=>ref_pow a S w
  have q4:=fun w=>ref_pow d (-E) w
  have q5:=fun w=>ref_mul (powV 4 S) (powV key (-E)) w
  have q6:=fun w=>ref_mul (powV a S) (powV d (-E)) w
  rw [←mulL_pair] at q5 q6
  change ∀ w,Calls _ _ _ w (Same (.tuple #[.int .i64 (rV key E S),_]) w) at q5
  change ∀ w,Calls _ _ _ w (Same (.tuple #[.int .i64 (sV a d E S),_]) w) at q6
  rw [←hx.out] at q5 ⊢
  rw [←hy.out] at q6 ⊢
  generalize powV 4 S=u1 at *
  generalize powV key (-E)=u2 at *
  generalize powV a S=u3 at *
  generalize powV d (-E)=u4 at *
  generalize powE 4=f1 at *
  generalize powE key=f2 at *
  generalize powE a=f3 at *
  generalize powE d=f4 at *
  generalize mulE u1 u2=f5 at *
  generalize mulE u3 u4=f6 at *
  obtain ⟨m,hm⟩:∃ m,m = -E:=⟨_,rfl⟩
  rw [←hm] at q2 q4 hn
  have BE:=Blk.new W 137 #[.int .i64 E,.int .i64 S] _ rfl
  have hb:=bAl (bRefl W) (.cells #[.int .i64 E,.int .i64 S] 137)
  subst hm
  clear hx hy
  go_enter Tryz.func149,Tryz.ntmps149
  go_upto_region 1 with fail
  generalize W.alloc (.cells #[.int .i64 E,.int .i64 S] 137)=w1 at *
  obtain ⟨c0,c1⟩:=pair_two BE
  go_wp2_with fail
  (with_reducible refine (q1 _).mono ?_)
  rintro e w' ⟨rfl,rfl⟩
  go_wp2_with fail
  (with_reducible refine (q2 _).mono ?_)
  rintro e w' ⟨rfl,rfl⟩
  go_wp2_with fail
  (with_reducible refine (q3 _).mono ?_)
  rintro e w' ⟨rfl,rfl⟩
  go_wp2_with fail
  (with_reducible refine (q4 _).mono ?_)
  rintro e w' ⟨rfl,rfl⟩
  go_wp2_with fail
  (with_reducible refine (q5 _).mono ?_)
  rintro e w' ⟨rfl,rfl⟩
  go_wp2_with fail
  (with_reducible refine (q6 _).mono ?_)
  rintro e w' ⟨rfl,rfl⟩
  go_wp2_with fail
  go_ret2
  exact ⟨rfl,hb⟩
end Go.Proofs.YtgkpomdegomgiaaGreatDoor
