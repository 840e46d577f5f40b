/- The reference of handover: time, Formed, Letter; walked. -/
import Derived.Test.YtgkpomdegomgiaaGreatDoorMbe
import Derived.Test.YtgkpomdegomgiaaGreatDoorMaw
import Derived.Test.YtgkpomdegomgiaaGreatDoorMbh
set_option maxRecDepth 1000000
set_option maxHeartbeats 16000000
namespace Go.Proofs.YtgkpomdegomgiaaGreatDoor
open Go.RowKit
theorem ref_time48 (n:Int) (W:World):Calls Tryz.prog 84 #[.int .i64 n] W (Same (.bool (tmB n)) W):=by
  obtain ⟨v,hv⟩:∃ v,Hid (v=tmB n):=⟨_,Lib.hid rfl⟩
  rw [←hv.out]
  by_cases h1:0≤n
  · by_cases h2 : n < 2097152
    · have e:Hid (v=true):=Lib.hid (by rw [hv.out];unfold tmB;rw [decide_eq_true h1,decide_eq_true h2];rfl)
      go_enter Tryz.func84,Tryz.ntmps84
      go_wp2_with fail
      go_ret
      exact ⟨ret_bool (by rw [e.out]),rfl⟩
    · have e:Hid (v=false):=Lib.hid (by rw [hv.out];unfold tmB;rw [decide_eq_false h2,Bool.and_false])
      go_enter Tryz.func84,Tryz.ntmps84
      go_wp2_with fail
      go_ret
      exact ⟨ret_bool (by rw [e.out]),rfl⟩
  · have e:Hid (v=false):=Lib.hid (by rw [hv.out];unfold tmB;rw [decide_eq_false h1,Bool.false_and])
    go_enter Tryz.func84,Tryz.ntmps84
    go_wp2_with fail
    go_ret
    exact ⟨ret_bool (by rw [e.out]),rfl⟩
def Hd.runB (h:Hd):Bool:=decide (0≤h.line)&&(decide (h.line<64)&&(tmB h.at_&&tmB h.arrive))
def Hd.offB (h:Hd):Bool:=decide (0≤h.from_)&&(decide (h.from_<24)&&(decide (-1≤h.to_)&&(decide (h.to_<24)&&decide (h.from_≠h.to_))))
def Hd.endB (h:Hd):Bool:=decide (0≤h.leg)&&(decide (h.leg≤8)&&(decide (0≤h.many)&&(decide (h.many≤64)&&tmB h.time)))
theorem Hd.formed_eq (h:Hd):h.formed=(h.runB&&(h.offB&&h.endB)):=by
  unfold Hd.formed Hd.runB Hd.offB Hd.endB
  simp only [Bool.decide_and]
  cases tmB h.at_ <;> cases tmB h.arrive <;> cases tmB h.time <;> simp [Bool.and_assoc,Bool.and_comm,Bool.and_left_comm]
theorem ref_formed48 (h:Hd) (ho:h.ok) (W:World):Calls Tryz.prog 40 #[.agg h.cl.toArray] W (Ret (.bool h.formed) W):=by
  obtain ⟨cs,hcs⟩:∃ cs,h.cl.toArray=cs:=⟨_,rfl⟩
  rw [hcs,Hd.formed_eq]
  have BH:=Blk.new W 47 cs _ rfl
  have hb:=bAl (bRefl W) (.cells cs 47)
  obtain ⟨c0,c1,c2,c3,c4,c5,c6,c39,c40,c41⟩:=HdAt.of BH hcs.symm ho
  have q1:=Lib.hid (fun w=>ref_time48 h.at_ w)
  have q2:=Lib.hid (fun w=>ref_time48 h.arrive w)
  have q3:=Lib.hid (fun w=>ref_time48 h.time w)
  obtain ⟨R,hR⟩:∃ R,Hid (R=h.runB):=⟨_,Lib.hid rfl⟩
  obtain ⟨O,hO⟩:∃ O,Hid (O=h.offB):=⟨_,Lib.hid rfl⟩
  obtain ⟨E,hE⟩:∃ E,Hid (E=h.endB):=⟨_,Lib.hid rfl⟩
  rw [←hR.out,←hO.out,←hE.out]
  go_enter Tryz.func40,Tryz.ntmps40
  go_upto_region 1 with fail
  generalize W.alloc (.cells cs 47)=w1 at *
  go_cut [3] (fun s3 wc=>s3 = .bool R∧wc=w1)
  case first =>
    by_cases k0:0≤h.line
    case neg =>
      have e:Hid (R=false):=Lib.hid (by rw [hR.out];unfold Hd.runB;simp [k0])
      clear hR
      go_wp2_with (first | (go_at_call 84;(first | (with_reducible refine (q1.out _).mono ?_) | (with_reducible refine (q2.out _).mono ?_));rintro e w3 ⟨rfl,rfl⟩) | fail)
      go_meet
      exact ⟨by rw [e.out];try simpa using k4,rfl⟩
    by_cases k1:h.line<64
    case neg =>
      have e:Hid (R=false):=Lib.hid (by rw [hR.out];unfold Hd.runB;simp [k0,k1])
      clear hR
      go_wp2_with (first | (go_at_call 84;(first | (with_reducible refine (q1.out _).mono ?_) | (with_reducible refine (q2.out _).mono ?_));rintro e w3 ⟨rfl,rfl⟩) | fail)
      go_meet
      exact ⟨by rw [e.out];try simpa using k4,rfl⟩
    cases k2:tmB h.at_
    case false =>
      rw [k2] at q1
      have e:Hid (R=false):=Lib.hid (by rw [hR.out];unfold Hd.runB;simp [k0,k1,k2])
      clear hR
      go_wp2_with (first | (go_at_call 84;(first | (with_reducible refine (q1.out _).mono ?_) | (with_reducible refine (q2.out _).mono ?_));rintro e w3 ⟨rfl,rfl⟩) | fail)
      go_meet
      exact ⟨by rw [e.out];try simpa using k4,rfl⟩
    rw [k2] at q1
    cases k3:tmB h.arrive
    case false =>
      rw [k3] at q2
      have e:Hid (R=false):=Lib.hid (by rw [hR.out];unfold Hd.runB;simp [k0,k1,k2,k3])
      clear hR
      go_wp2_with (first | (go_at_call 84;(first | (with_reducible refine (q1.out _).mono ?_) | (with_reducible refine (q2.out _).mono ?_));rintro e w3 ⟨rfl,rfl⟩) | fail)
      go_meet
      exact ⟨by rw [e.out];try simpa using k4,rfl⟩
    rw [k3] at q2
    have e:Hid (R=true):=Lib.hid (by rw [hR.out];unfold Hd.runB;simp [k0,k1,k2,k3])
    clear hR
    go_wp2_with (first | (go_at_call 84;(first | (with_reducible refine (q1.out _).mono ?_) | (with_reducible refine (q2.out _).mono ?_));rintro e w3 ⟨rfl,rfl⟩) | fail)
    go_meet
    exact ⟨by rw [e.out];try simpa using k4,rfl⟩
  case rest =>
    obtain ⟨rfl,rfl⟩:=hcut
    clear q1 q2
    go_upto_region 2 with fail
    go_cut [4] (fun s4 wd=>s4 = .bool O∧wd=wc)
    case first =>
      by_cases k0:0≤h.from_
      case neg =>
        have e:Hid (O=false):=Lib.hid (by rw [hO.out];unfold Hd.offB;simp [k0])
        clear hO
        go_wp2_with fail
        go_meet
        exact ⟨by rw [e.out];try simpa using k4,rfl⟩
      by_cases k1:h.from_<24
      case neg =>
        have e:Hid (O=false):=Lib.hid (by rw [hO.out];unfold Hd.offB;simp [k0,k1])
        clear hO
        go_wp2_with fail
        go_meet
        exact ⟨by rw [e.out];try simpa using k4,rfl⟩
      by_cases k2:-1≤h.to_
      case neg =>
        have e:Hid (O=false):=Lib.hid (by rw [hO.out];unfold Hd.offB;simp [k0,k1,k2])
        clear hO
        go_wp2_with fail
        go_meet
        exact ⟨by rw [e.out];try simpa using k4,rfl⟩
      by_cases k3:h.to_<24
      case neg =>
        have e:Hid (O=false):=Lib.hid (by rw [hO.out];unfold Hd.offB;simp [k0,k1,k2,k3])
        clear hO
        go_wp2_with fail
        go_meet
        exact ⟨by rw [e.out];try simpa using k4,rfl⟩
      by_cases k4:h.from_≠h.to_
      case neg =>
        have e:Hid (O=false):=Lib.hid (by rw [hO.out];unfold Hd.offB;simp [k0,k1,k2,k3,k4])
        clear hO
        go_wp2_with fail
        go_meet
        exact ⟨by rw [e.out];try simpa using k4,rfl⟩
      have e:Hid (O=true):=Lib.hid (by rw [hO.out];unfold Hd.offB;simp [k0,k1,k2,k3,k4])
      clear hO
      go_wp2_with fail
      go_meet
      exact ⟨by rw [e.out];try simpa using k4,rfl⟩
    case rest =>
      obtain ⟨rfl,rfl⟩:=hcut
      cases R
      case false =>
        go_wp2_with fail
        go_ret
        exact ⟨ret_bool (by simp),hb⟩
      cases O
      case false =>
        go_wp2_with fail
        go_ret
        exact ⟨ret_bool (by simp),hb⟩
      clear hR hO
      by_cases k0:0≤h.leg
      case neg =>
        have e:Hid (E=false):=Lib.hid (by rw [hE.out];unfold Hd.endB;simp [k0])
        clear hE
        go_wp2_with (first | (go_at_call 84;(first | (with_reducible refine (q3.out _).mono ?_));rintro e w3 ⟨rfl,rfl⟩) | fail)
        go_ret
        exact ⟨ret_bool (by rw [e.out];try rfl),hb⟩
      by_cases k1:h.leg≤8
      case neg =>
        have e:Hid (E=false):=Lib.hid (by rw [hE.out];unfold Hd.endB;simp [k0,k1])
        clear hE
        go_wp2_with (first | (go_at_call 84;(first | (with_reducible refine (q3.out _).mono ?_));rintro e w3 ⟨rfl,rfl⟩) | fail)
        go_ret
        exact ⟨ret_bool (by rw [e.out];try rfl),hb⟩
      by_cases k2:0≤h.many
      case neg =>
        have e:Hid (E=false):=Lib.hid (by rw [hE.out];unfold Hd.endB;simp [k0,k1,k2])
        clear hE
        go_wp2_with (first | (go_at_call 84;(first | (with_reducible refine (q3.out _).mono ?_));rintro e w3 ⟨rfl,rfl⟩) | fail)
        go_ret
        exact ⟨ret_bool (by rw [e.out];try rfl),hb⟩
      by_cases k3:h.many≤64
      case neg =>
        have e:Hid (E=false):=Lib.hid (by rw [hE.out];unfold Hd.endB;simp [k0,k1,k2,k3])
        clear hE
        go_wp2_with (first | (go_at_call 84;(first | (with_reducible refine (q3.out _).mono ?_));rintro e w3 ⟨rfl,rfl⟩) | fail)
        go_ret
        exact ⟨ret_bool (by rw [e.out];try rfl),hb⟩
      cases k4:tmB h.time
      case false =>
        rw [k4] at q3
        have e:Hid (E=false):=Lib.hid (by rw [hE.out];unfold Hd.endB;simp [k0,k1,k2,k3,k4])
        clear hE
        go_wp2_with (first | (go_at_call 84;(first | (with_reducible refine (q3.out _).mono ?_));rintro e w3 ⟨rfl,rfl⟩) | fail)
        go_ret
        exact ⟨ret_bool (by rw [e.out];try rfl),hb⟩
      rw [k4] at q3
      have e:Hid (E=true):=Lib.hid (by rw [hE.out];unfold Hd.endB;simp [k0,k1,k2,k3,k4])
      clear hE
      go_wp2_with (first | (go_at_call 84;(first | (with_reducible refine (q3.out _).mono ?_));rintro e w3 ⟨rfl,rfl⟩) | fail)
      go_ret
      exact ⟨ret_bool (by rw [e.out];try rfl),hb⟩
theorem ref_letter (x:Ltr) (hx:∀ y∈x.its,y.ok) (W:World):Calls Tryz.prog 94 #[x.agg] W (fun r w'=>∃ v,r = .returned v∧Below W.heap.size W w'∧w'.ownsRow W.heap.size 5 1 v x.txt.length (byts x.txt)):=by
  have BX:=Blk.new W 70 #[.int .i64 x.a0,.int .i64 x.b0,.int .i64 x.a1,.int .i64 x.b1,.int .i64 x.a2,.int .i64 x.b2] _ rfl
  have hb:=bAl (bRefl W) (.cells #[.int .i64 x.a0,.int .i64 x.b0,.int .i64 x.a1,.int .i64 x.b1,.int .i64 x.a2,.int .i64 x.b2] 70)
  unfold Ltr.agg
  go_enter Tryz.func94,Tryz.ntmps94
  go_upto_region 1 with fail
  generalize W.alloc (.cells #[.int .i64 x.a0,.int .i64 x.b0,.int .i64 x.a1,.int .i64 x.b1,.int .i64 x.a2,.int .i64 x.b2] 70)=w1 at *
  obtain ⟨c0,c1,c2,c3,c4,c5⟩:=BX.six
  have q:=ref_ints (some ⟨w1.heap.size,0,none⟩) 6 6 [x.a0,x.b0,x.a1,x.b1,x.a2,x.b2] (w1.alloc (.cells #[.int .i64 x.a0,.int .i64 x.b0,.int .i64 x.a1,.int .i64 x.b1,.int .i64 x.a2,.int .i64 x.b2] 3)) (Rd.of_blk (Blk.new w1 3 _ _ rfl) rfl rfl) (by omega)
  go_wp2_with fail
  (with_reducible refine q.mono ?_)
  rintro e w2 ⟨A2,c2',rfl,b2,hR⟩
  have hb2:=bCall (bAl hb (.cells #[.int .i64 x.a0,.int .i64 x.b0,.int .i64 x.a1,.int .i64 x.b1,.int .i64 x.a2,.int .i64 x.b2] 3)) b2
  have q2:=ref_encodeO A2 6 c2' x.its w2 hR hx (by omega)
  unfold listV at q2 ⊢
  clear q
  have ht:Hid (x.txt=encN x.its):=Lib.hid rfl
  go_wp2_with fail
  (with_reducible refine q2.mono ?_)
  rintro e w3 ⟨v3,rfl,b3,hS⟩
  have hb3:=bCall hb2 b3
  clear q2
  go_wp2_with fail
  go_ret
  exact ⟨_,rfl,hb3,by rw [ht.out];exact own_base hS hb2.size⟩
end Go.Proofs.YtgkpomdegomgiaaGreatDoor
