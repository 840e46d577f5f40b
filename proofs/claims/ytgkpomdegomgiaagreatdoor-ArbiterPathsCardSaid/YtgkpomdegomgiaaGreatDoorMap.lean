/- elgamal: Read. -/
import Derived.Test.YtgkpomdegomgiaaGreatDoorMao
import Derived.Test.YtgkpomdegomgiaaGreatDoorMaj
import Derived.Deep.RegionHeld3
set_option maxRecDepth 1000000
set_option maxHeartbeats 16000000
namespace Go.Proofs.YtgkpomdegomgiaaGreatDoor
open Go.RowKit
attribute [local go_sem] Oper.semAt_some
structure Wd where
  x:Int
  y:Int
  z:Int
def Wd.cells (w:Wd):Array Value:=#[.int .i64 w.x,.int .i64 w.y,.int .i64 w.z]
def Wd.agg (w:Wd):Value := .agg #[.int .i64 w.x,.int .i64 w.y,.int .i64 w.z]
def readU (x:Ltr) (w:Wd) (k:Fin 3):Wd:=match k with
  | 0=>{ w with x:=numV x.b0 }
  | 1=>{ w with y:=numV x.b1 }
  | 2=>{ w with z:=numV x.b2 }
def readV (x:Ltr):Wd:=if x.good=true then ⟨numV x.b0,numV x.b1,numV x.b2⟩ else ⟨0,0,0⟩
end Go.Proofs.YtgkpomdegomgiaaGreatDoor
namespace Go.Proofs.YtgkpomdegomgiaaGreatDoor
open Go.RowKit
structure CK (w:World) (k a d p:Nat) (key x y E S:Int):Prop where
  hk:Blk w k 3 #[.int .i64 key]
  ha:Blk w a 3 #[.int .i64 x]
  hd:Blk w d 3 #[.int .i64 y]
  hp:Blk w p 137 #[.int .i64 E,.int .i64 S]
theorem CK.below {w w':World} {k a d p:Nat} {key x y E S:Int} (h:CK w k a d p key x y E S) (b:Below w.heap.size w w'):CK w' k a d p key x y E S :=
  ⟨h.hk.below b h.hk.lt,h.ha.below b h.ha.lt,h.hd.below b h.hd.lt,h.hp.below b h.hp.lt⟩
def CK.cells (w:World) (k a d p:Nat) (key x y E S:Int):Prop :=
  w.cell? ⟨k,0,none⟩=some (.int .i64 key)∧w.cell? ⟨a,0,none⟩=some (.int .i64 x)∧w.cell? ⟨d,0,none⟩=some (.int .i64 y)∧w.cell? ⟨p,0,none⟩=some (.int .i64 E)∧w.cell? ⟨p,1,none⟩=some (.int .i64 S)
theorem CK.out {w:World} {k a d p:Nat} {key x y E S:Int} (h:CK w k a d p key x y E S):w.cell? ⟨k,0,none⟩=some (.int .i64 key)∧w.cell? ⟨a,0,none⟩=some (.int .i64 x)∧w.cell? ⟨d,0,none⟩=some (.int .i64 y)∧w.cell? ⟨p,0,none⟩=some (.int .i64 E)∧w.cell? ⟨p,1,none⟩=some (.int .i64 S) :=
  ⟨h.hk.cell 0,h.ha.cell 0,h.hd.cell 0,h.hp.cell 0,h.hp.cell 1⟩
theorem check1 (W:World) (k a d p:Nat) (key x y E S:Int) (C:CK W k a d p key x y E S) :
    Calls Tryz.prog 114 #[.pointer (some ⟨k,0,none⟩),.pointer (some ⟨a,0,none⟩),.pointer (some ⟨d,0,none⟩)] W (Same (.bool (validB key&&validB x&&validB y)) W):=by
  obtain ⟨c1,c2,c3,c4,c5⟩:=C.out
  have q1:=group_valid key W
  have q2:=group_valid x W
  have q3:=group_valid y W
  cases h1:validB key
  · rw [h1] at q1
    clear q2 q3
    go_enter Tryz.func114,Tryz.ntmps114
    go_wp2_with fail
    with_reducible refine q1.mono ?_
    rintro e w1 ⟨rfl,rfl⟩
    go_wp2_with fail
    go_ret
    exact ⟨rfl,rfl⟩
  · cases h2:validB x
    · rw [h1] at q1
      rw [h2] at q2
      clear q3
      go_enter Tryz.func114,Tryz.ntmps114
      go_wp2_with fail
      with_reducible refine q1.mono ?_
      rintro e w1 ⟨rfl,rfl⟩
      go_wp2_with fail
      with_reducible refine q2.mono ?_
      rintro e w1 ⟨rfl,rfl⟩
      go_wp2_with fail
      go_ret
      exact ⟨rfl,rfl⟩
    · rw [h1] at q1
      rw [h2] at q2
      cases h3:validB y <;>
      · rw [h3] at q3
        go_enter Tryz.func114,Tryz.ntmps114
        go_wp2_with fail
        with_reducible refine q1.mono ?_
        rintro e w1 ⟨rfl,rfl⟩
        go_wp2_with fail
        with_reducible refine q2.mono ?_
        rintro e w1 ⟨rfl,rfl⟩
        go_wp2_with fail
        with_reducible refine q3.mono ?_
        rintro e w1 ⟨rfl,rfl⟩
        go_wp2_with fail
        go_ret
        exact ⟨rfl,rfl⟩
theorem check2 (W:World) (k a d p:Nat) (key x y E S:Int) (C:CK W k a d p key x y E S) :
    Calls Tryz.prog 115 #[.pointer (some ⟨p,0,none⟩)] W (Same (.bool (ordB E&&ordB S)) W):=by
  obtain ⟨c1,c2,c3,c4,c5⟩:=C.out
  have q1:=equal_inOrder E W
  have q2:=equal_inOrder S W
  cases h1:ordB E
  · rw [h1] at q1
    clear q2
    go_enter Tryz.func115,Tryz.ntmps115
    go_wp2_with fail
    with_reducible refine q1.mono ?_
    rintro e w1 ⟨rfl,rfl⟩
    go_wp2_with fail
    go_ret
    exact ⟨rfl,rfl⟩
  · rw [h1] at q1
    cases h2:ordB S <;>
    · rw [h2] at q2
      go_enter Tryz.func115,Tryz.ntmps115
      go_wp2_with fail
      with_reducible refine q1.mono ?_
      rintro e w1 ⟨rfl,rfl⟩
      go_wp2_with fail
      with_reducible refine q2.mono ?_
      rintro e w1 ⟨rfl,rfl⟩
      go_wp2_with fail
      go_ret
      exact ⟨rfl,rfl⟩
abbrev rV (key E S:Int):Int:=mulL [powV 4 S,powV key (-E)]
abbrev sV (x y E S:Int):Int:=mulL [powV x S,powV y (-E)]
theorem check3 (W:World) (k a d p:Nat) (key x y E S:Int) (C:CK W k a d p key x y E S) (hE:0≤E∧E<1073741789) (hS:0≤S∧S<1073741789) (i1:inI key) (i2:inI x) (i3:inI y) (hG:ShaG W) :
    Calls Tryz.prog 117 #[.pointer (some ⟨p,0,none⟩),.pointer (some ⟨k,0,none⟩),.pointer (some ⟨a,0,none⟩),.pointer (some ⟨d,0,none⟩)] W (Ret (.bool (decide (E=(chalV key x y (rV key E S) (sV x y E S):Nat)))) W):=by
  obtain ⟨c1,c2,c3,c4,c5⟩:=C.out
  obtain ⟨hE1,hE2⟩:=hE
  obtain ⟨hS1,hS2⟩:=hS
  go_enter Tryz.func117,Tryz.ntmps117
  go_wp2_with fail
  have hneg:Hid (IntKind.i64.wrap (-E) = -E):=by show _=_;rw [IntKind.wrap_i64];omega
  go_region_held3 (fun w'=>w'.cell? ⟨k,0,none⟩=some (.int .i64 key)∧w'.cell? ⟨a,0,none⟩=some (.int .i64 x)∧w'.cell? ⟨d,0,none⟩=some (.int .i64 y)∧w'.cell? ⟨p,0,none⟩=some (.int .i64 E)∧w'.cell? ⟨p,1,none⟩=some (.int .i64 S))
    (first | exact (C.below (by repeat (first | exact B4 | exact B3 | exact B2 | exact B1 | exact bRefl _ | refine bAl ?_ _ | refine bDr ?_))).out)
    (first
    | (go_simp;go_at_call 73;(with_reducible refine (equal_mul2 (powV x S) (powV y (-E)) _).mono ?_);rintro e w' ⟨rfl,rfl⟩)
    | (go_simp;go_at_call 73;(with_reducible refine (equal_mul2 (powV 4 S) (powV key (-E)) _).mono ?_);rintro e w' ⟨rfl,rfl⟩)
    | (go_simp;go_at_call 74;(try rw [hneg.out]);(with_reducible refine (equal_pow y (-E) _).mono ?_);rintro e w4 ⟨rfl,b4⟩;have B4:Below W.heap.size W w4:=bCall (by repeat (first | exact B3 | refine bAl ?_ _ | refine bDr ?_)) b4)
    | (go_simp;go_at_call 74;(with_reducible refine (equal_pow x S _).mono ?_);rintro e w3 ⟨rfl,b3⟩;have B3:Below W.heap.size W w3:=bCall (by repeat (first | exact B2 | refine bAl ?_ _ | refine bDr ?_)) b3)
    | (go_simp;go_at_call 74;(try rw [hneg.out]);(with_reducible refine (equal_pow key (-E) _).mono ?_);rintro e w2 ⟨rfl,b2⟩;have B2:Below W.heap.size W w2:=bCall (by repeat (first | exact B1 | refine bAl ?_ _ | refine bDr ?_)) b2)
    | (go_simp;go_at_call 74;(with_reducible refine (equal_pow 4 S _).mono ?_);rintro e w1 ⟨rfl,b1⟩;have B1:Below W.heap.size W w1:=bCall (by repeat (first | exact bRefl _ | refine bAl ?_ _ | refine bDr ?_)) b1))
  have hr:=mulL_in [powV 4 S,powV key (-E)]
  have hs:=mulL_in [powV x S,powV y (-E)]
  have C4:=C.below (w':=w4.alloc (.cells #[.int .i64 (powV x S),.int .i64 (powV y (-E))] 3)) (bAl B4 _)
  have hb4:=bAl B4 (.cells #[.int .i64 (powV x S),.int .i64 (powV y (-E))] 3)
  generalize w4.alloc (.cells #[.int .i64 (powV x S),.int .i64 (powV y (-E))] 3)=w5 at *
  obtain ⟨c1,c2,c3,c4,c5⟩:=C4.out
  go_wp2_with fail
  go_region_held3 (fun w'=>w'.cell? ⟨k,0,none⟩=some (.int .i64 key)∧w'.cell? ⟨a,0,none⟩=some (.int .i64 x)∧w'.cell? ⟨d,0,none⟩=some (.int .i64 y)∧w'.cell? ⟨p,0,none⟩=some (.int .i64 E)∧w'.cell? ⟨p,1,none⟩=some (.int .i64 S))
    (first | exact (C4.below (by repeat (first | exact B6 | exact bRefl _ | refine bAl ?_ _ | refine bDr ?_))).out)
    (first
    | (go_simp;go_at_call 118;(with_reducible refine (challenge_any key x y (rV key E S) (sV x y E S) _ i1 i2 i3 hr hs (hG.below (by repeat (first | exact hb4 | refine bAl ?_ _ | refine bDr ?_)))).mono ?_);rintro e w6 ⟨rfl,b6⟩;have B6:Below w5.heap.size w5 w6:=bCall (by repeat (first | exact bRefl _ | refine bAl ?_ _ | refine bDr ?_)) b6))
  go_wp2_with fail
  go_ret
  exact ⟨rfl,bCall hb4 B6⟩
end Go.Proofs.YtgkpomdegomgiaaGreatDoor
