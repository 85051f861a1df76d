/- The contracts of Check of gauge, and of its reference. -/
import Derived.Test.YtkneghkbgingdaaGreatDoorRows
import Derived.Test.YtkneghkbgingdaaGreatDoorP02
import Derived.Test.YtkneghkbgingdaaGreatDoorP45
import Derived.Deep.QuietTactic
import Derived.BigQuiet
import Derived.Deep.RegionHeld3
namespace Go.Proofs.YtkneghkbgingdaaGreatDoor
set_option maxRecDepth 100000
open Go.RowKit
end Go.Proofs.YtkneghkbgingdaaGreatDoor
/- The Check of patterns. -/
namespace Go.Proofs.YtkneghkbgingdaaGreatDoor
set_option maxRecDepth 100000
set_option maxRecDepth 100000
open Go.RowKit Go.ChangeShapes Go.WideShapes Go.Joins
section
variable {nm:List UInt8} {g1 g2 g3 g4:Int} {As Ac:Option Addr} {ns cs nc cc:Nat}
end
end Go.Proofs.YtkneghkbgingdaaGreatDoor
/- Whether patterns are great. -/
namespace Go.Proofs.YtkneghkbgingdaaGreatDoor
set_option maxRecDepth 100000
set_option maxRecDepth 100000
open Go.RowKit Go.ChangeShapes Go.WideShapes Go.Joins
def BoxC (w:World) (b:Nat) (s:Int) (A:Option Addr) (n c:Nat):Prop:=w.heap[b]?=some (.cells #[.int .i64 s,.slice A n c] 24 (0,0))
theorem BoxC.ext {w w':World} {b:Nat} {s:Int} {A:Option Addr} {n c:Nat} (h:BoxC w b s A n c) (hb:Ext w w'):BoxC w' b s A n c:=by
 unfold BoxC at h ⊢
 rw [hb.block _ (Array.getElem?_eq_some_iff.1 h).1]
 exact h
theorem BoxC.facts {w:World} {b:Nat} {s:Int} {A:Option Addr} {n c:Nat} (h:BoxC w b s A n c):w.cell? ⟨b,0,none⟩=some (.int .i64 s)∧w.cell? ⟨b,1,none⟩=some (.slice A n c)∧b<w.heap.size :=
 ⟨(cell_of_row w _ 0 _ _ (0,0) h).trans rfl,(cell_of_row w _ 1 _ _ (0,0) h).trans rfl,(Array.getElem?_eq_some_iff.1 h).1⟩
theorem BoxC.start (w:World) (s:Int) (A:Option Addr) (n c:Nat):BoxC (w.alloc (.cells #[.int .i64 s,.slice A n c] 24)) w.heap.size s A n c:=heap_alloc_new w _
def AnyB (e:Ending):Prop:=∃b,e = .returned (.bool b)
theorem AnyB.mk_ (b:Bool):AnyB (.returned (.bool b)):=⟨b,rfl⟩
set_option maxHeartbeats 8000000 in
theorem zhD (s:Int) (A:Option Addr) (m c:Nat) (l:List Ro) (w:World) (hr:Rws w (fun _=>True) A m l) :
  Calls Tryz.prog 9 #[.agg #[.int .i64 s,.slice A m c]] w fun e w'=>AnyB e∧Ext w w':=by
 have HRV:=Lib.hid hr
 have hm:=hr.1
 unfold maxLen at hm
 have HBX:=Lib.hid (BoxC.start w s A m c)
 have HW0:=Lib.hid (show Ext w (w.alloc (.cells #[.int .i64 s,.slice A m c] 24)) from (Ext.refl w).alloc _)
 clear hr
 go_enter Tryz.func9,Tryz.ntmps9
 go_wp2_with fail
 go_loopw [3] (fun i wr=>∃k:Nat,i = .int .i64 (k:Int)∧k≤m∧Hid (Ext (w.alloc (.cells #[.int .i64 s,.slice A m c] 24)) wr)) (fun i _=>m-(intOf i).toNat)
 case atStart=>exact ⟨0,rfl,Nat.zero_le _,Lib.hid (Ext.refl _)⟩
 case round =>
  obtain ⟨k,rfl,hk,HE⟩:=hrel
  obtain ⟨wa,rfl⟩:∃wa:World,wa=wr:=⟨_,rfl⟩
  obtain ⟨x0,x1,xz⟩:=(HBX.out.ext HE.out).facts
  have q0:(0:Int)≤(k:Int):=by omega
  by_cases hlt:k<m
  ·have q1:(k:Int)<(m:Int):=by omega
   obtain ⟨b,off,A',n',c',rfl,hb, -,c0,c1, -, -, -, -⟩:=(HRV.out.ext (HW0.out.trans HE.out)).at_ hlt
   clear c0
   by_cases h24:24<n'
   ·have p1:(24:Int)<(n':Int):=by omega
    clear h24
    go_wp2_with fail
    go_ret
    exact ⟨AnyB.mk_ _,HW0.out.trans HE.out⟩
   ·have p1:¬((24:Int)<(n':Int)):=by omega
    clear h24
    go_wp2_with fail
    go_roundw
    case rel=>exact ⟨k+1,by go_num,by omega,HE⟩
    case measure=>simp [intOf] <;> omega
  ·obtain rfl:m=k:=by omega
   by_cases h16:16<m
   ·have p1:(16:Int)<(m:Int):=by omega
    by_cases h100:m≤100
    ·have p2:(m:Int)≤100:=by omega
     clear h16 h100
     go_wp2_with fail
     go_ret
     exact ⟨AnyB.mk_ _,HW0.out.trans HE.out⟩
    ·have p2:¬((m:Int)≤100):=by omega
     by_cases h110:110<m
     ·have p3:(110:Int)<(m:Int):=by omega
      clear h16 h100 h110
      go_wp2_with fail
      go_ret
      exact ⟨AnyB.mk_ _,HW0.out.trans HE.out⟩
     ·have p3:¬((110:Int)<(m:Int)):=by omega
      clear h16 h100 h110
      go_wp2_with fail
      go_ret
      exact ⟨AnyB.mk_ _,HW0.out.trans HE.out⟩
   ·have p1:¬((16:Int)<(m:Int)):=by omega
    have p3:¬((110:Int)<(m:Int)):=by omega
    clear h16
    go_wp2_with fail
    go_ret
    exact ⟨AnyB.mk_ _,HW0.out.trans HE.out⟩
end Go.Proofs.YtkneghkbgingdaaGreatDoor
