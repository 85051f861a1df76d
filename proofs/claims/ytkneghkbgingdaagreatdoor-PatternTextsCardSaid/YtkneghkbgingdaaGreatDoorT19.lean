/- Whether patterns are great. -/
import Derived.Test.YtkneghkbgingdaaGreatDoorT18
set_option maxHeartbeats 16000000
namespace Go.Proofs.YtkneghkbgingdaaGreatDoor
set_option maxRecDepth 100000
open Go.RowKit Go.ChangeShapes Go.WideShapes Go.Joins
def BoxC (w:World) (b:Nat) (s:Int) (A:Option Addr) (n c:Nat):Prop:=w.heap[b]?=some (.cells #[.int .i64 s,.slice A n c] 24 (0,0))
theorem BoxC.ext {w w':World} {b:Nat} {s:Int} {A:Option Addr} {n c:Nat} (h:BoxC w b s A n c) (hb:Ext w w'):BoxC w' b s A n c:=by
 unfold BoxC at h ⊢
 rw [hb.block _ (Zm.1 h).1]
 exact h
theorem BoxC.facts {w:World} {b:Nat} {s:Int} {A:Option Addr} {n c:Nat} (h:BoxC w b s A n c):w.cell? ⟨b,0,none⟩=some (.int .i64 s)/\w.cell? ⟨b,1,none⟩=some (.slice A n c)/\b<w.heap.size :=
 ⟨(cell_of_row w _ 0 _ _ (0,0) h).trans rfl,(cell_of_row w _ 1 _ _ (0,0) h).trans rfl,(Zm.1 h).1⟩
theorem BoxC.start (w:World) (s:Int) (A:Option Addr) (n c:Nat):BoxC (w.alloc (.cells #[.int .i64 s,.slice A n c] 24)) w.heap.size s A n c:=heap_alloc_new w _
def AnyB (e:Ending):Prop:=∃b,e = .returned (.bool b)
theorem AnyB.mk_ (b:Bool):AnyB (.returned (.bool b)):=⟨b,rfl⟩
theorem zdY (s:Int) (A:Option Addr) (m c:Nat) (l:List Ro) (w:World) (hr:Rws w (fun _=>True) A m l) :
  Calls Tryz.prog 9 #[.agg #[.int .i64 s,.slice A m c]] w fun e w'=>AnyB e/\Ext w w':=by
 have ac:=Za hr
 have hm:=hr.1
 unfold maxLen at hm
 have ab:=Za (BoxC.start w s A m c)
 have aa:=Za (show Ext w (w.alloc (.cells #[.int .i64 s,.slice A m c] 24)) from (Zf w).alloc _)
 clear hr
 go_enter Tryz.func9,Tryz.ntmps9
 go_wp2_with fail
 go_loopw [3] (fun i wr=>∃k:Nat,i = .int .i64 (k:Int)/\k<=m/\Hid (Ext (w.alloc (.cells #[.int .i64 s,.slice A m c] 24)) wr)) (fun i _=>m-(intOf i).toNat)
 case atStart=>exact ⟨0,rfl,Zy _,Za (Zf _)⟩
 case round =>
  obtain ⟨k,rfl,hk,HE⟩:=hrel
  obtain ⟨wa,rfl⟩:∃wa:World,wa=wr:=⟨_,rfl⟩
  obtain ⟨x0,x1,xz⟩:=(ab.out.ext HE.out).facts
  have q0:(0:Int)<=(k:Int):=by omega
  by_cases hlt:k<m
  ·have q1:(k:Int)<(m:Int):=by omega
   obtain ⟨b,off,A',n',c',rfl,hb, -,c0,c1, -, -, -, -⟩:=(ac.out.ext (aa.out.trans HE.out)).at_ hlt
   clear c0
   by_cases h24:24<n'
   ·have p1:(24:Int)<(n':Int):=by omega
    clear h24
    go_wp2_with fail
    go_ret
    exact ⟨AnyB.mk_ _,aa.out.trans HE.out⟩
   ·have p1:¬((24:Int)<(n':Int)):=by omega
    clear h24
    go_wp2_with fail
    go_roundw
    case rel=>exact ⟨k+1,by go_num,by omega,HE⟩
    case measure=>simp [intOf] <;> omega
  ·obtain rfl:m=k:=by omega
   by_cases h16:16<m
   ·have p1:(16:Int)<(m:Int):=by omega
    by_cases h100:m<=100
    ·have p2:(m:Int)<=100:=by omega
     clear h16 h100
     go_wp2_with fail
     go_ret
     exact ⟨AnyB.mk_ _,aa.out.trans HE.out⟩
    ·have p2:¬((m:Int)<=100):=by omega
     by_cases h110:110<m
     ·have p3:(110:Int)<(m:Int):=by omega
      clear h16 h100 h110
      go_wp2_with fail
      go_ret
      exact ⟨AnyB.mk_ _,aa.out.trans HE.out⟩
     ·have p3:¬((110:Int)<(m:Int)):=by omega
      clear h16 h100 h110
      go_wp2_with fail
      go_ret
      exact ⟨AnyB.mk_ _,aa.out.trans HE.out⟩
   ·have p1:¬((16:Int)<(m:Int)):=by omega
    have p3:¬((110:Int)<(m:Int)):=by omega
    clear h16
    go_wp2_with fail
    go_ret
    exact ⟨AnyB.mk_ _,aa.out.trans HE.out⟩
def SmallP (nm:List UInt8) (ns nc:Nat) (st:List Stf) (se:List Sec):Prop:=ns<=30/\nc<=30/\nm.length<=100/\(∀i,i<ns->(stN st i).length<=100)/\∀i,i<nc->(seN se i).length<=100
def GrtR (nm:List UInt8) (ns nc:Nat) (st:List Stf) (se:List Sec) (w:World) (e:Ending) (w':World):Prop:=(∃b,e = .returned (.bool b)/\(b=false->SmallP nm ns nc st se))/\Ext w w'
theorem GrtR.yes {nm:List UInt8} {ns nc:Nat} {st:List Stf} {se:List Sec} {w w':World} (hb:Ext w w'):GrtR nm ns nc st se w (.returned (.bool true)) w':=⟨⟨true,rfl,fun h=>by cases h⟩,hb⟩
theorem GrtR.no {nm:List UInt8} {ns nc:Nat} {st:List Stf} {se:List Sec} {w w':World} (h:SmallP nm ns nc st se) (hb:Ext w w'):GrtR nm ns nc st se w (.returned (.bool false)) w':=⟨⟨false,rfl,fun _=>h⟩,hb⟩
theorem ziN (nm:List UInt8) (g1 g2 g3 g4:Int) (As:Option Addr) (ns cs:Nat) (st:List Stf) (Ac:Option Addr) (nc cc:Nat) (se:List Sec) (w:World) (hs:Vec shStf w As ns st) (hsm:ns<=maxLen) (hc:Secs w Ac nc se) :
  Calls Tryz.prog 15 #[.agg #[.string ⟨nm.toArray⟩,.int .i64 g1,.int .i64 g2,.int .i64 g3,.int .i64 g4,.slice As ns cs,.slice Ac nc cc]] w (GrtR nm ns nc st se w):=by
 have ak:=hc.1
 unfold maxLen at hsm ak
 have aj:=Za hs
 have ai:=Za hc
 have ad:=Za (BoxP.start w nm g1 g2 g3 g4 As ns cs Ac nc cc)
 have ab:=Za (show Ext w (w.alloc (.cells #[.string ⟨nm.toArray⟩,.int .i64 g1,.int .i64 g2,.int .i64 g3,.int .i64 g4,.slice As ns cs,.slice Ac nc cc] 42)) from (Zf w).alloc _)
 clear hs hc
 by_cases h1:30<ns
 ·have p1:(30:Int)<(ns:Int):=by omega
  clear h1
  go_enter Tryz.func15,Tryz.ntmps15
  go_wp2_with fail
  go_ret
  exact GrtR.yes zx
 have p1:¬((30:Int)<(ns:Int)):=by omega
 by_cases h2:4<nc/\nc<=20
 ·have p2:(4:Int)<(nc:Int):=by omega
  have p3:(nc:Int)<=20:=by omega
  clear h1 h2
  go_enter Tryz.func15,Tryz.ntmps15
  go_wp2_with fail
  go_ret
  exact GrtR.yes zx
 by_cases h4:4<nc
 ·have p2:(4:Int)<(nc:Int):=by omega
  have p3:¬((nc:Int)<=20):=by omega
  by_cases h3:30<nc
  ·have p4:(30:Int)<(nc:Int):=by omega
   clear h1 h2 h3 h4
   go_enter Tryz.func15,Tryz.ntmps15
   go_wp2_with fail
   go_ret
   exact GrtR.yes zx
  have p4:¬((30:Int)<(nc:Int)):=by omega
  by_cases h5:100<nm.length
  ·have p5:(100:Int)<(nm.length:Int):=by omega
   clear h1 h2 h3 h4 h5
   go_enter Tryz.func15,Tryz.ntmps15
   go_wp2_with fail
   go_ret
   exact GrtR.yes zx
  have p5:¬((100:Int)<(nm.length:Int)):=by omega
  have ac:=Za (show ns<=30/\nc<=30/\nm.length<=100 by omega)
  clear h1 h2 h3 h4 h5
  go_enter Tryz.func15,Tryz.ntmps15
  go_wp2_with fail
  go_loopw [3] (fun i wr=>∃k:Nat,i = .int .i64 (k:Int)/\k<=ns/\Hid (∀j,j<k->(stN st j).length<=100)/\Hid (Ext (w.alloc (.cells #[.string ⟨nm.toArray⟩,.int .i64 g1,.int .i64 g2,.int .i64 g3,.int .i64 g4,.slice As ns cs,.slice Ac nc cc] 42)) wr)) (fun i _=>ns-(intOf i).toNat)
  case atStart=>exact ⟨0,rfl,Zy _,Za (fun j hj=>absurd hj (by omega)),Za (Zf _)⟩
  case round =>
   obtain ⟨k,rfl,hk,HS,HE⟩:=hrel
   obtain ⟨wa,rfl⟩:∃wa:World,wa=wr:=⟨_,rfl⟩
   obtain ⟨x0,x1,x2,x3,x4,x5,x6,xz⟩:=(ad.out.ext HE.out).facts
   have q0:(0:Int)<=(k:Int):=by omega
   by_cases hlt:k<ns
   ·have q1:(k:Int)<(ns:Int):=by omega
    obtain ⟨b',off,rfl,ag,c0,c1⟩:=Stf.at_ (aj.out.ext (ab.out.trans HE.out)) hlt
    obtain ⟨Y,hY⟩:∃Y,stN st k=Y:=⟨_,rfl⟩
    rw [hY] at c0
    have HY:=Za hY
    clear hY c1
    by_cases hl:100<Y.length
    ·have p6:(100:Int)<(Y.length:Int):=by omega
     clear hl
     go_wp2_with fail
     go_ret
     exact GrtR.yes (ab.out.trans HE.out)
    ·have p6:¬((100:Int)<(Y.length:Int)):=by omega
     have HN:=Za (show ∀j,j<k+1->(stN st j).length<=100 from fun j hj=>by
      by_cases e:j=k
      ·subst e;rw [HY.out];omega
      ·exact HS.out j (by omega))
     clear hl
     go_wp2_with fail
     go_roundw
     case rel=>exact ⟨k+1,by go_num,by omega,HN,HE⟩
     case measure=>simp [intOf] <;> omega
   ·obtain rfl:ns=k:=by omega
    go_wp2_with fail
    go_loopw [4] (fun i wr=>∃j:Nat,i = .int .i64 (j:Int)/\j<=nc/\Hid (∀i,i<j->(seN se i).length<=100)/\Hid (Ext (w.alloc (.cells #[.string ⟨nm.toArray⟩,.int .i64 g1,.int .i64 g2,.int .i64 g3,.int .i64 g4,.slice As ns cs,.slice Ac nc cc] 42)) wr)) (fun i _=>nc-(intOf i).toNat)
    case atStart=>exact ⟨0,rfl,Zy _,Za (fun j hj=>absurd hj (by omega)),HE⟩
    case round =>
     clear x0 x1 x2 x3 x4 x5 x6 xz
     obtain ⟨j,rfl,hj,HC,aa⟩:=hrel
     obtain ⟨wb,rfl⟩:∃wb:World,wb=wr:=⟨_,rfl⟩
     obtain ⟨x0,x1,x2,x3,x4,x5,x6,xz⟩:=(ad.out.ext aa.out).facts
     have r0:(0:Int)<=(j:Int):=by omega
     by_cases hjl:j<nc
     ·have r1:(j:Int)<(nc:Int):=by omega
      obtain ⟨b',off,A',n',c',rfl,ag,c0,c1,c2,hr,ah⟩:=(ai.out.ext (ab.out.trans aa.out)).at_ hjl
      have af:=Za hr
      obtain ⟨Y,hY⟩:∃Y,seN se j=Y:=⟨_,rfl⟩
      rw [hY] at c0
      generalize (se.getD j sec0).s=S at c1
      have ae:=Za (fun (w':World) (h:Ext wb w')=>zdY S A' n' c' _ w' (af.out.ext h))
      have HY:=Za hY
      clear hY hr
      by_cases hl:100<Y.length
      ·have p6:(100:Int)<(Y.length:Int):=by omega
       clear hl
       go_wp2_with fail
       go_ret
       exact GrtR.yes (ab.out.trans aa.out)
      ·have p6:¬((100:Int)<(Y.length:Int)):=by omega
       have HN:=Za (show ∀i,i<j+1->(seN se i).length<=100 from fun i hi=>by
        by_cases e:i=j
        ·subst e;rw [HY.out];omega
        ·exact HC.out i (by omega))
       clear hl
       go_wp2_with (first
        | (go_at_call 9;((with_reducible refine (ae.out _ zx).mono ?_);rintro e w5 ⟨⟨bb,rfl⟩,al⟩;cases bb)))
       ·go_roundw
        case rel=>exact ⟨j+1,by go_num,by omega,HN,Za (aa.out.trans zx)⟩
        case measure=>simp [intOf] <;> omega
       ·go_ret
        exact GrtR.yes (ab.out.trans (aa.out.trans zx))
     ·obtain rfl:nc=j:=by omega
      go_wp2_with fail
      go_ret
      exact GrtR.no ⟨ac.out.1,ac.out.2.1,ac.out.2.2,HS.out,HC.out⟩ (ab.out.trans aa.out)
 ·have p2:¬((4:Int)<(nc:Int)):=by omega
  have p4:¬((30:Int)<(nc:Int)):=by omega
  by_cases h5:100<nm.length
  ·have p5:(100:Int)<(nm.length:Int):=by omega
   clear h1 h2 h4 h5
   go_enter Tryz.func15,Tryz.ntmps15
   go_wp2_with fail
   go_ret
   exact GrtR.yes zx
  have p5:¬((100:Int)<(nm.length:Int)):=by omega
  have ac:=Za (show ns<=30/\nc<=30/\nm.length<=100 by omega)
  clear h1 h2 h4 h5
  go_enter Tryz.func15,Tryz.ntmps15
  go_wp2_with fail
  go_loopw [3] (fun i wr=>∃k:Nat,i = .int .i64 (k:Int)/\k<=ns/\Hid (∀j,j<k->(stN st j).length<=100)/\Hid (Ext (w.alloc (.cells #[.string ⟨nm.toArray⟩,.int .i64 g1,.int .i64 g2,.int .i64 g3,.int .i64 g4,.slice As ns cs,.slice Ac nc cc] 42)) wr)) (fun i _=>ns-(intOf i).toNat)
  case atStart=>exact ⟨0,rfl,Zy _,Za (fun j hj=>absurd hj (by omega)),Za (Zf _)⟩
  case round =>
   obtain ⟨k,rfl,hk,HS,HE⟩:=hrel
   obtain ⟨wa,rfl⟩:∃wa:World,wa=wr:=⟨_,rfl⟩
   obtain ⟨x0,x1,x2,x3,x4,x5,x6,xz⟩:=(ad.out.ext HE.out).facts
   have q0:(0:Int)<=(k:Int):=by omega
   by_cases hlt:k<ns
   ·have q1:(k:Int)<(ns:Int):=by omega
    obtain ⟨b',off,rfl,ag,c0,c1⟩:=Stf.at_ (aj.out.ext (ab.out.trans HE.out)) hlt
    obtain ⟨Y,hY⟩:∃Y,stN st k=Y:=⟨_,rfl⟩
    rw [hY] at c0
    have HY:=Za hY
    clear hY c1
    by_cases hl:100<Y.length
    ·have p6:(100:Int)<(Y.length:Int):=by omega
     clear hl
     go_wp2_with fail
     go_ret
     exact GrtR.yes (ab.out.trans HE.out)
    ·have p6:¬((100:Int)<(Y.length:Int)):=by omega
     have HN:=Za (show ∀j,j<k+1->(stN st j).length<=100 from fun j hj=>by
      by_cases e:j=k
      ·subst e;rw [HY.out];omega
      ·exact HS.out j (by omega))
     clear hl
     go_wp2_with fail
     go_roundw
     case rel=>exact ⟨k+1,by go_num,by omega,HN,HE⟩
     case measure=>simp [intOf] <;> omega
   ·obtain rfl:ns=k:=by omega
    go_wp2_with fail
    go_loopw [4] (fun i wr=>∃j:Nat,i = .int .i64 (j:Int)/\j<=nc/\Hid (∀i,i<j->(seN se i).length<=100)/\Hid (Ext (w.alloc (.cells #[.string ⟨nm.toArray⟩,.int .i64 g1,.int .i64 g2,.int .i64 g3,.int .i64 g4,.slice As ns cs,.slice Ac nc cc] 42)) wr)) (fun i _=>nc-(intOf i).toNat)
    case atStart=>exact ⟨0,rfl,Zy _,Za (fun j hj=>absurd hj (by omega)),HE⟩
    case round =>
     clear x0 x1 x2 x3 x4 x5 x6 xz
     obtain ⟨j,rfl,hj,HC,aa⟩:=hrel
     obtain ⟨wb,rfl⟩:∃wb:World,wb=wr:=⟨_,rfl⟩
     obtain ⟨x0,x1,x2,x3,x4,x5,x6,xz⟩:=(ad.out.ext aa.out).facts
     have r0:(0:Int)<=(j:Int):=by omega
     by_cases hjl:j<nc
     ·have r1:(j:Int)<(nc:Int):=by omega
      obtain ⟨b',off,A',n',c',rfl,ag,c0,c1,c2,hr,ah⟩:=(ai.out.ext (ab.out.trans aa.out)).at_ hjl
      have af:=Za hr
      obtain ⟨Y,hY⟩:∃Y,seN se j=Y:=⟨_,rfl⟩
      rw [hY] at c0
      generalize (se.getD j sec0).s=S at c1
      have ae:=Za (fun (w':World) (h:Ext wb w')=>zdY S A' n' c' _ w' (af.out.ext h))
      have HY:=Za hY
      clear hY hr
      by_cases hl:100<Y.length
      ·have p6:(100:Int)<(Y.length:Int):=by omega
       clear hl
       go_wp2_with fail
       go_ret
       exact GrtR.yes (ab.out.trans aa.out)
      ·have p6:¬((100:Int)<(Y.length:Int)):=by omega
       have HN:=Za (show ∀i,i<j+1->(seN se i).length<=100 from fun i hi=>by
        by_cases e:i=j
        ·subst e;rw [HY.out];omega
        ·exact HC.out i (by omega))
       clear hl
       go_wp2_with (first
        | (go_at_call 9;((with_reducible refine (ae.out _ zx).mono ?_);rintro e w5 ⟨⟨bb,rfl⟩,al⟩;cases bb)))
       ·go_roundw
        case rel=>exact ⟨j+1,by go_num,by omega,HN,Za (aa.out.trans zx)⟩
        case measure=>simp [intOf] <;> omega
       ·go_ret
        exact GrtR.yes (ab.out.trans (aa.out.trans zx))
     ·obtain rfl:nc=j:=by omega
      go_wp2_with fail
      go_ret
      exact GrtR.no ⟨ac.out.1,ac.out.2.1,ac.out.2.2,HS.out,HC.out⟩ (ab.out.trans aa.out)
end Go.Proofs.YtkneghkbgingdaaGreatDoor
/- Rows. -/
namespace Go.Proofs.YtkneghkbgingdaaGreatDoor
set_option maxRecDepth 100000
open Go.RowKit Go.ChangeShapes Go.WideShapes Go.Joins
def PRowsR (s:Int) (l:List Ro) (w:World) (e:Ending) (w':World):Prop:=e = .returned (.tuple #[.string ⟨(rowsV s l).toArray⟩,.int .i64 (rowsE s l)])/\Ext w w'
theorem PRowsR.mk_ {s:Int} {l:List Ro} {V:List UInt8} {E:Int} {w w':World} (h:rowsE s l=E/\rowsV s l=V) (hb:Ext w w'):PRowsR s l w (.returned (.tuple #[.string ⟨V.toArray⟩,.int .i64 E])) w':=by
 obtain ⟨h1,h2⟩:=h
 subst h1
 subst h2
 exact ⟨rfl,hb⟩
theorem zh6 (l:List Ro) (i k:Nat):repT l i k<=l.length:=by
 unfold repT
 split
 ·omega
 ·exact ZD (Nat.div_le_self _ _) (ZD (zhx _ _ _ _) (by omega))
theorem zmx (s x:Int) (A:Option Addr) (m c:Nat) (rows:List Ro) (w:World) (hr:Rws w (fun _=>True) A m rows) (hx:chkC s rows=x) (h0:x≠0) :
  Calls Tryz.prog 10 #[.agg #[.int .i64 s,.slice A m c]] w (PRowsR s rows w):=by
 have HR:=Za hr
 have HX:=Za hx
 have HV:=Za (zh7 hx h0)
 have aa:Ext w (w.alloc (.cells #[.int .i64 s,.slice A m c] 24)):=(Zf _).alloc _
 have hne:(x != 0)=true:=by simpa using h0
 clear hr hx h0
 go_enter Tryz.func10,Tryz.ntmps10
 go_wp2_with (go_at_call 34;((with_reducible refine (zcz s A m c rows _ (HR.out.ext (aa.trans zx))).mono ?_);rintro e w1 ⟨rfl,hq1⟩;rw [HX.out]))
 go_ret2
 exact PRowsR.mk_ HV.out (aa.trans zx)
theorem ziP (s:Int) (A:Option Addr) (m c:Nat) (rows:List Ro) (w:World) (hr:Rws w (fun _=>True) A m rows) (hg:Glob w) (h0:chkC s rows=0) :
  Calls Tryz.prog 10 #[.agg #[.int .i64 s,.slice A m c]] w (PRowsR s rows w):=by
 have HR:=Za hr
 have HG:=Za hg
 have HC:=Za h0
 obtain ⟨ax,av⟩:=zc3 h0
 have aZ:=Za av
 have aq:rows.length=m:=hr.len
 have aY:=Za aq
 have hm100:m<=100:=by omega
 have ac:=Za (BoxC.start w s A m c)
 have aG:=Za (show Ext w (w.alloc (.cells #[.int .i64 s,.slice A m c] 24)) from (Zf w).alloc _)
 clear hr hg h0 av ax aq
 go_enter Tryz.func10,Tryz.ntmps10
 go_wp2_with (first
  | (go_at_call 34;((with_reducible refine (zcz s A m c rows _ (HR.out.ext (aG.out.trans zx))).mono ?_);rintro e w1 ⟨rfl,hq1⟩;rw [HC.out];obtain ⟨x0,x1,xz⟩:=(ac.out.ext (zx:Ext _ w1)).facts)))
 have aX:=Za (show Ext (w.alloc (.cells #[.int .i64 s,.slice A m c] 24)) w1 from hq1)
 clear hq1 x0 x1 xz
 go_loopw [6] (fun u wr=>∃(i:Nat) (T:List UInt8),u = .int .i64 (i:Int)/\i<=m/\T.length<=3100*i/\Hid (RowSt rows i T)/\Hid (WSt w1 (w1.alloc (.cells #[.pointer none,.slice none 0 0] 80)) w1.heap.size T wr)) (fun u _=>m-(intOf u).toNat)
 case atStart=>exact ⟨0,[],rfl,Zy _,Zy _,Za (RowSt.start rows),Za (zfe w1)⟩
 case round =>
  obtain ⟨i,T,rfl,hi,hTl,ao,ai⟩:=hrel
  obtain ⟨wa,rfl⟩:∃wa:World,wa=wr:=⟨_,rfl⟩
  have af:=Za (aX.out.trans ai.out.ex)
  have aj:=Za (aG.out.trans af.out)
  have HBX2:=ac
  obtain ⟨x0,x1,xz⟩:=(ac.out.ext af.out).facts
  have q0:(0:Int)<=(i:Int):=by omega
  by_cases hlt:i<m
  ·have q1:(i:Int)<(m:Int):=by omega
   have aq:=aY.out
   obtain ⟨b9,off9,A9,n9,c9,rfl,hlt9, -,d0,d1,ar,aO,ae, -⟩:=(HR.out.ext aj.out).at_ hlt
   have aT:=fun (k:Nat) (h1:1<=k) (h2:k<=2) (w':World) (h:Ext wa w')=>zgS (some ⟨b9,off9,none⟩) m c rows i k w' (HR.out.ext (aj.out.trans h)) hi (by omega) h1 h2
   have h1:=aT 1 (by omega) (by omega)
   have h2:=aT 2 (by omega) (by omega)
   have ho:=zh6 rows i 1
   have ht:=zh6 rows i 2
   have aA:=zjp (l:=rows) (i:=i)
   have aB:=zjq (l:=rows) (i:=i)
   generalize repT rows i 1=o at *
   generalize repT rows i 2=t at *
   have ag:=Za (show ∀(w':World),Ext wa w'->Calls Tryz.prog 35 #[.slice (some ⟨b9,off9,none⟩) m c,.int .i64 (i:Int),.int .i64 1] w' fun e w''=>e = .returned (.int .i64 (o:Int))/\Ext w' w'' from h1)
   have ah:=Za (show ∀(w':World),Ext wa w'->Calls Tryz.prog 35 #[.slice (some ⟨b9,off9,none⟩) m c,.int .i64 (i:Int),.int .i64 2] w' fun e w''=>e = .returned (.int .i64 (t:Int))/\Ext w' w'' from h2)
   have i1:=Zh (2*(t:Int)) (by omega)
   clear aT h1 h2
   by_cases hot:o<2*t
   ·have aE:=Za (aB hot)
    have p1:(o:Int)<2*(t:Int):=by omega
    clear aA aB ar aO ae d0 d1 hot
    focus
     have aa:=Za (aE.out)
     have aL:=zff (by omega) aa.out.1 aa.out.2
     have am:=Za (fun (w':World) (h:Ext w w')=>zah 2 (by omega) (by omega) w' (HG.out.ext h))
     have an:=Za (fun (w':World) (h:Ext w w')=>zah (t:Int) (by omega) (by omega) w' (HG.out.ext h))
     rw [Int.toNat_natCast] at an
     have aI:=zac 2
     have aJ:=zac t
     have aw:((2:Int)).toNat=2:=rfl
     rw [aw] at am
     have ad:=Za (ao.out.agn (by omega) aa.out.1 aa.out.2 (by omega))
     obtain ⟨D1,hD1⟩:∃D1,decD 2=D1:=⟨_,rfl⟩
     obtain ⟨D2,hD2⟩:∃D2,decD t=D2:=⟨_,rfl⟩
     rw [hD1] at am aI
     rw [hD2] at an aJ
     obtain ⟨S1,hS1⟩:∃S1,agnB++D1=S1:=⟨_,rfl⟩
     obtain ⟨S2,hS2⟩:∃S2,S1++[32]=S2:=⟨_,rfl⟩
     obtain ⟨S3,hS3⟩:∃S3,S2++D2=S3:=⟨_,rfl⟩
     obtain ⟨S4,hS4⟩:∃S4,S3++[10]=S4:=⟨_,rfl⟩
     have cs1:(⟨#[97,103,97,105,110,32]⟩++⟨D1.toArray⟩:ByteArray)=⟨S1.toArray⟩:=by rw [<-hS1];exact zaa agnB D1
     have cs2:(⟨S1.toArray⟩++⟨#[32]⟩:ByteArray)=⟨S2.toArray⟩:=by rw [<-hS2];exact zaa S1 [32]
     have cs3:(⟨S2.toArray⟩++⟨D2.toArray⟩:ByteArray)=⟨S3.toArray⟩:=by rw [<-hS3];exact zaa S2 D2
     have cs4:(⟨S3.toArray⟩++⟨#[10]⟩:ByteArray)=⟨S4.toArray⟩:=by rw [<-hS4];exact zaa S3 [10]
     have l1:S1.length<=26:=by rw [<-hS1,Zb,show agnB.length=6 from rfl];omega
     have l2:S2.length<=27:=by rw [<-hS2,Zb,Zv];omega
     have l3:S3.length<=47:=by rw [<-hS3,Zb];omega
     have l4:S4.length<=48:=by rw [<-hS4,Zb,Zv];omega
     have ab:=Za (show RowSt rows (i+2*t) (T++S4) by
      have h9:=ad.out
      rw [hD1,hD2] at h9
      rw [<-hS4,<-hS3,<-hS2,<-hS1]
      simpa using h9)
     have j1:=Zh ((2:Int)*(t:Int)) (by omega)
     have j2:=Zh ((i:Int)+(2:Int)*(t:Int)) (by omega)
     have p2:(0:Int)<(t:Int):=by have:=aa.out.2;omega
     have aM:i+2*t<=m:=by omega
     have aN:1<=t:=aa.out.2
     clear hS1 hS2 hS3 hS4 hD1 hD2 aw aL ad aa ao
     go_wp2_with (first
      | (go_at_call 35;first
       | ((with_reducible refine (ag.out _ zx).mono ?_);rintro e w2 ⟨rfl,hq2⟩;obtain ⟨y0,y1,yz⟩:=(ac.out.ext (af.out.trans (zx:Ext wa w2))).facts)
       | (((with_reducible refine (ah.out _ zx).mono ?_);rintro e w3 ⟨rfl,aR⟩;obtain ⟨z0,z1,zz⟩:=(ac.out.ext (af.out.trans (zx:Ext wa w3))).facts;obtain ⟨aH,aK,aV⟩:=(zx:Ext wa w3).facts)))
      | (go_at_call 37;first | ((with_reducible refine (am.out _ (aj.out.trans zx)).mono ?_);rintro e w5 ⟨rfl,a1⟩) | (((with_reducible refine (an.out _ (aj.out.trans zx)).mono ?_);rintro e w6 ⟨rfl,a2⟩)))
      | (go_at_call 36;((with_reducible refine (zbK S4 (ai.out.ext zx) (by omega)).mono ?_);rintro e w7 ⟨rfl,al⟩;have au:=Za al;clear al)))
     go_roundw
     case rel=>exact ⟨i+2*t,T++S4,by go_num,by omega,by rw [Zb];omega,ab,au⟩
     case measure=>simp [intOf] <;> omega
   ·have aC:=aA hot
    have p1:¬((o:Int)<2*(t:Int)):=by omega
    by_cases aQ:0<o
    ·have aE:=Za (And.intro aC aQ)
     clear aA aB aC ar aO ae d0 d1 hot aQ
     have aa:=Za (aE.out)
     have aL:=zff (by omega) aa.out.1 aa.out.2
     have am:=Za (fun (w':World) (h:Ext w w')=>zah 1 (by omega) (by omega) w' (HG.out.ext h))
     have an:=Za (fun (w':World) (h:Ext w w')=>zah (o:Int) (by omega) (by omega) w' (HG.out.ext h))
     rw [Int.toNat_natCast] at an
     have aI:=zac 1
     have aJ:=zac o
     have aw:((1:Int)).toNat=1:=rfl
     rw [aw] at am
     have ad:=Za (ao.out.agn (by omega) aa.out.1 aa.out.2 (by omega))
     obtain ⟨D1,hD1⟩:∃D1,decD 1=D1:=⟨_,rfl⟩
     obtain ⟨D2,hD2⟩:∃D2,decD o=D2:=⟨_,rfl⟩
     rw [hD1] at am aI
     rw [hD2] at an aJ
     obtain ⟨S1,hS1⟩:∃S1,agnB++D1=S1:=⟨_,rfl⟩
     obtain ⟨S2,hS2⟩:∃S2,S1++[32]=S2:=⟨_,rfl⟩
     obtain ⟨S3,hS3⟩:∃S3,S2++D2=S3:=⟨_,rfl⟩
     obtain ⟨S4,hS4⟩:∃S4,S3++[10]=S4:=⟨_,rfl⟩
     have cs1:(⟨#[97,103,97,105,110,32]⟩++⟨D1.toArray⟩:ByteArray)=⟨S1.toArray⟩:=by rw [<-hS1];exact zaa agnB D1
     have cs2:(⟨S1.toArray⟩++⟨#[32]⟩:ByteArray)=⟨S2.toArray⟩:=by rw [<-hS2];exact zaa S1 [32]
     have cs3:(⟨S2.toArray⟩++⟨D2.toArray⟩:ByteArray)=⟨S3.toArray⟩:=by rw [<-hS3];exact zaa S2 D2
     have cs4:(⟨S3.toArray⟩++⟨#[10]⟩:ByteArray)=⟨S4.toArray⟩:=by rw [<-hS4];exact zaa S3 [10]
     have l1:S1.length<=26:=by rw [<-hS1,Zb,show agnB.length=6 from rfl];omega
     have l2:S2.length<=27:=by rw [<-hS2,Zb,Zv];omega
     have l3:S3.length<=47:=by rw [<-hS3,Zb];omega
     have l4:S4.length<=48:=by rw [<-hS4,Zb,Zv];omega
     have ab:=Za (show RowSt rows (i+1*o) (T++S4) by
      have h9:=ad.out
      rw [hD1,hD2] at h9
      rw [<-hS4,<-hS3,<-hS2,<-hS1]
      simpa using h9)
     have j1:=Zh ((1:Int)*(o:Int)) (by omega)
     have j2:=Zh ((i:Int)+(1:Int)*(o:Int)) (by omega)
     have p2:(0:Int)<(o:Int):=by have:=aa.out.2;omega
     have aM:i+1*o<=m:=by omega
     have aN:1<=o:=aa.out.2
     clear hS1 hS2 hS3 hS4 hD1 hD2 aw aL ad aa ao
     go_wp2_with (first
      | (go_at_call 35;first
       | ((with_reducible refine (ag.out _ zx).mono ?_);rintro e w2 ⟨rfl,hq2⟩;obtain ⟨y0,y1,yz⟩:=(ac.out.ext (af.out.trans (zx:Ext wa w2))).facts)
       | (((with_reducible refine (ah.out _ zx).mono ?_);rintro e w3 ⟨rfl,aR⟩;obtain ⟨z0,z1,zz⟩:=(ac.out.ext (af.out.trans (zx:Ext wa w3))).facts;obtain ⟨aH,aK,aV⟩:=(zx:Ext wa w3).facts)))
      | (go_at_call 37;first | ((with_reducible refine (am.out _ (aj.out.trans zx)).mono ?_);rintro e w5 ⟨rfl,a1⟩) | (((with_reducible refine (an.out _ (aj.out.trans zx)).mono ?_);rintro e w6 ⟨rfl,a2⟩)))
      | (go_at_call 36;((with_reducible refine (zbK S4 (ai.out.ext zx) (by omega)).mono ?_);rintro e w7 ⟨rfl,al⟩;have au:=Za al;clear al)))
     go_roundw
     case rel=>exact ⟨i+1*o,T++S4,by go_num,by omega,by rw [Zb];omega,ab,au⟩
     case measure=>simp [intOf] <;> omega
    ·have p2:¬((0:Int)<(o:Int)):=by omega
     have aW:=Za (show (agnT rows i).2=0 by rw [aC];show o=0;omega)
     obtain ⟨aD,hb2⟩:=aZ.out i (by omega)
     have i5:=Zh ((i:Int)+1) (by omega)
     have aU:=fun s (h:lineT (rows.getD i ro0)=some s)=>ao.out.line (by omega) aW.out h
     have aP:=fun (h:lineT (rows.getD i ro0)=none)=>ao.out.none (by omega) aW.out h
     have ap:=fun s (h:lineT (rows.getD i ro0)=some s)=>zmd h (zdf aD hb2).1
     generalize rows.getD i ro0=r at *
     obtain ⟨rb,cs⟩:=r
     simp only at d0 d1 ar ae aD hb2
     have ay:n9<=200:=by rw [<-ar.1];exact hb2
     have az:=Za (fun (w':World) (h:Ext wa w')=>zkA rb cs A9 n9 c9 w' (ar.ext h) ae ay aD (HG.out.ext (aj.out.trans h)))
     clear aA aB aC hot aQ ar ae aD hb2 aO
     cases hq:lineT ⟨rb,cs⟩ with
     | none =>
      have HV:=Za (zfX HC.out (aP hq))
      have aF:=Za (show ∀(w':World),Ext wa w'->Calls Tryz.prog 38 #[.agg #[.bool rb,.slice A9 n9 c9]] w' fun e w''=>e = .returned (.tuple #[.string ⟨#[]⟩,.int .i64 4])/\Ext w' w'' from fun w' h=>by
       refine (az.out w' h).mono ?_
       rintro e w9 ⟨h1,h2 | ⟨s9,h2,h3⟩⟩
       ·exact ⟨h2.2,h1⟩
       ·rw [hq] at h2;cases h2)
      clear aU aP ap hq az
      go_wp2_with (first
      | (go_at_call 35;first
       | ((with_reducible refine (ag.out _ zx).mono ?_);rintro e w2 ⟨rfl,hq2⟩;obtain ⟨y0,y1,yz⟩:=(ac.out.ext (af.out.trans (zx:Ext wa w2))).facts)
       | (((with_reducible refine (ah.out _ zx).mono ?_);rintro e w3 ⟨rfl,aR⟩;obtain ⟨z0,z1,zz⟩:=(ac.out.ext (af.out.trans (zx:Ext wa w3))).facts;obtain ⟨aH,aK,aV⟩:=(zx:Ext wa w3).facts)))
      | (go_at_call 38;((with_reducible refine (aF.out _ zx).mono ?_);rintro e w4 ⟨rfl,aS⟩)))
      go_ret2
      exact PRowsR.mk_ HV.out (aj.out.trans zx)
     | some S =>
      have ab:=Za (aU S hq)
      have hSl:=ap S hq
      have aF:=Za (show ∀(w':World),Ext wa w'->Calls Tryz.prog 38 #[.agg #[.bool rb,.slice A9 n9 c9]] w' fun e w''=>e = .returned (.tuple #[.string ⟨S.toArray⟩,.int .i64 0])/\Ext w' w'' from fun w' h=>by
       refine (az.out w' h).mono ?_
       rintro e w9 ⟨h1,h2 | ⟨s9,h2,h3⟩⟩
       ·rw [hq] at h2;cases h2.1
       ·rw [hq] at h2;cases h2;exact ⟨h3,h1⟩)
      obtain ⟨S2,hS2⟩:∃S2,S++[10]=S2:=⟨_,rfl⟩
      have cs2:(⟨S.toArray⟩++⟨#[10]⟩:ByteArray)=⟨S2.toArray⟩:=by rw [<-hS2];exact zaa S [10]
      have l2:S2.length<=3007:=by rw [<-hS2,Zb,Zv];omega
      rw [hS2] at ab
      clear aU aP ap hq az hS2
      go_wp2_with (first
      | (go_at_call 35;first
       | ((with_reducible refine (ag.out _ zx).mono ?_);rintro e w2 ⟨rfl,hq2⟩;obtain ⟨y0,y1,yz⟩:=(ac.out.ext (af.out.trans (zx:Ext wa w2))).facts)
       | (((with_reducible refine (ah.out _ zx).mono ?_);rintro e w3 ⟨rfl,aR⟩;obtain ⟨z0,z1,zz⟩:=(ac.out.ext (af.out.trans (zx:Ext wa w3))).facts;obtain ⟨aH,aK,aV⟩:=(zx:Ext wa w3).facts)))
      | (go_at_call 38;((with_reducible refine (aF.out _ zx).mono ?_);rintro e w4 ⟨rfl,aS⟩))
      | (go_at_call 36;((with_reducible refine (zbK S2 (ai.out.ext zx) (by omega)).mono ?_);rintro e w7 ⟨rfl,al⟩;have au:=Za al;clear al)))
      go_roundw
      case rel=>exact ⟨i+1,T++S2,by go_num,by omega,by rw [Zb];omega,ab,au⟩
      case measure=>simp [intOf] <;> omega
  ·obtain rfl:m=i:=by omega
   have aq:=aY.out
   have ak:=ao.out.fin (by omega)
   have q1:¬((m:Int)<(m:Int)):=by omega
   by_cases hl6:60000<T.length
   ·have HV:=Za (zfW HC.out ak hl6)
    have p3:(60000:Int)<(T.length:Int):=by omega
    clear ak aq
    go_wp2_with (first
     | (go_at_call 39;((refine (Tryz.Builder_Len_f _ _ _ _ ai.out.bl).mono ?_);rintro e w3 ⟨rfl,rfl⟩;rw [zaZ])))
    go_ret2
    exact PRowsR.mk_ HV.out (aj.out.trans zx)
   ·have HV:=Za (zfV HC.out ak hl6)
    have p3:¬((60000:Int)<(T.length:Int)):=by omega
    clear ak aq
    go_wp2_with (first
     | (go_at_call 39;((refine (Tryz.Builder_Len_f _ _ _ _ ai.out.bl).mono ?_);rintro e w3 ⟨rfl,rfl⟩;rw [zaZ]))
     | (go_at_call 40;((refine (Tryz.Builder_String_any_k w1.heap.size _ T _ ai.out.bl (Zl ai.out.ex)).mono ?_);rintro e w4 ⟨rfl, -,aS, -⟩;have a0:=Za (Below.trans ai.out.ex aS))))
    go_ret2
    exact PRowsR.mk_ HV.out (aG.out.trans (aX.out.trans a0.out))
theorem zkE (s:Int) (A:Option Addr) (m c:Nat) (rows:List Ro) (w:World) (hr:Rws w (fun _=>True) A m rows) (hg:Glob w) :
  Calls Tryz.prog 10 #[.agg #[.int .i64 s,.slice A m c]] w (PRowsR s rows w):=by
 by_cases h0:chkC s rows=0
 ·exact ziP s A m c rows w hr hg h0
 ·exact zmx s _ A m c rows w hr rfl h0
end Go.Proofs.YtkneghkbgingdaaGreatDoor
/- The contract of Counts of charts. -/
namespace Go.Proofs.YtkneghkbgingdaaGreatDoor
set_option maxRecDepth 100000
open Go.RowKit Go.ChangeShapes Go.WideShapes Go.Joins Go.Shelf
attribute [local go_sem] Oper.semAt_some
theorem zhN:(Tryz.prog.info? 3).map (fun i=>(i.zero,i.size,i.bytes))=some (some (.int .i64 0),1,8):=by kernel_rfl
theorem KpT.app {n₀:Nat} {W w1:World} {v v':Value} {B k:Nat} {T t e:TypeId} {xs:List Value} {o:Obj} (hT:T≠e) (ht:T≠t) (hv:Boxed W B t v) (hr:W.ownsRow n₀ e 1 v k xs) (hg:(W.alloc o).grownBy w1 v.ownBlock) (hb:Below n₀ W (w1.setCell ⟨B,0,none⟩ v')):KpT n₀ T W (w1.setCell ⟨B,0,none⟩ v'):=by
 refine ⟨hb,fun b hty=>?_⟩
 have hlt:=hty.lt
 have h1:b≠B:=by
  rintro rfl
  obtain ⟨cs,f,hc⟩:=hty
  have h9:=(show W.heap[_]?=_ from hv).symm.trans hc
  cases h9
  exact ht rfl
 have h2:some b≠v.ownBlock:=by
  rcases hr.2 with ⟨rfl,_⟩ | ⟨g,cap,cur,rfl,_,aa,_⟩
  ·simp [Value.ownBlock]
  ·intro e'
   obtain rfl:b=g:=by simpa [Value.ownBlock] using e'
   obtain ⟨cs,f,hc⟩:=hty
   rw [aa] at hc
   cases hc
   exact hT rfl
 rw [Below.heap_setCell w1 ⟨B,0,none⟩ v' b h1]
 exact (hg.block b (by simp;omega) h2).trans (Below.heap_alloc _ _ _ hlt)
end Go.Proofs.YtkneghkbgingdaaGreatDoor
/- The contracts of the reference's Check,Counts,Great and SameInts of charts. -/
namespace Go.Proofs.YtkneghkbgingdaaGreatDoor
set_option maxRecDepth 100000
open Go.RowKit Go.ChangeShapes Go.WideShapes Go.Joins
theorem zcb (s:Int) (A:Option Addr) (m c:Nat) (rows:List Ro) (w:World) (hr:Rws w (fun _=>True) A m rows) :
  Calls Tryz.prog 30 #[.agg #[.int .i64 s,.slice A m c]] w fun e w'=>e = .returned (.int .i64 (chkC s rows))/\Ext w w':=by
 have ac:=hr.len
 have ad:=hr.1
 unfold maxLen at ad
 have hm2:(m:Int)<=9223372036854775807:=by omega
 have HR:=Za hr
 have HL:=Za ac
 clear hr ac ad
 by_cases h1:100<m
 ·have HE:=Za (show chkC s rows=4 by rw [chkC,if_pos (by rw [HL.out];exact h1)])
  go_enter Tryz.func30,Tryz.ntmps30
  go_wp2_with fail
  go_ret
  exact ⟨by rw [HE.out];rfl,zx⟩
 have hm3:decide ((100:Int)<(m:Int))=false:=by simp;omega
 by_cases h2:s<0
 ·have HE:=Za (show chkC s rows=8 by rw [chkC,if_neg (by rw [HL.out];exact h1),if_pos (.inl h2)])
  go_enter Tryz.func30,Tryz.ntmps30
  go_wp2_with fail
  go_ret
  exact ⟨by rw [HE.out];rfl,zx⟩
 have hs2:decide (s<0)=false:=by simp;omega
 by_cases h3:200<s
 ·have HE:=Za (show chkC s rows=8 by rw [chkC,if_neg (by rw [HL.out];exact h1),if_pos (.inr h3)])
  go_enter Tryz.func30,Tryz.ntmps30
  go_wp2_with fail
  go_ret
  exact ⟨by rw [HE.out];rfl,zx⟩
 have hs3:decide (200<s)=false:=by simp;omega
 have HE:=Za (show chkC s rows=chkGo s rows by rw [chkC,if_neg (by rw [HL.out];exact h1),if_neg (by omega)])
 go_enter Tryz.func30,Tryz.ntmps30
 go_wp2_with fail
 go_loopw [3,4] (fun u i wr=>∃(k:Nat) (q:Int),i = .int .i64 k/\u = .int .i64 q/\k<=m/\Hid (chkGo q (rows.drop k)=chkGo s rows)/\Hid (Ext (w.alloc (.cells #[.int .i64 s,.slice A m c] 24)) wr)) (fun _ i _=>m-(intOf i).toNat)
 case atStart=>exact ⟨0,s,rfl,rfl,Zy _,Za (by simp),Za zx⟩
 case round =>
  obtain ⟨k,q,rfl,rfl,hk,HG,HX⟩:=hrel
  by_cases hlt:k<m
  ·obtain ⟨b,off,A',m',c',rfl,hb0, -,d0,d1,hv,aa,ab, -⟩:=(HR.out.ext ((Zp (Zf w) _).trans HX.out)).at_ hlt
   have q0:(0:Int)<=(k:Int):=by omega
   have q1:(k:Int)<(m:Int):=by omega
   have HW:=Za hv
   have ab:=Za ab
   have aa:=Za aa
   have hx:=HX.out
   obtain ⟨ae,af,ag⟩:=hx.facts
   have HD:=Za (zng (l:=rows) (k:=k) (by rw [HL.out];exact hlt))
   clear hv
   generalize hrow:rows.getD k ro0=row at *
   clear hrow
   by_cases h4:allE row.cells=0
   ·by_cases h5:usL row.cells=q
    ·have HA:=Za h4
     have HU:=Za (show usG row.cells=q by rw [zii h4];exact h5)
     have HM:=Za (znn h4)
     have HN:=Za (show chkGo (mkL row.cells) (rows.drop (k+1))=chkGo s rows by rw [<-HG.out,HD.out,chkGo,if_neg (by simp [h4]),if_neg (by simp [h5])])
     clear h4 h5
     go_wp2_with (first
      | (go_at_call 62;((with_reducible refine (zdK m' c' A' row.cells _ (HW.out.ext zx) aa.out).mono ?_);rintro e w1 ⟨rfl,hq1⟩;rw [HA.out,HU.out];obtain ⟨hg1,hg2,hg3⟩:=(Zi hx hq1).facts;obtain ⟨hh1,hh2,hh3⟩:=hq1.facts))
      | (go_at_call 63;((with_reducible refine (ziX m' c' A' row.cells _ (HW.out.ext zx) aa.out).mono ?_);rintro e w2 ⟨rfl,hq2⟩;rw [HA.out,HM.out])))
     go_roundw
     case rel=>exact ⟨k+1,mkL row.cells,by go_num,rfl,by omega,HN,Za zx⟩
     case measure=>simp [intOf];omega
    ·have HA:=Za h4
     have hb:(usG row.cells != q)=true:=by rw [zii h4];simpa using h5
     have HN:=Za (show chkGo s rows=26 by rw [<-HG.out,HD.out,chkGo,if_neg (by simp [h4]),if_pos h5])
     clear h4 h5
     go_wp2_with (first | (go_at_call 62;((with_reducible refine (zdK m' c' A' row.cells _ (HW.out.ext zx) aa.out).mono ?_);rintro e w1 ⟨rfl,hq1⟩;rw [HA.out])))
     go_ret
     exact ⟨by rw [HE.out,HN.out];rfl,by have:=HX.out;exact (Zp (Zf w) _).trans zx⟩
   ·have hb:(allE row.cells != 0)=true:=by simpa using h4
    have HN:=Za (show chkGo s rows=allE row.cells by rw [<-HG.out,HD.out,chkGo,if_pos h4])
    clear h4
    go_wp2_with (first | (go_at_call 62;((with_reducible refine (zdK m' c' A' row.cells _ (HW.out.ext zx) aa.out).mono ?_);rintro e w1 ⟨rfl,hq1⟩)))
    go_ret
    exact ⟨by rw [HE.out,HN.out];rfl,by have:=HX.out;exact (Zp (Zf w) _).trans zx⟩
  ·obtain rfl:k=m:=by omega
   have HN:=Za (show chkGo s rows=0 by rw [<-HG.out,Z3 (Nat.le_of_eq HL.out)];rfl)
   have hx:=HX.out
   obtain ⟨ae,af,ag⟩:=hx.facts
   go_wp2_with fail
   go_ret
   exact ⟨by rw [HE.out,HN.out];rfl,(Zp (Zf w) _).trans hx⟩
theorem OwnI.ext {w w':World} {B:Nat} {e:TypeId} {v:Value} {k:Nat} {L:List Int} (h:OwnI w B e v k L) (hb:Ext w w'):OwnI w' B e v k L:=World.ownsRow.kept h (But.of_ext hb none) (by cases v.ownBlock <;> simp)
end Go.Proofs.YtkneghkbgingdaaGreatDoor
/- The contracts of the reference's Counts,Great,SameInts,Same,and of Same of charts. -/
namespace Go.Proofs.YtkneghkbgingdaaGreatDoor
set_option maxRecDepth 100000
open Go.RowKit Go.ChangeShapes Go.WideShapes Go.Joins
end Go.Proofs.YtkneghkbgingdaaGreatDoor
/- The contracts of twin of rows,both. -/
namespace Go.Proofs.YtkneghkbgingdaaGreatDoor
set_option maxRecDepth 100000
open Go.RowKit Go.ChangeShapes Go.WideShapes Go.Joins
theorem OwnV.but {α:Type} {S:Shp α} {w w':World} {B:Nat} {e:TypeId} {v:Value} {k:Nat} {L:List α} {E:Option Nat} (h:OwnV S w B e v k L) (hb:But E w w') (hne:v.ownBlock=none∨v.ownBlock≠E):OwnV S w' B e v k L:=World.ownsRow.kept h hb hne
end Go.Proofs.YtkneghkbgingdaaGreatDoor
