/- float.lines$1: the threads of a grid, one after the other. -/
import Derived.Test.YtbjgpbojjhldaaaGreatDoorY30
import Derived.RangeFuncCalls
import Derived.TacticsInMore
namespace Go.Proofs.YtbjgpbojjhldaaaGreatDoor
set_option maxHeartbeats 16000000
set_option maxRecDepth 100000
open Go.RowKit Go.ChangeShapes Go.WideShapes Go.Joins
structure Ln where
 warp:Bool
 at_:Nat
 A:Option Addr
 c:Nat
 face:List Bool
def lnEF (x:Ln):Array Value:=#[.agg #[.bool x.warp,.int .i64 (x.at_:Int),.slice x.A x.face.length x.c]]
def LnA (x:Ln) (w:World):Prop:=Vec shBool w x.A x.face.length x.face/\1<=x.face.length/\x.face.length<=64/\x.at_<=64
def KpL (G b:Nat) (A B:World):Prop:=A.heap.size<=B.heap.size/\B.heap[G]?=A.heap[G]?/\B.heap[b]?=A.heap[b]?
theorem zal {w w':World} {k:Nat} (h:w'.heap[k]?=w.heap[k]?) (o:Nat):w'.cell? ⟨k,o,none⟩=w.cell? ⟨k,o,none⟩:=by simp only [World.cell?,h]
theorem KpL.box {G b:Nat} {A B:World} {a:Option Addr} {c:Nat} {g:Gd} (h:KpL G b A B) (hb:GBox A G a c g):GBox B G a c g :=
 ⟨(zal h.2.1 0).trans hb.c0,(zal h.2.1 1).trans hb.c1,(zal h.2.1 2).trans hb.c2⟩
theorem KpL.grid {G b off:Nat} {A B:World} {g:Gd} (h:KpL G b A B) (hv:GridAt A (some ⟨b,off,none⟩) g):GridAt B (some ⟨b,off,none⟩) g :=
 Vec.keep hv h.1 fun b' off' e o=>by cases e;exact zal h.2.2 o
structure LnS (w0 wr:World) (O:Nat) (u1 u2:Value) (A:Option Addr) (c:Nat) (l:List Bool):Prop where
 ex:Ext w0 wr
 o:Tb wr O u1 u2 (.slice A l.length c)
 ow:OwnV shBool wr w0.heap.size 4 (.slice A l.length c) l.length l
 no:(Value.slice A l.length c).ownBlock≠some O
 o0:w0.heap.size<=O
theorem LnS.start (w:World) (u1 u2:Value):LnS w (w.alloc (.cells #[u1,u2,.slice none 0 0] 287)) w.heap.size u1 u2 none 0 [] :=
 ⟨(Ze w).alloc _,Tb.new w _ _ _ _,OwnV.nil _ _ _ _,by simp [Value.ownBlock],Zb _⟩
theorem LnS.put {w0 wr wx w6:World} {O:Nat} {u1 u2:Value} {A A6:Option Addr} {c c6:Nat} {l:List Bool} {v:Bool} (h:LnS w0 wr O u1 u2 A c l) (hx:Ext wr wx)
  (ho:OwnV shBool w6 w0.heap.size 4 (.slice A6 (l.length+1) c6) (l.length+1) (l++[v])) (he:Ext w0 w6) (hg:wx.grownBy w6 (Value.slice A l.length c).ownBlock/\((Value.slice A6 (l.length+1) c6).ownBlock=(Value.slice A l.length c).ownBlock∨(Value.slice A6 (l.length+1) c6).ownBlock=some wx.heap.size)) :
  LnS w0 (w6.setCell ⟨O,2,none⟩ (.slice A6 (l.length+1) c6)) O u1 u2 A6 c6 (l++[v]):=by
 have hOl:=(h.o.ext hx).lt
 have hb:But (some O) w6 (w6.setCell ⟨O,2,none⟩ (.slice A6 (l.length+1) c6)):=(But.refl _ _).own rfl _
 have ab:(Value.slice A6 (l.length+1) c6).ownBlock≠some O:=fun e=>by
  rcases hg.2 with h1 | h1
  ·exact h.no (h1.symm.trans e)
  ·rw [h1] at e
   simp only [Option.some.injEq] at e
   omega
 have aa:(l++[v]).length=l.length+1:=by simp
 refine ⟨he.set h.o0 _,?_,?_,?_,h.o0⟩
 ·rw [aa];exact ((h.o.ext hx).but hg.1 h.no.symm).set2 _
 ·rw [aa];exact World.ownsRow.kept ho hb (.inr ab)
 ·rw [aa];exact ab
theorem zfi (m l:Nat) (J:List Ln->World->Prop) (hJ:∀s A B,J s A->Ext A B->J s B) (G b off c:Nat) (g:Gd) (hg:okG g) (W:World) (hB:GBox W G (some ⟨b,off,none⟩) c g) (hv:GridAt W (some ⟨b,off,none⟩) g)
  (hY:∀pre x W1,J pre W1->LnA x W1->pre.length<129->YieldAt Fence.wide m Tryz.prog l (lnEF x) W1 fun e W'=>e = .returned (.bool true)/\J (pre++[x]) W'/\KpL G b W1 W') (h0:J [] W) :
  Calls Tryz.prog 238 #[.func (.yield l) #[] #[],.pointer (some ⟨G,0,none⟩)] W fun e W'=>(∃v,e = .returned v)/\∃xs:List Ln,xs.map (·.face)=endsG g++picksG g/\J xs W':=by
 obtain ⟨h1,h2,h3,h4, -⟩:=id hg
 have aE:=Za hg
 have HJ:=Za hJ
 have HY:=Za hY
 obtain ⟨H,hH⟩:∃H,g.h=H:=⟨_,rfl⟩
 obtain ⟨Wd,hW⟩:∃H,g.w=H:=⟨_,rfl⟩
 obtain ⟨N,hN⟩:∃N,g.b.length=N:=⟨_,rfl⟩
 have ab:=Za (show g.w=Wd/\g.h=H/\g.b.length=N from ⟨hW,hH,hN⟩)
 have aB:=Za (fun x y (h1:x<g.w) (h2:y<g.h)=>zet hg h1 h2)
 have aA:=Za (zeD hg)
 rw [hW,hH,hN] at aB
 rw [hN] at aA
 rw [hW] at h1 h2
 rw [hH] at h3 h4
 have HB:=Za hB
 have HV:=Za hv
 have aL:=Za h0
 obtain ⟨e0,e1,e2⟩:=hB
 rw [hW] at e0
 rw [hH] at e1
 rw [hN] at e2
 clear hJ hY hv hH hW hN hg h0
 go_enter Tryz.func238,Tryz.ntmps238
 go_wp2_with fail
 go_loopw [11] (fun xx wr=>∃(x:Nat) (xs:List Ln),xx = .int .i64 x/\x<=Wd/\Hid (xs.map (·.face)=(endsG g).take x)/\Hid (J xs wr)/\Hid (GBox wr G (some ⟨b,off,none⟩) c g)/\Hid (GridAt wr (some ⟨b,off,none⟩) g)) (fun xx _=>Wd-(intOf xx).toNat)
 case atStart=>exact ⟨0,[],rfl,ZK _,Za (by simp),aL,HB,HV⟩
 case round =>
  clear HB HV aL
  obtain ⟨x,xs,rfl,hx,ag,aj,HB,HV⟩:=hrel
  by_cases hxl:x<Wd
  ·have q1:(x:Int)<(Wd:Int):=by omega
   have e0:=HB.out.c0
   have e1:=HB.out.c1
   have aG:G<wr.heap.size:=Zn wr _ e0
   rw [ab.out.1] at e0
   rw [ab.out.2.1] at e1
   go_wp2_with fail
   clear e0 e1
   obtain ⟨wo,rfl⟩:∃wo:World,wo=wr:=⟨_,rfl⟩
   have ah:=Za (LnS.start wo (.bool true) (.int .i64 (x:Int)))
   obtain ⟨O,hO⟩:∃O,wo.heap.size=O:=⟨_,rfl⟩
   obtain ⟨W2,ai⟩:∃W2,wo.alloc (.cells #[.bool true,.int .i64 (x:Int),.slice none 0 0] 287)=W2:=⟨_,rfl⟩
   rw [ai,hO] at ah
   rw [ai,hO]
   rw [hO] at aG
   have aO:=Za hO
   clear ai hO
   go_loopw [18] (fun yy wr=>∃(y:Nat) (A:Option Addr) (c':Nat),yy = .int .i64 y/\y<=H/\Hid (LnS wo wr O (.bool true) (.int .i64 (x:Int)) A c' ((List.range y).map (fun y=>g.at x y)))) (fun yy _=>H-(intOf yy).toNat)
   case atStart=>exact ⟨0,none,0,rfl,ZK _,ah⟩
   case round =>
    clear ah
    obtain ⟨y,A,c',rfl,hy,HS⟩:=hrel
    by_cases hyl:y<H
    ·have q2:(y:Int)<(H:Int):=by omega
     obtain ⟨r0,r1,r2⟩:=HB.out.ext HS.out.ex
     rw [ab.out.1] at r0
     rw [ab.out.2.2] at r2
     obtain ⟨⟨p0,p1,p2⟩,f0,f1,f2⟩:=HS.out.o
     have aH:=HS.out.o.lt
     have hlt:=aB.out x y hxl hyl
     have aP:=aA.out
     obtain ⟨b2,o2,aI,aJ,ap⟩:=zbC (HV.out.ext HS.out.ex) aE.out
     cases aI
     have ac:=ap x y (by rw [ab.out.1];exact hxl) (by rw [ab.out.2.1];exact hyl)
     rw [ab.out.1] at ac
     obtain ⟨t,ht⟩:∃t,g.at x y=t:=⟨_,rfl⟩
     have al:=Za (show (List.range (y+1)).map (fun y=>g.at x y)=(List.range y).map (fun y=>g.at x y)++[t] by rw [List.range_succ,List.map_append,List.map_singleton,ht])
     rw [ht] at ac
     obtain ⟨mm,hm⟩:∃m,y*Wd=m:=⟨_,rfl⟩
     have aQ:(y:Int)*(Wd:Int)=(mm:Int):=by rw [<-hm];simp
     rw [hm] at ac hlt
     obtain ⟨p,hp⟩:∃p,mm+x=p:=⟨_,rfl⟩
     have hp1:(mm:Int)+(x:Int)=(p:Int):=by omega
     rw [hp] at ac hlt
     have i2:=Zj (mm:Int) (by omega)
     have i3:=Zj (p:Int) (by omega)
     have q3:(0:Int)<=(p:Int):=by omega
     have q4:(p:Int)<(N:Int):=by omega
     obtain ⟨ln,ae⟩:∃ln,(List.range y).map (fun y=>g.at x y)=ln:=⟨_,rfl⟩
     have ar:ln.length<=64:=by rw [<-ae];simp;omega
     rw [ae] at HS al p2
     clear ht hm hp ae ap aJ
     go_wp2_with fail
     go_region_law (first
      | (refine zaM (S:=shBool) (w:=wo) (xs:=[t]) 52 4 (.bool false) 1 (by rfl) (by rfl) Tryz.underlying52 zaI (by rfl) (by omega) (by rfl) (by rfl) (HS.out.ow.ext zx) (HS.out.ex.trans zx) (Vec.ext (Vec.lit2 (w:=wr) (by rfl) (by rfl) (by rfl)) ((Ze _).drew)) (by omega) ?_;intro v' w6 aa af ad;obtain ⟨A6,c6,rfl, -⟩:=zao aa;have aD:=Za ((HS.out.o.ext zx).but ad.out.1 HS.out.no.symm);obtain ⟨⟨s0,s1,s2⟩,g0,g1,g2⟩:=aD.out))
     all_goals
      have am:=Za (HS.out.put zx aa af.out ad.out)
      rw [<-al.out] at am
      clear aa ad s0 s1 s2 g0 g1 g2
      go_wp2_with fail
      go_roundw
      case rel=>exact ⟨y+1,A6,c6,by go_num,by omega,am⟩
      case measure=>simp [intOf];omega
    ·obtain rfl:y=H:=by omega
     obtain ⟨ln,ae⟩:∃ln,(List.range y).map (fun y=>g.at x y)=ln:=⟨_,rfl⟩
     have ar:ln.length=y:=by rw [<-ae];simp
     have aw:=Za (show (endsG g).take (x+1)=(endsG g).take x++[ln] by
      rw [List.take_add_one,endsG,List.getElem?_map,List.getElem?_range (by rw [ab.out.1];exact hxl),<-ae,ab.out.2.1]
      rfl)
     rw [ae] at HS
     obtain ⟨⟨p0,p1,p2⟩,f0,f1,f2⟩:=HS.out.o
     have ay:=Za (HJ.out xs wo wr aj.out HS.out.ex)
     have az:=Za (show LnA ⟨true,x,A,c',ln⟩ wr from ⟨by obtain ⟨A',c2,e9,aK, -⟩:=zan HS.out.ow;cases e9;exact aK,by show 1<=ln.length;omega,by show ln.length<=64;omega,by show x<=64;omega⟩)
     obtain ⟨fn,tmps,assign,body,au,hR⟩:=HY.out xs _ wr ay.out az.out (by have h9:=congrArg List.length ag.out;rw [List.length_map,Zw] at h9;omega)
     simp only [lnEF,ar] at au
     go_upto_region 9 with fail
     refine wpIn_wide.1 (?_:Code.wpIn Fence.wide (m+1) _ _ _ _ _)
     gi_wp2
     refine hR.mono ?_
     rintro e W3 ⟨rfl,ao,aq⟩
     have ax:=Za ao
     have ak:=Za aq
     have aC:=Za (show (xs++[(⟨true,x,A,c',ln⟩:Ln)]).map (·.face)=(endsG g).take (x+1) by rw [List.map_append,ag.out,aw.out];rfl)
     have av:=Za (ak.out.box (HB.out.ext HS.out.ex))
     have aF:=Za (ak.out.grid (HV.out.ext HS.out.ex))
     clear ao aq hR au
     gi_wp2
     go_wp2_with fail
     exact ⟨⟨x+1,xs++[⟨true,x,A,c',ln⟩],by go_num,by omega,aC,ax,av,aF⟩,by simp [intOf];omega⟩
  ·obtain rfl:Wd=x:=by omega
   have aM:=Za (show xs.map (·.face)=endsG g++(picksG g).take 0 by rw [ag.out,Zs (by rw [endsG,List.length_map,List.length_range,ab.out.1];exact Zb _),List.take_zero,ZF])
   have e1:=HB.out.c1
   rw [ab.out.2.1] at e1
   go_wp2_with fail
   clear e1 ag
   go_loopw [44] (fun yy wr=>∃(y:Nat) (xs:List Ln),yy = .int .i64 y/\y<=H/\Hid (xs.map (·.face)=endsG g++(picksG g).take y)/\Hid (J xs wr)/\Hid (GBox wr G (some ⟨b,off,none⟩) c g)/\Hid (GridAt wr (some ⟨b,off,none⟩) g)) (fun yy _=>H-(intOf yy).toNat)
   case atStart=>exact ⟨0,xs,rfl,ZK _,aM,aj,HB,HV⟩
   case round =>
    clear HB HV aj aM
    obtain ⟨y,xs,rfl,hy,ag,aj,HB,HV⟩:=hrel
    by_cases hyl:y<H
    ·have q1:(y:Int)<(H:Int):=by omega
     have e0:=HB.out.c0
     have aG:G<wr.heap.size:=Zn wr _ e0
     rw [ab.out.1] at e0
     go_wp2_with fail
     clear e0
     obtain ⟨wo,rfl⟩:∃wo:World,wo=wr:=⟨_,rfl⟩
     have ah:=Za (LnS.start wo (.bool false) (.int .i64 (y:Int)))
     obtain ⟨O,hO⟩:∃O,wo.heap.size=O:=⟨_,rfl⟩
     obtain ⟨W2,ai⟩:∃W2,wo.alloc (.cells #[.bool false,.int .i64 (y:Int),.slice none 0 0] 287)=W2:=⟨_,rfl⟩
     rw [ai,hO] at ah
     rw [ai,hO]
     rw [hO] at aG
     have aO:=Za hO
     clear ai hO
     go_loopw [51] (fun xx wr=>∃(x:Nat) (A:Option Addr) (c':Nat),xx = .int .i64 x/\x<=Wd/\Hid (LnS wo wr O (.bool false) (.int .i64 (y:Int)) A c' ((List.range x).map (fun x => !g.at x y)))) (fun xx _=>Wd-(intOf xx).toNat)
     case atStart=>exact ⟨0,none,0,rfl,ZK _,ah⟩
     case round =>
      clear ah
      obtain ⟨x,A,c',rfl,hx,HS⟩:=hrel
      by_cases hxl:x<Wd
      ·have q2:(x:Int)<(Wd:Int):=by omega
       obtain ⟨r0,r1,r2⟩:=HB.out.ext HS.out.ex
       rw [ab.out.1] at r0
       rw [ab.out.2.2] at r2
       obtain ⟨⟨p0,p1,p2⟩,f0,f1,f2⟩:=HS.out.o
       have aH:=HS.out.o.lt
       have hlt:=aB.out x y hxl hyl
       have aP:=aA.out
       obtain ⟨b2,o2,aI,aJ,ap⟩:=zbC (HV.out.ext HS.out.ex) aE.out
       cases aI
       have ac:=ap x y (by rw [ab.out.1];exact hxl) (by rw [ab.out.2.1];exact hyl)
       rw [ab.out.1] at ac
       obtain ⟨t,ht⟩:∃t,g.at x y=t:=⟨_,rfl⟩
       have al:=Za (show (List.range (x+1)).map (fun x => !g.at x y)=(List.range x).map (fun x => !g.at x y)++[!t] by rw [List.range_succ,List.map_append,List.map_singleton,ht])
       rw [ht] at ac
       obtain ⟨mm,hm⟩:∃m,y*Wd=m:=⟨_,rfl⟩
       have aQ:(y:Int)*(Wd:Int)=(mm:Int):=by rw [<-hm];simp
       rw [hm] at ac hlt
       obtain ⟨p,hp⟩:∃p,mm+x=p:=⟨_,rfl⟩
       have hp1:(mm:Int)+(x:Int)=(p:Int):=by omega
       rw [hp] at ac hlt
       have i2:=Zj (mm:Int) (by omega)
       have i3:=Zj (p:Int) (by omega)
       have q3:(0:Int)<=(p:Int):=by omega
       have q4:(p:Int)<(N:Int):=by omega
       obtain ⟨ln,ae⟩:∃ln,(List.range x).map (fun x => !g.at x y)=ln:=⟨_,rfl⟩
       have ar:ln.length<=64:=by rw [<-ae];simp;omega
       rw [ae] at HS al p2
       clear ht hm hp ae ap aJ
       go_wp2_with fail
       go_region_law (first
        | (refine zaM (S:=shBool) (w:=wo) (xs:=[!t]) 52 4 (.bool false) 1 (by rfl) (by rfl) Tryz.underlying52 zaI (by rfl) (by omega) (by rfl) (by rfl) (HS.out.ow.ext zx) (HS.out.ex.trans zx) (Vec.ext (Vec.lit2 (w:=wr) (by rfl) (by rfl) (by rfl)) ((Ze _).drew)) (by omega) ?_;intro v' w6 aa af ad;obtain ⟨A6,c6,rfl, -⟩:=zao aa;have aD:=Za ((HS.out.o.ext zx).but ad.out.1 HS.out.no.symm);obtain ⟨⟨s0,s1,s2⟩,g0,g1,g2⟩:=aD.out))
       all_goals
        have am:=Za (HS.out.put zx aa af.out ad.out)
        rw [<-al.out] at am
        clear aa ad s0 s1 s2 g0 g1 g2
        go_wp2_with fail
        go_roundw
        case rel=>exact ⟨x+1,A6,c6,by go_num,by omega,am⟩
        case measure=>simp [intOf];omega
      ·obtain rfl:x=Wd:=by omega
       obtain ⟨ln,ae⟩:∃ln,(List.range x).map (fun x => !g.at x y)=ln:=⟨_,rfl⟩
       have ar:ln.length=x:=by rw [<-ae];simp
       have aw:=Za (show (picksG g).take (y+1)=(picksG g).take y++[ln] by
        rw [List.take_add_one,picksG,List.getElem?_map,List.getElem?_range (by rw [ab.out.2.1];exact hyl),<-ae,ab.out.1]
        rfl)
       rw [ae] at HS
       obtain ⟨⟨p0,p1,p2⟩,f0,f1,f2⟩:=HS.out.o
       have ay:=Za (HJ.out xs wo wr aj.out HS.out.ex)
       have az:=Za (show LnA ⟨false,y,A,c',ln⟩ wr from ⟨by obtain ⟨A',c2,e9,aK, -⟩:=zan HS.out.ow;cases e9;exact aK,by show 1<=ln.length;omega,by show ln.length<=64;omega,by show y<=64;omega⟩)
       obtain ⟨fn,tmps,assign,body,au,hR⟩:=HY.out xs _ wr ay.out az.out (by
        have h9:=congrArg List.length ag.out
        have h8:(endsG g).length=g.w:=by rw [endsG,List.length_map,List.length_range]
        have h7:g.w<=64:=aE.out.2.1
        rw [List.length_map,Zc,Zw] at h9;omega)
       simp only [lnEF,ar] at au
       go_upto_region 20 with fail
       refine wpIn_wide.1 (?_:Code.wpIn Fence.wide (m+1) _ _ _ _ _)
       gi_wp2
       refine hR.mono ?_
       rintro e W3 ⟨rfl,ao,aq⟩
       have ax:=Za ao
       have ak:=Za aq
       have aC:=Za (show (xs++[(⟨false,y,A,c',ln⟩:Ln)]).map (·.face)=endsG g++(picksG g).take (y+1) by rw [List.map_append,ag.out,aw.out,Zr];rfl)
       have av:=Za (ak.out.box (HB.out.ext HS.out.ex))
       have aF:=Za (ak.out.grid (HV.out.ext HS.out.ex))
       clear ao aq hR au
       gi_wp2
       go_wp2_with fail
       exact ⟨⟨y+1,xs++[⟨false,y,A,c',ln⟩],by go_num,by omega,aC,ax,av,aF⟩,by simp [intOf];omega⟩
    ·obtain rfl:y=H:=by omega
     have aN:=Za (show xs.map (·.face)=endsG g++picksG g by rw [ag.out,Zs (by rw [picksG,List.length_map,List.length_range,ab.out.2.1];exact Zb _)])
     go_wp2_with fail
     go_end0
     exact ⟨⟨_,rfl⟩,xs,aN.out,aj.out⟩
end Go.Proofs.YtbjgpbojjhldaaaGreatDoor
