/- Parse of the program. -/
import Derived.Test.YtkneghkbgingdaaGreatDoorT40
import Derived.Test.YtkneghkbgingdaaGreatDoorT34
namespace Go.Proofs.YtkneghkbgingdaaGreatDoor
set_option maxHeartbeats 16000000
set_option maxRecDepth 100000
open Go.RowKit Go.ChangeShapes Go.WideShapes Go.Joins
theorem zjn {w:World} {g:Nat} {p:PSt} {V1 V2:Value} (h:CellsAt w g (pcells p V1 V2)) (v0 v1 v2 v3 v4 v5 v6:Value) :
  CellsAt (((((((w.setCell ⟨g,0,none⟩ v0).setCell ⟨g,1,none⟩ v1).setCell ⟨g,2,none⟩ v2).setCell ⟨g,3,none⟩ v3).setCell ⟨g,4,none⟩ v4).setCell ⟨g,5,none⟩ v5).setCell ⟨g,6,none⟩ v6) g [v0,v1,v2,v3,v4,v5,v6]:=by
 have h9:=((((((h.set (j:=0) (by simp [pcells]) v0).set (j:=1) (by simp [pcells]) v1).set (j:=2) (by simp [pcells]) v2).set (j:=3) (by simp [pcells]) v3).set (j:=4) (by simp [pcells]) v4).set (j:=5) (by simp [pcells]) v5).set (j:=6) (by simp [pcells]) v6
 simpa [pcells] using h9
theorem zjm {w wr:World} {g:Nat} (h:Ext w wr) (hg:w.heap.size<=g) (v0 v1 v2 v3 v4 v5 v6:Value) :
  Ext w (((((((wr.setCell ⟨g,0,none⟩ v0).setCell ⟨g,1,none⟩ v1).setCell ⟨g,2,none⟩ v2).setCell ⟨g,3,none⟩ v3).setCell ⟨g,4,none⟩ v4).setCell ⟨g,5,none⟩ v5).setCell ⟨g,6,none⟩ v6) :=
 Zr (Zr (Zr (Zr (Zr (Zr (Zr h hg _) hg _) hg _) hg _) hg _) hg _) hg _
theorem zcK {w:World} {g:Nat} {v0 v1 v2 v3 v4 v5 v6:Value} (h:CellsAt w g [v0,v1,v2,v3,v4,v5,v6]):w.cell? ⟨g,0,none⟩=some v0/\w.cell? ⟨g,1,none⟩=some v1/\w.cell? ⟨g,2,none⟩=some v2/\w.cell? ⟨g,3,none⟩=some v3/\w.cell? ⟨g,4,none⟩=some v4/\w.cell? ⟨g,5,none⟩=some v5/\w.cell? ⟨g,6,none⟩=some v6 :=
 ⟨h 0 _ rfl,h 1 _ rfl,h 2 _ rfl,h 3 _ rfl,h 4 _ rfl,h 5 _ rfl,h 6 _ rfl⟩
theorem zoI {w:World} {a:Addr} {v:Value} (h:w.cell? a=some v):w.cell? a=some v:=h
structure PQ (g B:Nat) (W1 W wr:World) (p:PSt) (V1 V2:Value):Prop where
 e2:Ext W1 W
 e3:Ext W wr
 st:OwnV shStf W1 B 61 V1 p.st.length p.st
 se:SecO W1 W wr V2 p.se
 lt:g<B
 le:B<=W1.heap.size
theorem PQ.set {g B:Nat} {W1 W wr:World} {p:PSt} {V1 V2:Value} (h:PQ g B W1 W wr p V1 V2) (j:Nat) (u:Value):PQ g B (W1.setCell ⟨g,j,none⟩ u) (W.setCell ⟨g,j,none⟩ u) (wr.setCell ⟨g,j,none⟩ u) p V1 V2:=by
 have h1:=h.lt
 have h2:=h.le
 have h3:=Zl h.e2
 exact ⟨h.e2.setq (by simp only;omega) _,h.e3.setq (by simp only;omega) _,h.st.setb (by simpa using h1) _,h.se.set (by simp only;omega) h3 _,h1,by simpa using h2⟩
theorem PQ.secs {g B:Nat} {W1 W wr:World} {p:PSt} {V1 V2:Value} (h:PQ g B W1 W wr p V1 V2) (hr:∀x∈p.se,x.rows.length<=1000000) (hl:p.se.length<=1000000):∃A c,V2 = .slice A p.se.length c/\Secs wr A p.se.length p.se/\p.se.length<=c:=by
 exact zZ8
theorem PQ.stfs {g B:Nat} {W1 W wr:World} {p:PSt} {V1 V2:Value} (h:PQ g B W1 W wr p V1 V2):∃A c,V1 = .slice A p.st.length c/\Vec shStf wr A p.st.length p.st:=by
 obtain ⟨A,c,rfl,hv⟩:=zav h.st
 exact ⟨A,c,rfl,hv.ext (h.e2.trans h.e3)⟩
theorem PM.pq {gR gp:Nat} {w w0 W1 W wr:World} {p:PSt} {V1 V2:Value} (h:PM gR gp w w0 W1 W wr p V1 V2):PQ gR w0.heap.size W1 W wr p V1 V2 :=
 ⟨h.e2,h.e3,h.st,h.se,by have:=h.lt;omega,Zl h.e1⟩
theorem zmn {at_:List UInt8->Option Int} {ge:Int->Int->Int->Int->Int} {s:List UInt8} (h:readAll at_ (linesOf s) 0 pst0=none):patP at_ ge s=none:=by
 rw [patP,h]
 split <;> rfl
theorem zmo {at_:List UInt8->Option Int} {ge:Int->Int->Int->Int->Int} {s:List UInt8} {p:PSt} (hs:s.length<=60000) (h:readAll at_ (linesOf s) 0 pst0=some p) :
  patP at_ ge s=if ptxE p.nm (ge p.g1 p.g2 p.g3 p.g4) p.g1 p.g2 p.g3 p.g4 p.st p.se=0/\ptxV p.nm (ge p.g1 p.g2 p.g3 p.g4) p.g1 p.g2 p.g3 p.g4 p.st p.se=s then some p else none:=by
 rw [patP,if_neg (by omega),h,Zz]
 by_cases h1:ptxE p.nm (ge p.g1 p.g2 p.g3 p.g4) p.g1 p.g2 p.g3 p.g4 p.st p.se=0/\ptxV p.nm (ge p.g1 p.g2 p.g3 p.g4) p.g1 p.g2 p.g3 p.g4 p.st p.se=s
 ·rw [if_pos h1,if_pos (zeO.2 h1).2]
 ·rw [if_neg h1,if_neg (fun h2=>h1 (zeO.1 ⟨hs,h2⟩))]
def PparR (s:List UInt8) (w:World) (e:Ending) (w':World):Prop:=Ext w w'/\((patP atoiO gerr s=none/\e = .returned (.tuple #[.agg #[.string ⟨#[]⟩,.int .i64 0,.int .i64 0,.int .i64 0,.int .i64 0,.slice none 0 0,.slice none 0 0],.int .i64 12])) ∨
 ∃(p:PSt) (As Ac:Option Addr) (cs cc:Nat),patP atoiO gerr s=some p/\e = .returned (.tuple #[.agg #[.string ⟨p.nm.toArray⟩,.int .i64 p.g1,.int .i64 p.g2,.int .i64 p.g3,.int .i64 p.g4,.slice As p.st.length cs,.slice Ac p.se.length cc],.int .i64 0]) /\
  Vec shStf w' As p.st.length p.st/\Secs w' Ac p.se.length p.se/\p.se.length<=cc)
theorem zcG (w:World):CellsAt (w.alloc (.cells #[.string ⟨#[]⟩,.int .i64 0,.int .i64 0,.int .i64 0,.int .i64 0,.slice none 0 0,.slice none 0 0] 42)) w.heap.size (pcells pst0 nilV nilV):=fun j v hv=>by
 rw [cell_of_row _ w.heap.size _ _ _ (0,0) (heap_alloc_new w _)]
 simpa [pcells,pst0,nilV] using hv
theorem zgN (s:List UInt8) (hs:60000<s.length) (hl:s.length<=1000000) (w:World):Calls Tryz.prog 18 #[.string ⟨s.toArray⟩] w (PparR s w):=by
 have hlen:(60000:Int)<(s.length:Int):=by omega
 have HN:=Za (show patP atoiO gerr s=none by rw [patP,if_pos hs])
 have HC:=Za (zcG w)
 have aa:=Za (show Ext w (w.alloc (.cells #[.string ⟨#[]⟩,.int .i64 0,.int .i64 0,.int .i64 0,.int .i64 0,.slice none 0 0,.slice none 0 0] 42)) from (Zf w).alloc _)
 go_enter Tryz.func18,Tryz.ntmps18
 go_wp2
 exact bodyPost_ret (v := .tuple #[.agg #[.string ⟨#[]⟩,.int .i64 0,.int .i64 0,.int .i64 0,.int .i64 0,.slice none 0 0,.slice none 0 0],.int .i64 12]) (by simp [results,Tryz.f18,go_sem]) rfl ⟨aa.out,.inl ⟨HN.out,rfl⟩⟩
theorem zgO (s:List UInt8) (hs:s.length<=60000) (w:World) (hg:Glob w):Calls Tryz.prog 18 #[.string ⟨s.toArray⟩] w (PparR s w):=by
 have hlen:¬(60000:Int)<(s.length:Int):=by omega
 have HG:=Za hg
 have HW0:=Za (show Ext w ((w.alloc (.cells #[.string ⟨#[]⟩,.int .i64 0,.int .i64 0,.int .i64 0,.int .i64 0,.slice none 0 0,.slice none 0 0] 42)).alloc (.cells #[.string ⟨#[]⟩,.int .i64 0,.int .i64 0,.int .i64 0,.int .i64 0,.slice none 0 0,.slice none 0 0] 42)) from ((Zf w).alloc _).alloc _)
 have ao:=Za (PM.start w)
 obtain ⟨s',hs'⟩:∃x,(if s.getLast?=some 10 then s.dropLast else s)=x:=⟨_,rfl⟩
 have HS':=Za hs'
 have aO:=Za hs
 have hsl:s'.length<=s.length:=by rw [<-hs'];split <;> simp
 have aW:=Za (fun (w':World)=>(show Calls Tryz.prog 51 #[.string ⟨s.toArray⟩,.string ⟨#[10]⟩] w' fun e w''=>e = .returned (.string ⟨s'.toArray⟩)/\w''=w' from hs' ▸ zg7 s (by omega) w'))
 have aE:=Za (show linesOf s=spl 10 s' by rw [linesOf,hs'])
 have HSP:=Za (fun (w':World) (hb:Ext w w')=>za1 s' 10 (by omega) w' (hg.ext hb))
 have a8:=zbT 10 s'
 have aA:=zbb 10 s'
 have aX:=Za (fun k=>zal 10 s' k)
 have ae:=Za (zld 10 s')
 have au:=Za (fun (w':World) (g k:Nat) (h:Vec shStr w' (some ⟨g,0,none⟩) (spl 10 s').length (spl 10 s')) (hk:k<(spl 10 s').length)=>(show w'.cell? ⟨g,k,none⟩=some (.string ⟨((spl 10 s').getD k []).toArray⟩) from by
  obtain ⟨b,off,e,_,h1⟩:=h.word hk
  cases e
  rw [Nat.zero_add] at h1
  exact h1))
 generalize spl 10 s'=L at *
 obtain ⟨nw,hnw⟩:∃nw,L.length=nw:=⟨_,rfl⟩
 have al:=Za hnw
 rw [hnw] at a8 aA HSP au
 clear hs hg hs' hnw
 go_enter Tryz.func18,Tryz.ntmps18
 go_wp2_with (first
  | (go_at_call 51;((with_reducible refine (aW.out _).mono ?_);rintro e w9 ⟨rfl,h9⟩;subst w9))
  | (go_at_call 50;((with_reducible refine (HSP.out _ zx).mono ?_);rintro e w1 ⟨g1,rfl,hq1,hv1,hg1⟩;have aR:=Za hq1;have HV1:=Za hv1;have HG1:=Za hg1;clear hq1 hv1 hg1)))
 have aC:=HV1.out
 have ay:g1<w1.heap.size:=Zn w1 _ (zoI (au.out w1 g1 0 aC (by omega)))
 have ap:=Za (ao.out.ext aR.out)
 have aY:=Za (fun k (hk:k<nw)=>au.out w1 g1 k aC hk)
 clear aC
 have aM:=Za (show g1≠w.heap.size+1 by have h9:w.heap.size+1+1<=g1:=(by have h7:=HG1.out;simpa using h7);omega)
 go_loopw [17] (fun u wr=>∃(k:Nat) (p:PSt) (w0 W1 W:World) (V1 V2:Value),u = .int .i64 (k:Int)/\k<=nw/\Hid (PM w.heap.size (w.heap.size+1) w w0 W1 W wr p V1 V2)/\Hid (readAll atoiO (L.take k) 0 pst0=some p)/\Hid (PB (lsum (L.take k)) p) /\
  Hid (g1<wr.heap.size/\(∀o,wr.cell? ⟨g1,o,none⟩=w1.cell? ⟨g1,o,none⟩)/\some g1≠V1.ownBlock/\some g1≠V2.ownBlock/\(p.se=[]∨g1<W.heap.size))) (fun u _=>nw-(intOf u).toNat)
 case atStart=>exact ⟨0,pst0,_,_,_,nilV,nilV,rfl,Zy _,ap,Za rfl,Za PB.zero,Za ⟨ay,fun _=>rfl,(fun e=>by cases e),(fun e=>by cases e),.inl rfl⟩⟩
 case round =>
  obtain ⟨k,p,w0,W1,W,V1,V2,rfl,hk,ac,aF,am,aD⟩:=hrel
  obtain ⟨wb,rfl⟩:∃wb:World,wb=wr:=⟨_,rfl⟩
  have q0:(0:Int)<=(k:Int):=by omega
  by_cases hlt:k<nw
  ·obtain ⟨b1,b2,b3,b4,b5⟩:=aD.out
   have cw0:=(b2 k).trans (aY.out k hlt)
   have a7:=aX.out k
   obtain ⟨X,hX⟩:∃X,L.getD k []=X:=⟨_,rfl⟩
   rw [hX] at cw0 a7
   have HX:=Za hX
   have ab:=am.out
   have ax:=zdz L k
   have af:=ae.out
   have aG:=Za (zfN (by rw [al.out];exact hlt) aF.out)
   have aS:=Za (fun (w':World) (hb:Ext wb w')=>zmu w.heap.size (w.heap.size+1) w w0 W1 W w' p V1 V2 X (ac.out.ext hb) HG.out (by omega) k (by have:=ab.1;omega) (by have:=ab.1;omega) (fun x hx=>(ab.2.2.2 x hx).2))
   have aU:=Za (show X.length<=60000 by omega)
   clear ab ax af hX b1 b2 b3 b4 b5
   go_wp2_with (first
    | (go_at_call 52;((with_reducible refine (aS.out _ zx).mono ?_);intro e w2 aZ;rcases aZ with ⟨hn,rfl,hx,aw,hf9,hl9⟩ | ⟨p9,w09,W19,W9,V19,V29,hn,rfl,hpm,aH⟩;(focus (have aP:=Za hn;have HX9:=Za hx;have aK:=Za aw;obtain ⟨y0,y1,y2,y3,y4,y5,y6⟩:=zag aw;clear hn hx aw)))))
   ·have aj:=Za (zmn (ge:=gerr) (by rw [aE.out];exact zgQ (by rw [aG.out,HX.out];exact aP.out)))
    have hz:=zjn aK.out (.string ⟨#[]⟩) (.int .i64 0) (.int .i64 0) (.int .i64 0) (.int .i64 0) (.slice none 0 0) (.slice none 0 0)
    obtain ⟨z0,z1,z2,z3,z4,z5,z6⟩:=zcK hz
    exact bodyPost_ret (v := .tuple #[.agg #[.string ⟨#[]⟩,.int .i64 0,.int .i64 0,.int .i64 0,.int .i64 0,.slice none 0 0,.slice none 0 0],.int .i64 12]) (by simp [results,Tryz.f18,go_sem,z0,z1,z2,z3,z4,z5,z6]) rfl ⟨zjm HX9.out (Zg _) _ _ _ _ _ _ _,.inl ⟨aj.out,rfl⟩⟩
   ·have aq:=Za hpm
    have an:=Za (zmC hn am.out (by have:=aU.out;omega))
    have ar:=Za (aG.out.trans (show readL atoiO p k (L.getD k [])=some p9 by rw [HX.out];exact hn))
    obtain ⟨b1,b2,b3,b4,b5⟩:=aD.out
    have ad:=Za (aH g1 b1 aM.out b3 b4 b5)
    have aN:=Za b2
    clear hn hpm aH b1 b2 b3 b4 b5
    go_roundw
    case rel=>exact ⟨k+1,p9,w09,W19,W9,V19,V29,by go_num,by omega,aq,ar,Za (by rw [zki (by rw [al.out];exact hlt),HX.out];exact an.out),Za ⟨ad.out.1,fun o=>(ad.out.2.1 o).trans (aN.out o),ad.out.2.2⟩⟩
    case measure=>simp [intOf];omega
  ·obtain rfl:k=nw:=by omega
   have aB:=aF.out
   rw [ZE (by rw [al.out];exact Zg _)] at aB
   have ab:=am.out
   have af:=ae.out
   have ax:=zdz L k
   obtain ⟨As,cs,rfl,aJ⟩:=ac.out.stfs
   obtain ⟨Ac,cc,rfl,aI,ah⟩:=ac.out.secs (fun x hx=>by have:=(ab.2.2.2 x hx).2;omega) (by have:=ab.1;omega)
   have aV:=Za aJ
   have aT:=Za aI
   have ak:=Za (zmo (ge:=gerr) aO.out (by rw [aE.out];exact aB))
   have ag:=Za (fun (w':World) (hb:Ext wb w')=>zfL p.nm p.g1 p.g2 p.g3 p.g4 As p.st.length cs p.st Ac p.se.length cc p.se w' (aV.out.ext hb) (aT.out.ext hb) (by have:=ab.2.1;omega) (fun i hi=>by
    have hm:p.st.getD i stf0∈p.st:=by rw [Zc,Zd hi];exact List.getElem_mem _
    have:=ab.2.2.1 _ hm
    show (p.st.getD i stf0).nm.length<=100000
    omega) (fun i hi=>by
    have hm:p.se.getD i sec0∈p.se:=by rw [Zc,Zd hi];exact List.getElem_mem _
    have:=(ab.2.2.2 _ hm).1
    show (p.se.getD i sec0).nm.length<=100000
    omega) (by have:=ab.1;omega) (by have:=ab.1;omega) (HG.out.ext (ac.out.all.trans hb)) (zbx _ _ _ _))
   have HQ:=Za (fun (w':World) (hb:Ext wb w')=>(ac.out.ext hb).at0 ((ac.out.ext hb).b0))
   have aQ:=Za (fun (w':World) (hb:Ext wb w')=>(ac.out.ext hb).pq)
   have aj:=Za ab
   have aL:=Za ah
   unfold PtxR at ag
   obtain ⟨E,hE⟩:∃E,ptxE p.nm (gerr p.g1 p.g2 p.g3 p.g4) p.g1 p.g2 p.g3 p.g4 p.st p.se=E:=⟨_,rfl⟩
   obtain ⟨T,hT⟩:∃T,ptxV p.nm (gerr p.g1 p.g2 p.g3 p.g4) p.g1 p.g2 p.g3 p.g4 p.st p.se=T:=⟨_,rfl⟩
   rw [hE,hT] at ag ak
   clear aB ab af ax aJ aI ah hE hT
   obtain ⟨a0,a1,a2,a3,a4,a5,a6⟩:=zag (HQ.out wb (Zf _)).2.1
   have az:=(HQ.out wb (Zf _)).2.2.2.2.2
   have ai:(¬E=0)∨(E=0/\(T==s)=false)∨(E=0/\T=s):=by
    by_cases h1:E=0
    ·by_cases h2:T=s
     ·exact .inr (.inr ⟨h1,h2⟩)
     ·exact .inr (.inl ⟨h1,by simpa using h2⟩)
    ·exact .inl h1
   rcases ai with h1 | ⟨rfl,h2⟩ | ⟨rfl,rfl⟩
   ·have hne:(E != 0)=true:=by simpa using h1
    have HNO:=Za (ak.out.trans (if_neg (fun h9=>h1 h9.1)))
    clear h1
    go_wp2_with (first
     | (go_at_call 16;((with_reducible refine (ag.out _ zx).mono ?_);rintro e w2 ⟨rfl,hq2⟩;have aa:=Za (zx:Ext wb w2);obtain ⟨y0,y1,y2,y3,y4,y5,y6⟩:=zag (HQ.out w2 aa.out).1;have yf:=(HQ.out w2 aa.out).2.2.1;have yz:=(HQ.out w2 aa.out).2.2.2.2.1)))
    have hz:=zjn (HQ.out w2 aa.out).1 (.string ⟨#[]⟩) (.int .i64 0) (.int .i64 0) (.int .i64 0) (.int .i64 0) (.slice none 0 0) (.slice none 0 0)
    obtain ⟨z0,z1,z2,z3,z4,z5,z6⟩:=zcK hz
    exact bodyPost_ret (v := .tuple #[.agg #[.string ⟨#[]⟩,.int .i64 0,.int .i64 0,.int .i64 0,.int .i64 0,.slice none 0 0,.slice none 0 0],.int .i64 12]) (by simp [results,Tryz.f18,go_sem,z0,z1,z2,z3,z4,z5,z6]) rfl ⟨zjm (ac.out.all.trans aa.out) (Zg _) _ _ _ _ _ _ _,.inl ⟨HNO.out,rfl⟩⟩
   ·have HNO:=Za (ak.out.trans (if_neg (fun h9=>by rw [h9.2] at h2;simp at h2)))
    go_wp2_with (first
     | (go_at_call 16;((with_reducible refine (ag.out _ zx).mono ?_);rintro e w2 ⟨rfl,hq2⟩;have aa:=Za (zx:Ext wb w2);obtain ⟨y0,y1,y2,y3,y4,y5,y6⟩:=zag (HQ.out w2 aa.out).1;have yf:=(HQ.out w2 aa.out).2.2.1;have yz:=(HQ.out w2 aa.out).2.2.2.2.1)))
    have hz:=zjn (HQ.out w2 aa.out).1 (.string ⟨#[]⟩) (.int .i64 0) (.int .i64 0) (.int .i64 0) (.int .i64 0) (.slice none 0 0) (.slice none 0 0)
    obtain ⟨z0,z1,z2,z3,z4,z5,z6⟩:=zcK hz
    exact bodyPost_ret (v := .tuple #[.agg #[.string ⟨#[]⟩,.int .i64 0,.int .i64 0,.int .i64 0,.int .i64 0,.slice none 0 0,.slice none 0 0],.int .i64 12]) (by simp [results,Tryz.f18,go_sem,z0,z1,z2,z3,z4,z5,z6]) rfl ⟨zjm (ac.out.all.trans aa.out) (Zg _) _ _ _ _ _ _ _,.inl ⟨HNO.out,rfl⟩⟩
   ·have av:=Za (ak.out.trans (if_pos ⟨rfl,rfl⟩))
    go_wp2_with (first
     | (go_at_call 16;((with_reducible refine (ag.out _ zx).mono ?_);rintro e w2 ⟨rfl,hq2⟩;have aa:=Za (zx:Ext wb w2);obtain ⟨y0,y1,y2,y3,y4,y5,y6⟩:=zag (HQ.out w2 aa.out).1;have yf:=(HQ.out w2 aa.out).2.2.1;have yz:=(HQ.out w2 aa.out).2.2.2.2.1;obtain ⟨x0,x1,x2,x3,x4,x5,x6⟩:=zag (HQ.out w2 aa.out).2.1;have xz:=(HQ.out w2 aa.out).2.2.2.2.2)))
    have hz:=zjn (HQ.out w2 aa.out).1 (.string ⟨p.nm.toArray⟩) (.int .i64 p.g1) (.int .i64 p.g2) (.int .i64 p.g3) (.int .i64 p.g4) (.slice As p.st.length cs) (.slice Ac p.se.length cc)
    obtain ⟨z0,z1,z2,z3,z4,z5,z6⟩:=zcK hz
    have hq:=(((((((aQ.out w2 aa.out).set 0 (.string ⟨p.nm.toArray⟩)).set 1 (.int .i64 p.g1)).set 2 (.int .i64 p.g2)).set 3 (.int .i64 p.g3)).set 4 (.int .i64 p.g4)).set 5 (.slice As p.st.length cs)).set 6 (.slice Ac p.se.length cc)
    obtain ⟨A1,c1,e1,h1⟩:=hq.stfs
    obtain ⟨A2,c2,e2,h2, -⟩:=hq.secs (fun x hx=>by have:=(aj.out.2.2.2 x hx).2;omega) (by have:=aj.out.1;have:=zdz L k;have:=ae.out;omega)
    cases e1
    cases e2
    exact bodyPost_ret (v := .tuple #[.agg #[.string ⟨p.nm.toArray⟩,.int .i64 p.g1,.int .i64 p.g2,.int .i64 p.g3,.int .i64 p.g4,.slice As p.st.length cs,.slice Ac p.se.length cc],.int .i64 0]) (by simp [results,Tryz.f18,go_sem,z0,z1,z2,z3,z4,z5,z6]) rfl ⟨zjm (ac.out.all.trans aa.out) (Zg _) _ _ _ _ _ _ _,.inr ⟨p,As,Ac,cs,cc,av.out,rfl,h1,h2,aL.out⟩⟩
theorem zd8 (s:List UInt8) (hs:s.length<=1000000) (w:World) (hg:Glob w):Calls Tryz.prog 18 #[.string ⟨s.toArray⟩] w (PparR s w):=by
 by_cases h:60000<s.length
 ·exact zgN s h hs w
 ·exact zgO s (by omega) w hg
end Go.Proofs.YtkneghkbgingdaaGreatDoor
