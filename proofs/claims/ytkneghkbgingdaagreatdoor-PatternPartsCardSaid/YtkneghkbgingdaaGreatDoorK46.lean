/- Parse of the program. -/
import Derived.Test.YtkneghkbgingdaaGreatDoorK45
set_option maxHeartbeats 16000000
namespace Go.Proofs.YtkneghkbgingdaaGreatDoor
set_option maxRecDepth 100000
open Go.RowKit Go.ChangeShapes Go.WideShapes Go.Joins
theorem znQ {w:World} {g:Nat} {p:PSt} {V1 V2:Value} (h:CellsAt w g (pcells p V1 V2)) (v0 v1 v2 v3 v4 v5 v6:Value) :
  CellsAt (((((((w.setCell ⟨g,0,none⟩ v0).setCell ⟨g,1,none⟩ v1).setCell ⟨g,2,none⟩ v2).setCell ⟨g,3,none⟩ v3).setCell ⟨g,4,none⟩ v4).setCell ⟨g,5,none⟩ v5).setCell ⟨g,6,none⟩ v6) g [v0,v1,v2,v3,v4,v5,v6]:=by
 have h9:=((((((h.set (j:=0) (by simp [pcells]) v0).set (j:=1) (by simp [pcells]) v1).set (j:=2) (by simp [pcells]) v2).set (j:=3) (by simp [pcells]) v3).set (j:=4) (by simp [pcells]) v4).set (j:=5) (by simp [pcells]) v5).set (j:=6) (by simp [pcells]) v6
 simpa [pcells] using h9
theorem znv {w wr:World} {g:Nat} (h:Ext w wr) (hg:w.heap.size≤g) (v0 v1 v2 v3 v4 v5 v6:Value) :
  Ext w (((((((wr.setCell ⟨g,0,none⟩ v0).setCell ⟨g,1,none⟩ v1).setCell ⟨g,2,none⟩ v2).setCell ⟨g,3,none⟩ v3).setCell ⟨g,4,none⟩ v4).setCell ⟨g,5,none⟩ v5).setCell ⟨g,6,none⟩ v6) :=
 Zi (Zi (Zi (Zi (Zi (Zi (Zi h hg _) hg _) hg _) hg _) hg _) hg _) hg _
theorem zjD {w:World} {g:Nat} {v0 v1 v2 v3 v4 v5 v6:Value} (h:CellsAt w g [v0,v1,v2,v3,v4,v5,v6]):w.cell? ⟨g,0,none⟩=some v0∧w.cell? ⟨g,1,none⟩=some v1∧w.cell? ⟨g,2,none⟩=some v2∧w.cell? ⟨g,3,none⟩=some v3∧w.cell? ⟨g,4,none⟩=some v4∧w.cell? ⟨g,5,none⟩=some v5∧w.cell? ⟨g,6,none⟩=some v6 :=
 ⟨h 0 _ rfl,h 1 _ rfl,h 2 _ rfl,h 3 _ rfl,h 4 _ rfl,h 5 _ rfl,h 6 _ rfl⟩
theorem znk {w:World} {a:Addr} {v:Value} (h:w.cell? a=some v):w.cell? a=some v:=h
structure PQ (g B:Nat) (W1 W wr:World) (p:PSt) (V1 V2:Value):Prop where
 e2:Ext W1 W
 e3:Ext W wr
 st:OwnV shStf W1 B 61 V1 p.st.length p.st
 se:SecO W1 W wr V2 p.se
 lt:g<B
 le:B≤W1.heap.size
theorem PQ.set {g B:Nat} {W1 W wr:World} {p:PSt} {V1 V2:Value} (h:PQ g B W1 W wr p V1 V2) (j:Nat) (u:Value):PQ g B (W1.setCell ⟨g,j,none⟩ u) (W.setCell ⟨g,j,none⟩ u) (wr.setCell ⟨g,j,none⟩ u) p V1 V2:=by
 have h1:=h.lt
 have h2:=h.le
 have h3:=Zr h.e2
 exact ⟨h.e2.setq (by simp only;omega) _,h.e3.setq (by simp only;omega) _,h.st.setb (by simpa using h1) _,h.se.set (by simp only;omega) h3 _,h1,by simpa using h2⟩
theorem PQ.secs {g B:Nat} {W1 W wr:World} {p:PSt} {V1 V2:Value} (h:PQ g B W1 W wr p V1 V2) (hr:∀x∈p.se,x.rows.length≤1000000) (hl:p.se.length≤1000000):∃A c,V2 = .slice A p.se.length c∧Secs wr A p.se.length p.se∧p.se.length≤c:=by
 exact zZ9
theorem PQ.stfs {g B:Nat} {W1 W wr:World} {p:PSt} {V1 V2:Value} (h:PQ g B W1 W wr p V1 V2):∃A c,V1 = .slice A p.st.length c∧Vec shStf wr A p.st.length p.st:=by
 obtain ⟨A,c,rfl,hv⟩:=zb3 h.st
 exact ⟨A,c,rfl,hv.ext (h.e2.trans h.e3)⟩
theorem PM.pq {gR gp:Nat} {w w0 W1 W wr:World} {p:PSt} {V1 V2:Value} (h:PM gR gp w w0 W1 W wr p V1 V2):PQ gR w0.heap.size W1 W wr p V1 V2 :=
 ⟨h.e2,h.e3,h.st,h.se,by have:=h.lt;omega,Zr h.e1⟩
theorem zkY {at_:List UInt8→Option Int} {ge:Int→Int→Int→Int→Int} {s:List UInt8} (h:readAll at_ (linesOf s) 0 pst0=none):patP at_ ge s=none:=by
 rw [patP,h]
 split <;> rfl
theorem zkZ {at_:List UInt8→Option Int} {ge:Int→Int→Int→Int→Int} {s:List UInt8} {p:PSt} (hs:s.length≤60000) (h:readAll at_ (linesOf s) 0 pst0=some p) :
  patP at_ ge s=if ptxE p.nm (ge p.g1 p.g2 p.g3 p.g4) p.g1 p.g2 p.g3 p.g4 p.st p.se=0∧ptxV p.nm (ge p.g1 p.g2 p.g3 p.g4) p.g1 p.g2 p.g3 p.g4 p.st p.se=s then some p else none:=by
 rw [patP,if_neg (by omega),h,ZA]
 by_cases h1:ptxE p.nm (ge p.g1 p.g2 p.g3 p.g4) p.g1 p.g2 p.g3 p.g4 p.st p.se=0∧ptxV p.nm (ge p.g1 p.g2 p.g3 p.g4) p.g1 p.g2 p.g3 p.g4 p.st p.se=s
 ·rw [if_pos h1,if_pos (zf2.2 h1).2]
 ·rw [if_neg h1,if_neg (fun h2=>h1 (zf2.1 ⟨hs,h2⟩))]
def PparR (s:List UInt8) (w:World) (e:Ending) (w':World):Prop:=Ext w w'∧((patP atoiO gerr s=none∧e = .returned (.tuple #[.agg #[.string ⟨#[]⟩,.int .i64 0,.int .i64 0,.int .i64 0,.int .i64 0,.slice none 0 0,.slice none 0 0],.int .i64 12])) ∨
 ∃(p:PSt) (As Ac:Option Addr) (cs cc:Nat),patP atoiO gerr s=some p∧e = .returned (.tuple #[.agg #[.string ⟨p.nm.toArray⟩,.int .i64 p.g1,.int .i64 p.g2,.int .i64 p.g3,.int .i64 p.g4,.slice As p.st.length cs,.slice Ac p.se.length cc],.int .i64 0]) ∧
  Vec shStf w' As p.st.length p.st∧Secs w' Ac p.se.length p.se∧p.se.length≤cc)
theorem zdH (w:World):CellsAt (w.alloc (.cells #[.string ⟨#[]⟩,.int .i64 0,.int .i64 0,.int .i64 0,.int .i64 0,.slice none 0 0,.slice none 0 0] 42)) w.heap.size (pcells pst0 nilV nilV):=fun j v hv=>by
 rw [cell_of_row _ w.heap.size _ _ _ (0,0) (heap_alloc_new w _)]
 simpa [pcells,pst0,nilV] using hv
theorem zf0 (s:List UInt8) (hs:60000<s.length) (hl:s.length≤1000000) (w:World):Calls Tryz.prog 18 #[.string ⟨s.toArray⟩] w (PparR s w):=by
 have hlen:(60000:Int)<(s.length:Int):=by omega
 have HN:=Za (show patP atoiO gerr s=none by rw [patP,if_pos hs])
 have HC:=Za (zdH w)
 have HW0:=Za (show Ext w (w.alloc (.cells #[.string ⟨#[]⟩,.int .i64 0,.int .i64 0,.int .i64 0,.int .i64 0,.slice none 0 0,.slice none 0 0] 42)) from (Zd w).alloc _)
 go_enter Tryz.func18,Tryz.ntmps18
 go_wp2
 exact bodyPost_ret (v := .tuple #[.agg #[.string ⟨#[]⟩,.int .i64 0,.int .i64 0,.int .i64 0,.int .i64 0,.slice none 0 0,.slice none 0 0],.int .i64 12]) (by simp [results,Tryz.f18,go_sem]) rfl ⟨HW0.out,.inl ⟨HN.out,rfl⟩⟩
theorem zf1 (s:List UInt8) (hs:s.length≤60000) (w:World) (hg:Glob w):Calls Tryz.prog 18 #[.string ⟨s.toArray⟩] w (PparR s w):=by
 have hlen:¬(60000:Int)<(s.length:Int):=by omega
 have HG:=Za hg
 have HW0:=Za (show Ext w ((w.alloc (.cells #[.string ⟨#[]⟩,.int .i64 0,.int .i64 0,.int .i64 0,.int .i64 0,.slice none 0 0,.slice none 0 0] 42)).alloc (.cells #[.string ⟨#[]⟩,.int .i64 0,.int .i64 0,.int .i64 0,.int .i64 0,.slice none 0 0,.slice none 0 0] 42)) from ((Zd w).alloc _).alloc _)
 have HPM0:=Za (PM.start w)
 obtain ⟨s',hs'⟩:∃x,(if s.getLast?=some 10 then s.dropLast else s)=x:=⟨_,rfl⟩
 have HS':=Za hs'
 have HLE:=Za hs
 have hsl:s'.length≤s.length:=by rw [←hs'];split <;> simp
 have HTR:=Za (fun (w':World)=>(show Calls Tryz.prog 51 #[.string ⟨s.toArray⟩,.string ⟨#[10]⟩] w' fun e w''=>e = .returned (.string ⟨s'.toArray⟩)∧w''=w' from hs' ▸ zgj s (by omega) w'))
 have HLN:=Za (show linesOf s=spl 10 s' by rw [linesOf,hs'])
 have HSP:=Za (fun (w':World) (hb:Ext w w')=>za0 s' 10 (by omega) w' (hg.ext hb))
 have hwl:=zcN 10 s'
 have hpos:=zbL 10 s'
 have HWL:=Za (fun k=>zau 10 s' k)
 have HSUM:=Za (zjG 10 s')
 have HVV:=Za (fun (w':World) (g k:Nat) (h:Vec shStr w' (some ⟨g,0,none⟩) (spl 10 s').length (spl 10 s')) (hk:k<(spl 10 s').length)=>(show w'.cell? ⟨g,k,none⟩=some (.string ⟨((spl 10 s').getD k []).toArray⟩) from by
  obtain ⟨b,off,e,_,h1⟩:=h.word hk
  cases e
  rw [Nat.zero_add] at h1
  exact h1))
 generalize spl 10 s'=L at *
 obtain ⟨nw,hnw⟩:∃nw,L.length=nw:=⟨_,rfl⟩
 have HNW:=Za hnw
 rw [hnw] at hwl hpos HSP HVV
 clear hs hg hs' hnw
 go_enter Tryz.func18,Tryz.ntmps18
 go_wp2_with (first
  | (go_at_call 51;((with_reducible refine (HTR.out _).mono ?_);rintro e w9 ⟨rfl,h9⟩;subst w9))
  | (go_at_call 50;((with_reducible refine (HSP.out _ zx).mono ?_);rintro e w1 ⟨g1,rfl,hq1,hv1,hg1⟩;have HQ1:=Za hq1;have HV1:=Za hv1;have HG1:=Za hg1;clear hq1 hv1 hg1)))
 have hv0:=HV1.out
 have hlt1:g1<w1.heap.size:=Zo w1 _ (znk (HVV.out w1 g1 0 hv0 (by omega)))
 have HPM1:=Za (HPM0.out.ext HQ1.out)
 have HWV:=Za (fun k (hk:k<nw)=>HVV.out w1 g1 k hv0 hk)
 clear hv0
 have HGP:=Za (show g1≠w.heap.size+1 by have h9:w.heap.size+1+1≤g1:=(by have h7:=HG1.out;simpa using h7);omega)
 go_loopw [17] (fun u wr=>∃(k:Nat) (p:PSt) (w0 W1 W:World) (V1 V2:Value),u = .int .i64 (k:Int)∧k≤nw∧Hid (PM w.heap.size (w.heap.size+1) w w0 W1 W wr p V1 V2)∧Hid (readAll atoiO (L.take k) 0 pst0=some p)∧Hid (PB (lsum (L.take k)) p) ∧
  Hid (g1<wr.heap.size∧(∀o,wr.cell? ⟨g1,o,none⟩=w1.cell? ⟨g1,o,none⟩)∧some g1≠V1.ownBlock∧some g1≠V2.ownBlock∧(p.se=[]∨g1<W.heap.size))) (fun u _=>nw-(intOf u).toNat)
 case atStart=>exact ⟨0,pst0,_,_,_,nilV,nilV,rfl,Zu _,HPM1,Za rfl,Za PB.zero,Za ⟨hlt1,fun _=>rfl,(fun e=>by cases e),(fun e=>by cases e),.inl rfl⟩⟩
 case round =>
  obtain ⟨k,p,w0,W1,W,V1,V2,rfl,hk,HPM,HRA,HPB,HKP⟩:=hrel
  obtain ⟨wb,rfl⟩:∃wb:World,wb=wr:=⟨_,rfl⟩
  have q0:(0:Int)≤(k:Int):=by omega
  by_cases hlt:k<nw
  ·obtain ⟨b1,b2,b3,b4,b5⟩:=HKP.out
   have cw0:=(b2 k).trans (HWV.out k hlt)
   have hwk:=HWL.out k
   obtain ⟨X,hX⟩:∃X,L.getD k []=X:=⟨_,rfl⟩
   rw [hX] at cw0 hwk
   have HX:=Za hX
   have hpb:=HPB.out
   have hlk:=zdf L k
   have hsum:=HSUM.out
   have HRM:=Za (ze8 (by rw [HNW.out];exact hlt) HRA.out)
   have HRL:=Za (fun (w':World) (hb:Ext wb w')=>zk0 w.heap.size (w.heap.size+1) w w0 W1 W w' p V1 V2 X (HPM.out.ext hb) HG.out (by omega) k (by have:=hpb.1;omega) (by have:=hpb.1;omega) (fun x hx=>(hpb.2.2.2 x hx).2))
   have HSL:=Za (show X.length≤60000 by omega)
   clear hpb hlk hsum hX b1 b2 b3 b4 b5
   go_wp2_with (first
    | (go_at_call 52;((with_reducible refine (HRL.out _ zx).mono ?_);intro e w2 hpl;rcases hpl with ⟨hn,rfl,hx,hc9,hf9,hl9⟩ | ⟨p9,w09,W19,W9,V19,V29,hn,rfl,hpm,hkp⟩;(focus (have HN9:=Za hn;have HX9:=Za hx;have HC9:=Za hc9;obtain ⟨y0,y1,y2,y3,y4,y5,y6⟩:=zak hc9;clear hn hx hc9)))))
   ·have HBD:=Za (zkY (ge:=gerr) (by rw [HLN.out];exact zf5 (by rw [HRM.out,HX.out];exact HN9.out)))
    have hz:=znQ HC9.out (.string ⟨#[]⟩) (.int .i64 0) (.int .i64 0) (.int .i64 0) (.int .i64 0) (.slice none 0 0) (.slice none 0 0)
    obtain ⟨z0,z1,z2,z3,z4,z5,z6⟩:=zjD hz
    exact bodyPost_ret (v := .tuple #[.agg #[.string ⟨#[]⟩,.int .i64 0,.int .i64 0,.int .i64 0,.int .i64 0,.slice none 0 0,.slice none 0 0],.int .i64 12]) (by simp [results,Tryz.f18,go_sem,z0,z1,z2,z3,z4,z5,z6]) rfl ⟨znv HX9.out (Zf _) _ _ _ _ _ _ _,.inl ⟨HBD.out,rfl⟩⟩
   ·have HPM9:=Za hpm
    have HPB9:=Za (zlc hn HPB.out (by have:=HSL.out;omega))
    have HRA9:=Za (HRM.out.trans (show readL atoiO p k (L.getD k [])=some p9 by rw [HX.out];exact hn))
    obtain ⟨b1,b2,b3,b4,b5⟩:=HKP.out
    have HKP9:=Za (hkp g1 b1 HGP.out b3 b4 b5)
    have HKQ:=Za b2
    clear hn hpm hkp b1 b2 b3 b4 b5
    go_roundw
    case rel=>exact ⟨k+1,p9,w09,W19,W9,V19,V29,by go_num,by omega,HPM9,HRA9,Za (by rw [ziR (by rw [HNW.out];exact hlt),HX.out];exact HPB9.out),Za ⟨HKP9.out.1,fun o=>(HKP9.out.2.1 o).trans (HKQ.out o),HKP9.out.2.2⟩⟩
    case measure=>simp [intOf];omega
  ·obtain rfl:k=nw:=by omega
   have hra:=HRA.out
   rw [Zz (by rw [HNW.out];exact Zf _)] at hra
   have hpb:=HPB.out
   have hsum:=HSUM.out
   have hlk:=zdf L k
   obtain ⟨As,cs,rfl,hst⟩:=HPM.out.stfs
   obtain ⟨Ac,cc,rfl,hse,hcap⟩:=HPM.out.secs (fun x hx=>by have:=(hpb.2.2.2 x hx).2;omega) (by have:=hpb.1;omega)
   have HST:=Za hst
   have HSE:=Za hse
   have HFN:=Za (zkZ (ge:=gerr) HLE.out (by rw [HLN.out];exact hra))
   have HTX:=Za (fun (w':World) (hb:Ext wb w')=>zbl p.nm p.g1 p.g2 p.g3 p.g4 As p.st.length cs p.st Ac p.se.length cc p.se w' (HST.out.ext hb) (HSE.out.ext hb) (by have:=hpb.2.1;omega) (fun i hi=>by
    have hm:p.st.getD i stf0∈p.st:=by rw [Zc,Zg hi];exact List.getElem_mem _
    have:=hpb.2.2.1 _ hm
    show (p.st.getD i stf0).nm.length≤100000
    omega) (fun i hi=>by
    have hm:p.se.getD i sec0∈p.se:=by rw [Zc,Zg hi];exact List.getElem_mem _
    have:=(hpb.2.2.2 _ hm).1
    show (p.se.getD i sec0).nm.length≤100000
    omega) (by have:=hpb.1;omega) (by have:=hpb.1;omega) (HG.out.ext (HPM.out.all.trans hb)) (zbe _ _ _ _))
   have HQ:=Za (fun (w':World) (hb:Ext wb w')=>(HPM.out.ext hb).at0 ((HPM.out.ext hb).b0))
   have HPQ:=Za (fun (w':World) (hb:Ext wb w')=>(HPM.out.ext hb).pq)
   have HBD:=Za hpb
   have HCP:=Za hcap
   unfold PtxR at HTX
   obtain ⟨E,hE⟩:∃E,ptxE p.nm (gerr p.g1 p.g2 p.g3 p.g4) p.g1 p.g2 p.g3 p.g4 p.st p.se=E:=⟨_,rfl⟩
   obtain ⟨T,hT⟩:∃T,ptxV p.nm (gerr p.g1 p.g2 p.g3 p.g4) p.g1 p.g2 p.g3 p.g4 p.st p.se=T:=⟨_,rfl⟩
   rw [hE,hT] at HTX HFN
   clear hra hpb hsum hlk hst hse hcap hE hT
   obtain ⟨a0,a1,a2,a3,a4,a5,a6⟩:=zak (HQ.out wb (Zd _)).2.1
   have az:=(HQ.out wb (Zd _)).2.2.2.2.2
   have hcase:(¬E=0)∨(E=0∧(T==s)=false)∨(E=0∧T=s):=by
    by_cases h1:E=0
    ·by_cases h2:T=s
     ·exact .inr (.inr ⟨h1,h2⟩)
     ·exact .inr (.inl ⟨h1,by simpa using h2⟩)
    ·exact .inl h1
   rcases hcase with h1 | ⟨rfl,h2⟩ | ⟨rfl,rfl⟩
   ·have hne:(E != 0)=true:=by simpa using h1
    have HNO:=Za (HFN.out.trans (if_neg (fun h9=>h1 h9.1)))
    clear h1
    go_wp2_with (first
     | (go_at_call 16;((with_reducible refine (HTX.out _ zx).mono ?_);rintro e w2 ⟨rfl,hq2⟩;have HE2:=Za (zx:Ext wb w2);obtain ⟨y0,y1,y2,y3,y4,y5,y6⟩:=zak (HQ.out w2 HE2.out).1;have yf:=(HQ.out w2 HE2.out).2.2.1;have yz:=(HQ.out w2 HE2.out).2.2.2.2.1)))
    have hz:=znQ (HQ.out w2 HE2.out).1 (.string ⟨#[]⟩) (.int .i64 0) (.int .i64 0) (.int .i64 0) (.int .i64 0) (.slice none 0 0) (.slice none 0 0)
    obtain ⟨z0,z1,z2,z3,z4,z5,z6⟩:=zjD hz
    exact bodyPost_ret (v := .tuple #[.agg #[.string ⟨#[]⟩,.int .i64 0,.int .i64 0,.int .i64 0,.int .i64 0,.slice none 0 0,.slice none 0 0],.int .i64 12]) (by simp [results,Tryz.f18,go_sem,z0,z1,z2,z3,z4,z5,z6]) rfl ⟨znv (HPM.out.all.trans HE2.out) (Zf _) _ _ _ _ _ _ _,.inl ⟨HNO.out,rfl⟩⟩
   ·have HNO:=Za (HFN.out.trans (if_neg (fun h9=>by rw [h9.2] at h2;simp at h2)))
    go_wp2_with (first
     | (go_at_call 16;((with_reducible refine (HTX.out _ zx).mono ?_);rintro e w2 ⟨rfl,hq2⟩;have HE2:=Za (zx:Ext wb w2);obtain ⟨y0,y1,y2,y3,y4,y5,y6⟩:=zak (HQ.out w2 HE2.out).1;have yf:=(HQ.out w2 HE2.out).2.2.1;have yz:=(HQ.out w2 HE2.out).2.2.2.2.1)))
    have hz:=znQ (HQ.out w2 HE2.out).1 (.string ⟨#[]⟩) (.int .i64 0) (.int .i64 0) (.int .i64 0) (.int .i64 0) (.slice none 0 0) (.slice none 0 0)
    obtain ⟨z0,z1,z2,z3,z4,z5,z6⟩:=zjD hz
    exact bodyPost_ret (v := .tuple #[.agg #[.string ⟨#[]⟩,.int .i64 0,.int .i64 0,.int .i64 0,.int .i64 0,.slice none 0 0,.slice none 0 0],.int .i64 12]) (by simp [results,Tryz.f18,go_sem,z0,z1,z2,z3,z4,z5,z6]) rfl ⟨znv (HPM.out.all.trans HE2.out) (Zf _) _ _ _ _ _ _ _,.inl ⟨HNO.out,rfl⟩⟩
   ·have HYES:=Za (HFN.out.trans (if_pos ⟨rfl,rfl⟩))
    go_wp2_with (first
     | (go_at_call 16;((with_reducible refine (HTX.out _ zx).mono ?_);rintro e w2 ⟨rfl,hq2⟩;have HE2:=Za (zx:Ext wb w2);obtain ⟨y0,y1,y2,y3,y4,y5,y6⟩:=zak (HQ.out w2 HE2.out).1;have yf:=(HQ.out w2 HE2.out).2.2.1;have yz:=(HQ.out w2 HE2.out).2.2.2.2.1;obtain ⟨x0,x1,x2,x3,x4,x5,x6⟩:=zak (HQ.out w2 HE2.out).2.1;have xz:=(HQ.out w2 HE2.out).2.2.2.2.2)))
    have hz:=znQ (HQ.out w2 HE2.out).1 (.string ⟨p.nm.toArray⟩) (.int .i64 p.g1) (.int .i64 p.g2) (.int .i64 p.g3) (.int .i64 p.g4) (.slice As p.st.length cs) (.slice Ac p.se.length cc)
    obtain ⟨z0,z1,z2,z3,z4,z5,z6⟩:=zjD hz
    have hq:=(((((((HPQ.out w2 HE2.out).set 0 (.string ⟨p.nm.toArray⟩)).set 1 (.int .i64 p.g1)).set 2 (.int .i64 p.g2)).set 3 (.int .i64 p.g3)).set 4 (.int .i64 p.g4)).set 5 (.slice As p.st.length cs)).set 6 (.slice Ac p.se.length cc)
    obtain ⟨A1,c1,e1,h1⟩:=hq.stfs
    obtain ⟨A2,c2,e2,h2, -⟩:=hq.secs (fun x hx=>by have:=(HBD.out.2.2.2 x hx).2;omega) (by have:=HBD.out.1;have:=zdf L k;have:=HSUM.out;omega)
    cases e1
    cases e2
    exact bodyPost_ret (v := .tuple #[.agg #[.string ⟨p.nm.toArray⟩,.int .i64 p.g1,.int .i64 p.g2,.int .i64 p.g3,.int .i64 p.g4,.slice As p.st.length cs,.slice Ac p.se.length cc],.int .i64 0]) (by simp [results,Tryz.f18,go_sem,z0,z1,z2,z3,z4,z5,z6]) rfl ⟨znv (HPM.out.all.trans HE2.out) (Zf _) _ _ _ _ _ _ _,.inr ⟨p,As,Ac,cs,cc,HYES.out,rfl,h1,h2,HCP.out⟩⟩
theorem za4 (s:List UInt8) (hs:s.length≤1000000) (w:World) (hg:Glob w):Calls Tryz.prog 18 #[.string ⟨s.toArray⟩] w (PparR s w):=by
 by_cases h:60000<s.length
 ·exact zf0 s h hs w
 ·exact zf1 s (by omega) w hg
end Go.Proofs.YtkneghkbgingdaaGreatDoor
/- Strings in memory;Index,Names,twice of the reference. -/
namespace Go.Proofs.YtkneghkbgingdaaGreatDoor
set_option maxRecDepth 100000
open Go.RowKit Go.ChangeShapes Go.WideShapes Go.Joins
def shStr1:Shp (List UInt8) where
 size:=1
 cells x:=[.string ⟨x.toArray⟩]
 pos:=by omega
 len _:=rfl
 one x u h:=by
  simp at h
  subst h
  rfl
theorem zeY:(Tryz.prog.info? 9).map (fun i=>(i.zero,i.size,i.bytes))=some (some (.string ⟨#[]⟩),1,16):=by kernel_rfl
def nmsL (g:Nat→List UInt8) (n:Nat):List (List UInt8):=(List.range n).map g
theorem zgU (g:Nat→List UInt8) (n:Nat):nmsL g (n+1)=nmsL g n++[g n]:=by
 unfold nmsL
 rw [List.range_succ,List.map_append]
 rfl
theorem zmu {g:Nat→List UInt8} {n i:Nat} (h:i<n):(nmsL g n).getD i []=g i:=by
 unfold nmsL
 rw [Zc,List.getElem?_map,List.getElem?_range h]
 rfl
theorem zfC {g h:Nat→List UInt8} {i k:Nat} (hi:g i=h i) (hk:∀j,j<k→g j=h j):amongB g i k=amongB h i k:=by
 induction k with
 | zero=>rfl
 | succ k ih=>rw [zbM,zbM,ih (fun j hj=>hk j (by omega)),hi,hk k (by omega)]
theorem zgk {g h:Nat→List UInt8} {n:Nat} (hk:∀j,j<n→g j=h j):twiceB g n=twiceB h n:=by
 induction n with
 | zero=>rfl
 | succ n ih=>rw [zbo,zbo,ih (fun j hj=>hk j (by omega)),zfC (hk n (by omega)) (fun j hj=>hk j (by omega))]
theorem zh5 {g:Nat→List UInt8} {i k:Nat}:amongB g i k=true↔∃j,j<k∧g i=g j:=by
 unfold amongB
 rw [List.any_eq_true]
 constructor
 ·rintro ⟨j,h1,h2⟩
  exact ⟨j,ZE.1 h1,by simpa using h2⟩
 ·rintro ⟨j,h1,h2⟩
  exact ⟨j,ZE.2 h1,by simpa using h2⟩
theorem znz {g:Nat→List UInt8} {x:List UInt8}:∀(n k i:Nat),k≤i→i<k+n→g i=x→(idxN g x n k<(i:Int)↔∃j,k≤j∧j<i∧g j=x):=by
 intro n
 induction n with
 | zero=>intro k i h1 h2;omega
 | succ n ih =>
  intro k i h1 h2 h3
  rw [idxN]
  by_cases hk:g k=x
  ·rw [if_pos hk]
   constructor
   ·intro h;exact ⟨k,Zf _,by omega,hk⟩
   ·rintro ⟨j,h4,h5,_⟩;omega
  ·rw [if_neg hk]
   have hki:k≠i:=by rintro rfl;exact hk h3
   rw [ih (k+1) i (by omega) (by omega) h3]
   constructor
   ·rintro ⟨j,h4,h5,h6⟩;exact ⟨j,by omega,h5,h6⟩
   ·rintro ⟨j,h4,h5,h6⟩
    have:j≠k:=by rintro rfl;exact hk h6
    exact ⟨j,by omega,h5,h6⟩
theorem ziJ {g:Nat→List UInt8} {n i:Nat} (hi:i<n):(idxN g (g i) n 0<(i:Int)↔amongB g i i=true):=by
 rw [znz n 0 i (Zu _) (by omega) rfl,zh5]
 constructor
 ·rintro ⟨j,_,h1,h2⟩;exact ⟨j,h1,h2.symm⟩
 ·rintro ⟨j,h1,h2⟩;exact ⟨j,Zu _,h1,h2.symm⟩
theorem zjT {g:Nat→List UInt8} {n i:Nat} (hi:i<n) (h:amongB g i i=true):twiceB g n=true:=by
 unfold twiceB
 rw [List.any_eq_true]
 exact ⟨i,ZE.2 hi,h⟩
theorem Str.at_ {w:World} {A:Option Addr} {n:Nat} {l:List (List UInt8)} (h:Vec shStr1 w A n l) {k:Nat} (hk:k<n) :
  ∃(b off:Nat),A=some ⟨b,off,none⟩∧b<w.heap.size∧w.cell? ⟨b,off+k,none⟩=some (.string ⟨(l.getD k []).toArray⟩):=by
 obtain ⟨b,off,e,hlt,hc⟩:=h.2 (by omega)
 have hx:l[k]?=some (l.getD k []):=by
  rw [Zc,Zg (by rw [h.1];exact hk)];rfl
 have h9:=hc k _ hx 0 _ rfl
 exact ⟨b,off,e,hlt,by simpa [shStr1] using h9⟩
theorem zli (A:Option Addr) (n c:Nat) (l:List (List UInt8)) (x:List UInt8) (w:World) (hl:Vec shStr1 w A n l) (hn:n≤100000) :
  Calls Tryz.prog 94 #[.slice A n c,.string ⟨x.toArray⟩] w fun e w'=>e = .returned (.int .i64 (idxN (fun i=>l.getD i []) x n 0))∧Ext w w':=by
 have HL:=Za hl
 obtain ⟨R,hR⟩:∃R,idxN (fun i=>l.getD i []) x n 0=R:=⟨_,rfl⟩
 have HR:=Za hR
 rw [hR]
 clear hl hR
 go_enter Tryz.func94,Tryz.ntmps94
 go_wp2_with fail
 go_loopw [5] (fun i wr=>∃k:Nat,i = .int .i64 (k:Int)∧k≤n∧Hid (R=idxN (fun i=>l.getD i []) x (n-k) k)∧Hid (Ext w wr)) (fun i _=>n-(intOf i).toNat)
 case atStart=>exact ⟨0,rfl,Zu _,Za HR.out.symm,Za (Zd _)⟩
 case round =>
  obtain ⟨k,rfl,hk,HI,HE⟩:=hrel
  obtain ⟨wa,rfl⟩:∃wa:World,wa=wr:=⟨_,rfl⟩
  have q0:(0:Int)≤(k:Int):=by omega
  by_cases hlt:k<n
  ·have q1:(k:Int)<(n:Int):=by omega
   obtain ⟨b,off,rfl,hb,c0⟩:=Str.at_ (HL.out.ext HE.out) hlt
   obtain ⟨m,hm⟩:∃m,n-k=m+1:=⟨n-k-1,by omega⟩
   have hI:=HI.out
   rw [hm,idxN] at hI
   have hm2:n-(k+1)=m:=by omega
   obtain ⟨Y,hY⟩:∃Y,l.getD k []=Y:=⟨_,rfl⟩
   rw [hY] at c0
   by_cases hxy:Y=x
   ·rw [if_pos (hY.trans hxy)] at hI
    have HN:=Za hI
    have hb1:(Y==x)=true:=by simpa using hxy
    clear hI hm hm2 hY hxy
    go_wp2_with fail
    go_ret
    exact ⟨by rw [HN.out];rfl,HE.out⟩
   ·rw [if_neg (fun h9=>hxy (hY.symm.trans h9)),←hm2] at hI
    have HN:=Za hI
    have hb1:(Y==x)=false:=by simpa using hxy
    clear hI hm hm2 hY hxy
    go_wp2_with fail
    go_roundw
    case rel=>exact ⟨k+1,by go_num,by omega,HN,HE⟩
    case measure=>simp [intOf] <;> omega
  ·obtain rfl:n=k:=by omega
   have HN:=Za (show R = -1 by rw [HI.out,Nat.sub_self];rfl)
   go_wp2_with fail
   go_ret
   exact ⟨by rw [HN.out];rfl,HE.out⟩
theorem zbU (A:Option Addr) (n c:Nat) (l:List (List UInt8)) (w:World) (hl:Vec shStr1 w A n l) (hn:n≤100000) :
  Calls Tryz.prog 65 #[.slice A n c] w fun e w'=>e = .returned (.bool (twiceB (fun i=>l.getD i []) n))∧Ext w w':=by
 have HL:=Za hl
 clear hl
 go_enter Tryz.func65,Tryz.ntmps65
 go_wp2_with fail
 go_loopw [3] (fun i wr=>∃k:Nat,i = .int .i64 (k:Int)∧k≤n∧Hid (twiceB (fun i=>l.getD i []) k=false)∧Hid (Ext w wr)) (fun i _=>n-(intOf i).toNat)
 case atStart=>exact ⟨0,rfl,Zu _,Za rfl,Za (Zd _)⟩
 case round =>
  obtain ⟨k,rfl,hk,HT,HE⟩:=hrel
  obtain ⟨wa,rfl⟩:∃wa:World,wa=wr:=⟨_,rfl⟩
  have q0:(0:Int)≤(k:Int):=by omega
  by_cases hlt:k<n
  ·have q1:(k:Int)<(n:Int):=by omega
   obtain ⟨b,off,rfl,hb,c0⟩:=Str.at_ (HL.out.ext HE.out) hlt
   have hia:=ziJ (g:=fun i=>l.getD i []) hlt
   have HIX:=Za (fun (w':World) (h:Ext wa w')=>zli (some ⟨b,off,none⟩) n c l (l.getD k []) w' (HL.out.ext (HE.out.trans h)) hn)
   obtain ⟨I,hI⟩:∃I,idxN (fun i=>l.getD i []) (l.getD k []) n 0=I:=⟨_,rfl⟩
   rw [hI] at hia HIX
   obtain ⟨Y,hY⟩:∃Y,l.getD k []=Y:=⟨_,rfl⟩
   rw [hY] at c0 HIX
   clear hY hI
   by_cases hlo:I<(k:Int)
   ·have HN:=Za (zjT hlt (hia.1 hlo))
    clear hia
    go_wp2_with (first
     | (go_at_call 94;((with_reducible refine (HIX.out _ zx).mono ?_);rintro e w5 ⟨rfl,hq5⟩)))
    go_ret
    exact ⟨by rw [HN.out];rfl,HE.out.trans zx⟩
   ·have HN:=Za (show twiceB (fun i=>l.getD i []) (k+1)=false by
     rw [zbo,HT.out,Bool.false_or,Bool.eq_false_iff]
     exact fun h9=>hlo (hia.2 h9))
    clear hia
    go_wp2_with (first
     | (go_at_call 94;((with_reducible refine (HIX.out _ zx).mono ?_);rintro e w5 ⟨rfl,hq5⟩)))
    go_roundw
    case rel=>exact ⟨k+1,by go_num,by omega,HN,Za (HE.out.trans zx)⟩
    case measure=>simp [intOf] <;> omega
  ·obtain rfl:n=k:=by omega
   go_wp2_with fail
   go_ret
   exact ⟨by rw [HT.out];rfl,HE.out⟩
end Go.Proofs.YtkneghkbgingdaaGreatDoor
/- Names and fine of the reference. -/
namespace Go.Proofs.YtkneghkbgingdaaGreatDoor
set_option maxRecDepth 100000
open Go.RowKit Go.ChangeShapes Go.WideShapes Go.Joins
def StrR (n:Nat) (l:List (List UInt8)) (w:World) (e:Ending) (w':World):Prop:=∃A c,e = .returned (.slice A n c)∧Vec shStr1 w' A n l∧Ext w w'
theorem zhK (nm:List UInt8) (g1 g2 g3 g4:Int) (As:Option Addr) (ns cs:Nat) (Ac:Option Addr) (nc cc:Nat) (se:List Sec) (w:World) (hc:Secs w Ac nc se) (hn2:nc≤10000) :
  Calls Tryz.prog 66 #[.agg #[.string ⟨nm.toArray⟩,.int .i64 g1,.int .i64 g2,.int .i64 g3,.int .i64 g4,.slice As ns cs,.slice Ac nc cc]] w (StrR nc (nmsL (seN se) nc) w):=by
 have HCV:=Za hc
 have HBX:=Za (BoxP.start w nm g1 g2 g3 g4 As ns cs Ac nc cc)
 have HW0:=Za (show Ext w (w.alloc (.cells #[.string ⟨nm.toArray⟩,.int .i64 g1,.int .i64 g2,.int .i64 g3,.int .i64 g4,.slice As ns cs,.slice Ac nc cc] 42)) from (Zd w).alloc _)
 clear hc
 go_enter Tryz.func66,Tryz.ntmps66
 go_wp2_with fail
 go_loopw [3,4] (fun u i wr=>∃(V:Value) (k:Nat),V=u∧i = .int .i64 (k:Int)∧k≤nc∧Hid (OwnV shStr1 wr (w.alloc (.cells #[.string ⟨nm.toArray⟩,.int .i64 g1,.int .i64 g2,.int .i64 g3,.int .i64 g4,.slice As ns cs,.slice Ac nc cc] 42)).heap.size 9 V k (nmsL (seN se) k))∧Hid (Ext (w.alloc (.cells #[.string ⟨nm.toArray⟩,.int .i64 g1,.int .i64 g2,.int .i64 g3,.int .i64 g4,.slice As ns cs,.slice Ac nc cc] 42)) wr)) (fun _ i _=>nc-(intOf i).toNat)
 case atStart=>exact ⟨_,0,rfl,rfl,Zu _,Za (OwnV.nil _ _ _ _),Za (Zd _)⟩
 case round =>
  obtain ⟨V,k,rfl,rfl,hk,HO,HE⟩:=hrel
  obtain ⟨wa,rfl⟩:∃wa:World,wa=wr:=⟨_,rfl⟩
  obtain ⟨x0,x1,x2,x3,x4,x5,x6,xz⟩:=(HBX.out.ext HE.out).facts
  have q0:(0:Int)≤(k:Int):=by omega
  by_cases hlt:k<nc
  ·have q1:(k:Int)<(nc:Int):=by omega
   obtain ⟨b',off,A',n',c',rfl,hb',c0,c1,c2,hr,hcap⟩:=(HCV.out.ext (HW0.out.trans HE.out)).at_ hlt
   have HNS:=Za (zgU (seN se) k)
   obtain ⟨Y,hY⟩:∃Y,seN se k=Y:=⟨_,rfl⟩
   rw [hY] at c0 HNS
   clear hY hr
   go_wp2_with (at_builtin;(refine zab (S:=shStr1) (w:=_) (m:=1) (c:=1) (L:=nmsL (seN se) k) (k:=k) (xs:=[Y]) 67 9 (.string ⟨#[]⟩) 16 (by rfl) (by rfl) Tryz.underlying67 zeY (by rfl) (by omega) (by rfl) (by rfl) (HO.out.ext zx) (HE.out.trans zx) (Vec.lit2 (by simp) rfl rfl) (by omega) ?_;intro v5 w5 hown5 hx5 hgr5))
   go_roundw
   case rel=>exact ⟨v5,k+1,rfl,by go_num,by omega,Za (by rw [HNS.out];exact hown5),Za hx5.out⟩
   case measure=>simp [intOf] <;> omega
  ·obtain rfl:nc=k:=by omega
   go_wp2_with fail
   go_ret
   obtain ⟨A9,c9,e9,hv9, -⟩:=zac HO.out
   exact ⟨A9,c9,congrArg Ending.returned e9,hv9,HW0.out.trans HE.out⟩
theorem zfz {g:Nat→List UInt8} {n k:Nat} (hk:k<n) (h:wordS (g k)=false):wordsB g n=false:=by
 unfold wordsB
 rw [List.all_eq_false]
 exact ⟨k,ZE.2 hk,by rw [h];decide⟩
theorem zhC (nm:List UInt8) (g1 g2 g3 g4:Int) (As:Option Addr) (ns cs:Nat) (st:List Stf) (Ac:Option Addr) (nc cc:Nat) (se:List Sec) (w:World) (hs:Vec shStf w As ns st) (hc:Secs w Ac nc se)
  (hnl:nm.length≤100000) (hsl:∀i,i<ns→(stN st i).length≤100000) (hcl:∀i,i<nc→(seN se i).length≤100000) (hn1:ns≤10000) (hn2:nc≤10000) :
  Calls Tryz.prog 64 #[.agg #[.string ⟨nm.toArray⟩,.int .i64 g1,.int .i64 g2,.int .i64 g3,.int .i64 g4,.slice As ns cs,.slice Ac nc cc]] w fun e w'=>e = .returned (.bool (fineP nm (gerr g1 g2 g3 g4) st se))∧Ext w w':=by
 have HLS:=Za hs.1
 have HLC:=Za hc.len
 have HSV:=Za hs
 have HCV:=Za hc
 have HSL:=Za hsl
 have HCL:=Za hcl
 have HBX:=Za (BoxP.start w nm g1 g2 g3 g4 As ns cs Ac nc cc)
 have HW0:=Za (show Ext w (w.alloc (.cells #[.string ⟨nm.toArray⟩,.int .i64 g1,.int .i64 g2,.int .i64 g3,.int .i64 g4,.slice As ns cs,.slice Ac nc cc] 42)) from (Zd w).alloc _)
 have HWN:=Za (fun (w':World)=>zdl nm (by omega) w')
 have HGE:=Za (fun (w':World)=>zfN g1 g2 g3 g4 w')
 have HFP:=Za (show fineP nm (gerr g1 g2 g3 g4) st se=(wordS nm && wordsB (stN st) ns && wordsB (seN se) nc && decide (nc≠0) && decide (gerr g1 g2 g3 g4=0) && gramB st ns) by rw [fineP,HLS.out,HLC.out])
 obtain ⟨R,hR⟩:∃R,fineP nm (gerr g1 g2 g3 g4) st se=R:=⟨_,rfl⟩
 rw [hR] at HFP
 rw [hR]
 obtain ⟨a1,e1⟩:∃a,wordS nm=a:=⟨_,rfl⟩
 obtain ⟨ge,e6⟩:∃a,gerr g1 g2 g3 g4=a:=⟨_,rfl⟩
 rw [e1,e6] at HFP
 rw [e6] at HGE
 rw [e1] at HWN
 clear hs hc hsl hcl e1 e6 hR
 cases a1 with
 | false =>
  have HN:=Za (show R=false by rw [HFP.out];simp)
  go_enter Tryz.func64,Tryz.ntmps64
  go_wp2_with (first
   | (go_at_call 92;((with_reducible refine (HWN.out _).mono ?_);rintro e w3 ⟨rfl,hq3⟩;obtain ⟨x0,x1,x2,x3,x4,x5,x6,xz⟩:=(HBX.out.ext (zx:Ext _ w3)).facts)))
  go_ret
  exact ⟨by rw [HN.out];rfl,HW0.out.trans zx⟩
 | true =>
  by_cases hg:ge=0
  case neg =>
   have HN:=Za (show R=false by rw [HFP.out];simp [hg])
   have p4:(ge != 0)=true:=by simpa using hg
   clear hg
   go_enter Tryz.func64,Tryz.ntmps64
   go_wp2_with (first
    | (go_at_call 92;((with_reducible refine (HWN.out _).mono ?_);rintro e w3 ⟨rfl,hq3⟩;obtain ⟨x0,x1,x2,x3,x4,x5,x6,xz⟩:=(HBX.out.ext (zx:Ext _ w3)).facts))
    | (go_at_call 93;((with_reducible refine (HGE.out _).mono ?_);rintro e w4 ⟨rfl,hq4⟩;obtain ⟨x0,x1,x2,x3,x4,x5,x6,xz⟩:=(HBX.out.ext (zx:Ext _ w4)).facts)))
   go_ret
   exact ⟨by rw [HN.out];rfl,HW0.out.trans zx⟩
  subst hg
  by_cases h0:nc=0
  ·have HN:=Za (show R=false by rw [HFP.out];simp [h0])
   have p3:((nc:Int)==0)=true:=by simp [h0]
   clear h0
   go_enter Tryz.func64,Tryz.ntmps64
   go_wp2_with (first
    | (go_at_call 92;((with_reducible refine (HWN.out _).mono ?_);rintro e w3 ⟨rfl,hq3⟩;obtain ⟨x0,x1,x2,x3,x4,x5,x6,xz⟩:=(HBX.out.ext (zx:Ext _ w3)).facts))
    | (go_at_call 93;((with_reducible refine (HGE.out _).mono ?_);rintro e w4 ⟨rfl,hq4⟩;obtain ⟨x0,x1,x2,x3,x4,x5,x6,xz⟩:=(HBX.out.ext (zx:Ext _ w4)).facts)))
   go_ret
   exact ⟨by rw [HN.out];rfl,HW0.out.trans zx⟩
  have p3:((nc:Int)==0)=false:=by rw [Ze];omega
  have HNZ:=Za h0
  clear h0
  go_enter Tryz.func64,Tryz.ntmps64
  go_wp2_with (first
   | (go_at_call 92;((with_reducible refine (HWN.out _).mono ?_);rintro e w3 ⟨rfl,hq3⟩;obtain ⟨x0,x1,x2,x3,x4,x5,x6,xz⟩:=(HBX.out.ext (zx:Ext _ w3)).facts))
   | (go_at_call 93;((with_reducible refine (HGE.out _).mono ?_);rintro e w4 ⟨rfl,hq4⟩;obtain ⟨x0,x1,x2,x3,x4,x5,x6,xz⟩:=(HBX.out.ext (zx:Ext _ w4)).facts)))
  go_loopw [3] (fun v wr=>∃k:Nat,v = .int .i64 (k:Int)∧k≤ns∧Hid (gramB st k=true∧wordsB (stN st) k=true)∧Hid (Ext (w.alloc (.cells #[.string ⟨nm.toArray⟩,.int .i64 g1,.int .i64 g2,.int .i64 g3,.int .i64 g4,.slice As ns cs,.slice Ac nc cc] 42)) wr)) (fun v _=>ns-(intOf v).toNat)
  case atStart=>exact ⟨0,rfl,Zu _,Za ⟨rfl,rfl⟩,Za zx⟩
  case round =>
   obtain ⟨k,rfl,hk,HG,HE⟩:=hrel
   obtain ⟨wa,rfl⟩:∃wa:World,wa=wr:=⟨_,rfl⟩
   obtain ⟨x0,x1,x2,x3,x4,x5,x6,xz⟩:=(HBX.out.ext HE.out).facts
   have q0:(0:Int)≤(k:Int):=by omega
   by_cases hlt:k<ns
   ·have q1:(k:Int)<(ns:Int):=by omega
    have hYl:=HSL.out k hlt
    obtain ⟨b',off,rfl,hb',c0,c1⟩:=Stf.at_ (HSV.out.ext (HW0.out.trans HE.out)) hlt
    have HWS:=Za (zbW (stN st) k)
    obtain ⟨Y,hY⟩:∃Y,stN st k=Y:=⟨_,rfl⟩
    rw [hY] at c0 hYl HWS
    have HY:=Za hY
    obtain ⟨gk,hgk⟩:∃gk,(st.getD k stf0).g=gk:=⟨_,rfl⟩
    rw [hgk] at c1
    have HGK:=Za hgk
    obtain ⟨z,hz⟩:∃z,wordS Y=z:=⟨_,rfl⟩
    rw [hz] at HWS
    have HWY:=Za (fun (w':World)=>zdl Y (by omega) w')
    rw [hz] at HWY
    have HZ:=Za hz
    clear hgk hY hz
    cases z with
    | false =>
     have HN:=Za (show R=false by rw [HFP.out,zfz hlt (by rw [HY.out];exact HZ.out)];simp)
     go_wp2_with (first
      | (go_at_call 92;((with_reducible refine (HWY.out _).mono ?_);rintro e w5 ⟨rfl,hq5⟩;obtain ⟨x0,x1,x2,x3,x4,x5,x6,xz⟩:=(HBX.out.ext (HE.out.trans (zx):Ext _ w5)).facts;obtain ⟨hf1,hf2,hf3⟩:=hq5.facts)))
     go_ret
     exact ⟨by rw [HN.out];rfl,HW0.out.trans (HE.out.trans zx)⟩
    | true =>
     by_cases hlo:gk<1
     ·have HN:=Za (show R=false by rw [HFP.out,zcS hlt (by rw [HGK.out];omega)];simp)
      go_wp2_with (first
       | (go_at_call 92;((with_reducible refine (HWY.out _).mono ?_);rintro e w5 ⟨rfl,hq5⟩;obtain ⟨x0,x1,x2,x3,x4,x5,x6,xz⟩:=(HBX.out.ext (HE.out.trans (zx):Ext _ w5)).facts;obtain ⟨hf1,hf2,hf3⟩:=hq5.facts)))
      go_ret
      exact ⟨by rw [HN.out];rfl,HW0.out.trans (HE.out.trans zx)⟩
     ·by_cases hhi:100000<gk
      ·have HN:=Za (show R=false by rw [HFP.out,zcS hlt (by rw [HGK.out];omega)];simp)
       go_wp2_with (first
        | (go_at_call 92;((with_reducible refine (HWY.out _).mono ?_);rintro e w5 ⟨rfl,hq5⟩;obtain ⟨x0,x1,x2,x3,x4,x5,x6,xz⟩:=(HBX.out.ext (HE.out.trans (zx):Ext _ w5)).facts;obtain ⟨hf1,hf2,hf3⟩:=hq5.facts)))
       go_ret
       exact ⟨by rw [HN.out];rfl,HW0.out.trans (HE.out.trans zx)⟩
      ·have HN:=Za (show gramB st (k+1)=true∧wordsB (stN st) (k+1)=true from ⟨by rw [zcc,HG.out.1,HGK.out,Z8 (show 1≤gk∧gk≤100000 by omega)];rfl,by rw [HWS.out,HG.out.2];rfl⟩)
       go_wp2_with (first
        | (go_at_call 92;((with_reducible refine (HWY.out _).mono ?_);rintro e w5 ⟨rfl,hq5⟩;obtain ⟨x0,x1,x2,x3,x4,x5,x6,xz⟩:=(HBX.out.ext (HE.out.trans (zx):Ext _ w5)).facts;obtain ⟨hf1,hf2,hf3⟩:=hq5.facts)))
       go_roundw
       case rel=>exact ⟨k+1,by go_num,by omega,HN,Za (HE.out.trans zx)⟩
       case measure=>simp [intOf] <;> omega
   ·obtain rfl:ns=k:=by omega
    go_wp2_with fail
    go_loopw [4] (fun v wr=>∃j:Nat,v = .int .i64 (j:Int)∧j≤nc∧Hid (wordsB (seN se) j=true)∧Hid (Ext (w.alloc (.cells #[.string ⟨nm.toArray⟩,.int .i64 g1,.int .i64 g2,.int .i64 g3,.int .i64 g4,.slice As ns cs,.slice Ac nc cc] 42)) wr)) (fun v _=>nc-(intOf v).toNat)
    case atStart=>exact ⟨0,rfl,Zu _,Za rfl,HE⟩
    case round =>
     clear x0 x1 x2 x3 x4 x5 x6 xz
     obtain ⟨j,rfl,hj,HWJ,HEJ⟩:=hrel
     obtain ⟨wb,rfl⟩:∃wb:World,wb=wr:=⟨_,rfl⟩
     obtain ⟨x0,x1,x2,x3,x4,x5,x6,xz⟩:=(HBX.out.ext HEJ.out).facts
     have r0:(0:Int)≤(j:Int):=by omega
     by_cases hjl:j<nc
     ·have r1:(j:Int)<(nc:Int):=by omega
      have hYl:=HCL.out j hjl
      obtain ⟨b',off,A',n',c',rfl,hb',c0,c1,c2,hr,hcap⟩:=(HCV.out.ext (HW0.out.trans HEJ.out)).at_ hjl
      have HWS:=Za (zbW (seN se) j)
      obtain ⟨Y,hY⟩:∃Y,seN se j=Y:=⟨_,rfl⟩
      rw [hY] at c0 hYl HWS
      have HY:=Za hY
      obtain ⟨z,hz⟩:∃z,wordS Y=z:=⟨_,rfl⟩
      rw [hz] at HWS
      have HWY:=Za (fun (w':World)=>zdl Y (by omega) w')
      rw [hz] at HWY
      have HZ:=Za hz
      clear hY hz hr
      cases z with
      | false =>
       have HN:=Za (show R=false by rw [HFP.out,zfz hjl (by rw [HY.out];exact HZ.out)];simp)
       go_wp2_with (first
        | (go_at_call 92;((with_reducible refine (HWY.out _).mono ?_);rintro e w5 ⟨rfl,hq5⟩)))
       go_ret
       exact ⟨by rw [HN.out];rfl,HW0.out.trans (HEJ.out.trans zx)⟩
      | true =>
       have HN:=Za (show wordsB (seN se) (j+1)=true by rw [HWS.out,HWJ.out];rfl)
       go_wp2_with (first
        | (go_at_call 92;((with_reducible refine (HWY.out _).mono ?_);rintro e w5 ⟨rfl,hq5⟩)))
       go_roundw
       case rel=>exact ⟨j+1,by go_num,by omega,HN,Za (HEJ.out.trans zx)⟩
       case measure=>simp [intOf] <;> omega
     ·obtain rfl:nc=j:=by omega
      have HN:=Za (show R=true by rw [HFP.out,HG.out.1,HG.out.2,HWJ.out];simp [HNZ.out])
      go_wp2_with fail
      go_ret
      exact ⟨by rw [HN.out];rfl,HW0.out.trans HEJ.out⟩
end Go.Proofs.YtkneghkbgingdaaGreatDoor
/- The Check of patterns,the reference's. -/
namespace Go.Proofs.YtkneghkbgingdaaGreatDoor
set_option maxRecDepth 100000
open Go.RowKit Go.ChangeShapes Go.WideShapes Go.Joins
theorem zfr (g:Nat→List UInt8) (n:Nat):twiceB (fun i=>(nmsL g n).getD i []) n=twiceB g n:=zgk fun _ hj=>zmu hj
theorem zgb (nm:List UInt8) (g1 g2 g3 g4:Int) (As:Option Addr) (ns cs:Nat) (st:List Stf) (Ac:Option Addr) (nc cc:Nat) (se:List Sec) (w:World) (hs:Vec shStf w As ns st) (hc:Secs w Ac nc se)
  (hnl:nm.length≤100000) (hsl:∀i,i<ns→(stN st i).length≤100000) (hcl:∀i,i<nc→(seN se i).length≤100000) (hn1:ns≤10000) (hn2:nc≤10000) :
  Calls Tryz.prog 33 #[.agg #[.string ⟨nm.toArray⟩,.int .i64 g1,.int .i64 g2,.int .i64 g3,.int .i64 g4,.slice As ns cs,.slice Ac nc cc]] w fun e w'=>e = .returned (.int .i64 (patE nm (gerr g1 g2 g3 g4) st se))∧Ext w w':=by
 have HLS:=Za hs.1
 have HLC:=Za hc.len
 have HSV:=Za hs
 have HCV:=Za hc
 have HBX:=Za (BoxP.start w nm g1 g2 g3 g4 As ns cs Ac nc cc)
 have HW0:=Za (show Ext w (w.alloc (.cells #[.string ⟨nm.toArray⟩,.int .i64 g1,.int .i64 g2,.int .i64 g3,.int .i64 g4,.slice As ns cs,.slice Ac nc cc] 42)) from (Zd w).alloc _)
 obtain ⟨a,ha⟩:∃a,fineP nm (gerr g1 g2 g3 g4) st se=a:=⟨_,rfl⟩
 have HFI:=Za (fun (w':World) (hx:Ext (w.alloc (.cells #[.string ⟨nm.toArray⟩,.int .i64 g1,.int .i64 g2,.int .i64 g3,.int .i64 g4,.slice As ns cs,.slice Ac nc cc] 42)) w')=>zhC nm g1 g2 g3 g4 As ns cs st Ac nc cc se w' (HSV.out.ext (HW0.out.trans hx)) (HCV.out.ext (HW0.out.trans hx)) hnl hsl hcl hn1 hn2)
 rw [ha] at HFI
 have HA:=Za ha
 obtain ⟨R,hR⟩:∃R,patE nm (gerr g1 g2 g3 g4) st se=R:=⟨_,rfl⟩
 have HR:=Za hR
 rw [hR]
 clear hs hc hsl hcl hR ha
 by_cases h20:20<ns
 ·have HN:=Za (show R=4 by rw [←HR.out];exact zcU (.inl (by rw [HLS.out];exact h20)))
  have p1:(20:Int)<(ns:Int):=by omega
  clear h20
  go_enter Tryz.func33,Tryz.ntmps33
  go_wp2_with fail
  go_ret
  exact ⟨by rw [HN.out];rfl,zx⟩
 have p1:¬((20:Int)<(ns:Int)):=by omega
 by_cases h21:20<nc
 ·have HN:=Za (show R=4 by rw [←HR.out];exact zcU (.inr (by rw [HLC.out];exact h21)))
  have p2:(20:Int)<(nc:Int):=by omega
  clear h20 h21
  go_enter Tryz.func33,Tryz.ntmps33
  go_wp2_with fail
  go_ret
  exact ⟨by rw [HN.out];rfl,zx⟩
 have p2:¬((20:Int)<(nc:Int)):=by omega
 have HNM:=Za (show ¬(20<st.length∨20<se.length) by rw [HLS.out,HLC.out];omega)
 clear h20 h21
 cases a with
 | false =>
  have HN:=Za (show R=8 by rw [←HR.out];exact zbH HNM.out HA.out)
  go_enter Tryz.func33,Tryz.ntmps33
  go_wp2_with (first
   | (go_at_call 64;((with_reducible refine (HFI.out _ zx).mono ?_);rintro e w3 ⟨rfl,hq3⟩;obtain ⟨x0,x1,x2,x3,x4,x5,x6,xz⟩:=(HBX.out.ext (zx:Ext _ w3)).facts)))
  go_ret
  exact ⟨by rw [HN.out];rfl,HW0.out.trans zx⟩
 | true =>
  go_enter Tryz.func33,Tryz.ntmps33
  go_wp2_with (first
   | (go_at_call 64;((with_reducible refine (HFI.out _ zx).mono ?_);rintro e w3 ⟨rfl,hq3⟩;obtain ⟨x0,x1,x2,x3,x4,x5,x6,xz⟩:=(HBX.out.ext (zx:Ext _ w3)).facts)))
  go_loopw [3,4] (fun u i wr=>∃(V:Value) (k:Nat),V=u∧i = .int .i64 (k:Int)∧k≤ns∧Hid (OwnV shStr1 wr (w.alloc (.cells #[.string ⟨nm.toArray⟩,.int .i64 g1,.int .i64 g2,.int .i64 g3,.int .i64 g4,.slice As ns cs,.slice Ac nc cc] 42)).heap.size 9 V k (nmsL (stN st) k))∧Hid (Ext (w.alloc (.cells #[.string ⟨nm.toArray⟩,.int .i64 g1,.int .i64 g2,.int .i64 g3,.int .i64 g4,.slice As ns cs,.slice Ac nc cc] 42)) wr)) (fun _ i _=>ns-(intOf i).toNat)
  case atStart=>exact ⟨_,0,rfl,rfl,Zu _,Za (OwnV.nil _ _ _ _),Za zx⟩
  case round =>
   obtain ⟨V,k,rfl,rfl,hk,HO,HE⟩:=hrel
   obtain ⟨wa,rfl⟩:∃wa:World,wa=wr:=⟨_,rfl⟩
   obtain ⟨x0,x1,x2,x3,x4,x5,x6,xz⟩:=(HBX.out.ext HE.out).facts
   have q0:(0:Int)≤(k:Int):=by omega
   by_cases hlt:k<ns
   ·have q1:(k:Int)<(ns:Int):=by omega
    obtain ⟨b',off,rfl,hb',c0,c1⟩:=Stf.at_ (HSV.out.ext (HW0.out.trans HE.out)) hlt
    have HNS:=Za (zgU (stN st) k)
    obtain ⟨Y,hY⟩:∃Y,stN st k=Y:=⟨_,rfl⟩
    rw [hY] at c0 HNS
    clear hY c1
    go_wp2_with (at_builtin;(refine zab (S:=shStr1) (w:=_) (m:=1) (c:=1) (L:=nmsL (stN st) k) (k:=k) (xs:=[Y]) 67 9 (.string ⟨#[]⟩) 16 (by rfl) (by rfl) Tryz.underlying67 zeY (by rfl) (by omega) (by rfl) (by rfl) (HO.out.ext zx) (HE.out.trans zx) (Vec.lit2 (by simp) rfl rfl) (by omega) ?_;intro v5 w5 hown5 hx5 hgr5))
    go_roundw
    case rel=>exact ⟨v5,k+1,rfl,by go_num,by omega,Za (by rw [HNS.out];exact hown5),Za hx5.out⟩
    case measure=>simp [intOf] <;> omega
   ·obtain rfl:ns=k:=by omega
    obtain ⟨A9,c9,rfl,hv9, -⟩:=zac HO.out
    obtain ⟨t1,e4⟩:∃t,twiceB (stN st) ns=t:=⟨_,rfl⟩
    obtain ⟨t2,e5⟩:∃t,twiceB (seN se) nc=t:=⟨_,rfl⟩
    have HTA:=Za (fun (w':World) (hx:Ext wa w')=>zbU A9 ns c9 (nmsL (stN st) ns) w' (hv9.ext hx) (by omega))
    rw [zfr,e4] at HTA
    have HTN:=Za ((zfr (seN se) nc).trans e5)
    have HNA:=Za (fun (w':World) (hx:Ext wa w')=>zhK nm g1 g2 g3 g4 As ns cs Ac nc cc se w' (HCV.out.ext ((HW0.out.trans HE.out).trans hx)) hn2)
    have HT1:=Za e4
    have HT2:=Za e5
    clear hv9 e4 e5 HO
    cases t1 with
    | true =>
     have HN:=Za (show R=14 by rw [←HR.out];exact zcj HNM.out HA.out (.inl (by rw [HLS.out];exact HT1.out)))
     go_wp2_with (first
      | (go_at_call 65;(first | ((with_reducible refine (HTA.out _ zx).mono ?_);rintro e w6 ⟨rfl,hq6⟩;obtain ⟨x0,x1,x2,x3,x4,x5,x6,xz⟩:=(HBX.out.ext (HE.out.trans (zx):Ext _ w6)).facts) | (((with_reducible refine (zbU A7 nc c7 (nmsL (seN se) nc) _ (HVN.out.ext zx) (by omega)).mono ?_);rintro e w8 ⟨rfl,hq8⟩;rw [HTN.out];obtain ⟨x0,x1,x2,x3,x4,x5,x6,xz⟩:=(HBX.out.ext (HE.out.trans (zx):Ext _ w8)).facts))))
      | (go_at_call 66;((with_reducible refine (HNA.out _ zx).mono ?_);rintro e w7 ⟨A7,c7,rfl,hv7,hq7⟩;have HVN:=Za hv7;clear hv7;obtain ⟨x0,x1,x2,x3,x4,x5,x6,xz⟩:=(HBX.out.ext (HE.out.trans (zx):Ext _ w7)).facts)))
     go_ret
     exact ⟨by rw [HN.out];rfl,HW0.out.trans (HE.out.trans zx)⟩
    | false =>
     cases t2 with
     | true =>
      have HN:=Za (show R=14 by rw [←HR.out];exact zcj HNM.out HA.out (.inr (by rw [HLC.out];exact HT2.out)))
      go_wp2_with (first
       | (go_at_call 65;(first | ((with_reducible refine (HTA.out _ zx).mono ?_);rintro e w6 ⟨rfl,hq6⟩;obtain ⟨x0,x1,x2,x3,x4,x5,x6,xz⟩:=(HBX.out.ext (HE.out.trans (zx):Ext _ w6)).facts) | (((with_reducible refine (zbU A7 nc c7 (nmsL (seN se) nc) _ (HVN.out.ext zx) (by omega)).mono ?_);rintro e w8 ⟨rfl,hq8⟩;rw [HTN.out];obtain ⟨x0,x1,x2,x3,x4,x5,x6,xz⟩:=(HBX.out.ext (HE.out.trans (zx):Ext _ w8)).facts))))
       | (go_at_call 66;((with_reducible refine (HNA.out _ zx).mono ?_);rintro e w7 ⟨A7,c7,rfl,hv7,hq7⟩;have HVN:=Za hv7;clear hv7;obtain ⟨x0,x1,x2,x3,x4,x5,x6,xz⟩:=(HBX.out.ext (HE.out.trans (zx):Ext _ w7)).facts)))
      go_ret
      exact ⟨by rw [HN.out];rfl,HW0.out.trans (HE.out.trans zx)⟩
     | false =>
      have HN:=Za (show R=firstE se nc 0 by rw [←HR.out,ze4 HNM.out HA.out (by rw [HLS.out];exact HT1.out) (by rw [HLC.out];exact HT2.out),HLC.out])
      go_wp2_with (first
       | (go_at_call 65;(first | ((with_reducible refine (HTA.out _ zx).mono ?_);rintro e w6 ⟨rfl,hq6⟩;obtain ⟨x0,x1,x2,x3,x4,x5,x6,xz⟩:=(HBX.out.ext (HE.out.trans (zx):Ext _ w6)).facts) | (((with_reducible refine (zbU A7 nc c7 (nmsL (seN se) nc) _ (HVN.out.ext zx) (by omega)).mono ?_);rintro e w8 ⟨rfl,hq8⟩;rw [HTN.out];obtain ⟨x0,x1,x2,x3,x4,x5,x6,xz⟩:=(HBX.out.ext (HE.out.trans (zx):Ext _ w8)).facts))))
       | (go_at_call 66;((with_reducible refine (HNA.out _ zx).mono ?_);rintro e w7 ⟨A7,c7,rfl,hv7,hq7⟩;have HVN:=Za hv7;clear hv7;obtain ⟨x0,x1,x2,x3,x4,x5,x6,xz⟩:=(HBX.out.ext (HE.out.trans (zx):Ext _ w7)).facts)))
      go_loopw [5] (fun v wr=>∃j:Nat,v = .int .i64 (j:Int)∧j≤nc∧Hid (R=firstE se (nc-j) j)∧Hid (Ext (w.alloc (.cells #[.string ⟨nm.toArray⟩,.int .i64 g1,.int .i64 g2,.int .i64 g3,.int .i64 g4,.slice As ns cs,.slice Ac nc cc] 42)) wr)) (fun v _=>nc-(intOf v).toNat)
      case atStart=>exact ⟨0,rfl,Zu _,HN,Za (HE.out.trans zx)⟩
      case round =>
       clear x0 x1 x2 x3 x4 x5 x6 xz HN
       obtain ⟨j,rfl,hj,HF,HEJ⟩:=hrel
       obtain ⟨wb,rfl⟩:∃wb:World,wb=wr:=⟨_,rfl⟩
       obtain ⟨x0,x1,x2,x3,x4,x5,x6,xz⟩:=(HBX.out.ext HEJ.out).facts
       have p5:(0:Int)≤(j:Int):=by omega
       by_cases hjl:j<nc
       ·have p6:(j:Int)<(nc:Int):=by omega
        obtain ⟨b',off,A',n',c',rfl,hb',c0,c1,c2,hr,hcap⟩:=(HCV.out.ext (HW0.out.trans HEJ.out)).at_ hjl
        have HRW:=Za hr
        obtain ⟨m,hm⟩:∃m,nc-j=m+1:=⟨nc-j-1,by omega⟩
        have HM:=Za (show nc-(j+1)=m by omega)
        have hF2:=HF.out
        rw [hm] at hF2
        generalize seN se j=Y at c0
        obtain ⟨S,hS⟩:∃S,(se.getD j sec0).s=S:=⟨_,rfl⟩
        obtain ⟨L,hL⟩:∃L,(se.getD j sec0).rows=L:=⟨_,rfl⟩
        rw [hS] at c1
        rw [hL] at HRW
        obtain ⟨x,hx⟩:∃x,chkC S L=x:=⟨_,rfl⟩
        have HCK:=Za (fun (w':World) (h:Ext wb w')=>zf3 S A' n' c' L w' (HRW.out.ext h))
        rw [hx] at HCK
        by_cases hx0:x=0
        ·have HN2:=Za (show R=firstE se (nc-(j+1)) (j+1) by rw [HM.out,hF2,zd1 (by rw [hS,hL,hx];exact hx0)])
         subst hx0
         clear hS hL hx hm hF2 hr
         go_wp2_with (first
          | (go_at_call 30;((with_reducible refine (HCK.out _ zx).mono ?_);rintro e w5 ⟨rfl,hq5⟩)))
         go_roundw
         case rel=>exact ⟨j+1,by go_num,by omega,HN2,Za (HEJ.out.trans zx)⟩
         case measure=>simp [intOf] <;> omega
        ·have HN2:=Za (show R=x by rw [hF2,zdc (by rw [hS,hL,hx];exact hx0),hS,hL,hx])
         have p7:(x != 0)=true:=by simpa using hx0
         clear hS hL hx hm hF2 hr hx0
         go_wp2_with (first
          | (go_at_call 30;((with_reducible refine (HCK.out _ zx).mono ?_);rintro e w5 ⟨rfl,hq5⟩)))
         go_ret
         exact ⟨by rw [HN2.out];rfl,HW0.out.trans (HEJ.out.trans zx)⟩
       ·obtain rfl:nc=j:=by omega
        have HN2:=Za (show R=0 by rw [HF.out,Nat.sub_self];rfl)
        go_wp2_with fail
        go_ret
        exact ⟨by rw [HN2.out];rfl,HW0.out.trans HEJ.out⟩
end Go.Proofs.YtkneghkbgingdaaGreatDoor
/- Grams: the program's and the reference's. -/
namespace Go.Proofs.YtkneghkbgingdaaGreatDoor
set_option maxRecDepth 100000
open Go.RowKit Go.ChangeShapes Go.WideShapes Go.Joins
theorem ziv {se:List Sec}:∀(n k:Nat),firstE se n k=0→∀j,k≤j→j<k+n→chkC (se.getD j sec0).s (se.getD j sec0).rows=0:=by
 intro n
 induction n with
 | zero=>intro k _ j h1 h2;omega
 | succ n ih =>
  intro k h j h1 h2
  by_cases h0:chkC (se.getD k sec0).s (se.getD k sec0).rows=0
  ·by_cases e:j=k
   ·subst e;exact h0
   ·exact ih (k+1) (by rw [←zd1 h0];exact h) j (by omega) (by omega)
  ·rw [zdc h0] at h
   exact absurd h h0
theorem zlR {nm:List UInt8} {ge:Int} {st:List Stf} {se:List Sec} (h:patE nm ge st se=0):gramB st st.length=true∧st.length≤20∧∀j,j<se.length→chkC (se.getD j sec0).s (se.getD j sec0).rows=0:=by
 unfold patE at h
 split at h
 ·cases h
 ·rename_i h1
  split at h
  ·rename_i h2
   split at h
   ·cases h
   ·refine ⟨?_,by omega,fun j hj=>ziv _ _ h j (Zu _) (by omega)⟩
    unfold fineP at h2
    simp only [Zs] at h2
    exact h2.2
  ·cases h
theorem ziG {st:List Stf} {n:Nat} (h:gramB st n=true) {k:Nat} (hk:k≤n):gramB st k=true:=by
 unfold gramB at h ⊢
 rw [Zq] at h ⊢
 intro x hx
 exact h x (ZE.2 (Zt (ZE.1 hx) hk))
def GrmR (nm:List UInt8) (ge:Int) (st:List Stf) (se:List Sec) (w:World) (e:Ending) (w':World):Prop :=
 e = .returned (.tuple #[.int .i64 (if patE nm ge st se=0 then gramS st st.length else 0),.int .i64 (patE nm ge st se)])∧Ext w w'
theorem GrmR.no {nm:List UInt8} {ge x:Int} {st:List Stf} {se:List Sec} {w w':World} (h:patE nm ge st se=x) (h0:x≠0) (hb:Ext w w'):GrmR nm ge st se w (.returned (.tuple #[.int .i64 0,.int .i64 x])) w':=by
 refine ⟨?_,hb⟩
 rw [h,if_neg h0]
theorem GrmR.yes {nm:List UInt8} {ge x:Int} {st:List Stf} {se:List Sec} {w w':World} (h:patE nm ge st se=0) (hx:gramS st st.length=x) (hb:Ext w w'):GrmR nm ge st se w (.returned (.tuple #[.int .i64 x,.int .i64 0])) w':=by
 refine ⟨?_,hb⟩
 rw [h,if_pos rfl,hx]
theorem zbT (nm:List UInt8) (g1 g2 g3 g4:Int) (As:Option Addr) (ns cs:Nat) (st:List Stf) (Ac:Option Addr) (nc cc:Nat) (se:List Sec) (w:World) (hs:Vec shStf w As ns st) (hc:Secs w Ac nc se)
  (hnl:nm.length≤100000) (hsl:∀i,i<ns→(stN st i).length≤100000) (hcl:∀i,i<nc→(seN se i).length≤100000) (hn1:ns≤10000) (hn2:nc≤10000) :
  Calls Tryz.prog 24 #[.agg #[.string ⟨nm.toArray⟩,.int .i64 g1,.int .i64 g2,.int .i64 g3,.int .i64 g4,.slice As ns cs,.slice Ac nc cc]] w (GrmR nm (gerr g1 g2 g3 g4) st se w):=by
 have HLS:=Za hs.1
 have HSV:=Za hs
 have HCV:=Za hc
 have HBX:=Za (BoxP.start w nm g1 g2 g3 g4 As ns cs Ac nc cc)
 have HW0:=Za (show Ext w (w.alloc (.cells #[.string ⟨nm.toArray⟩,.int .i64 g1,.int .i64 g2,.int .i64 g3,.int .i64 g4,.slice As ns cs,.slice Ac nc cc] 42)) from (Zd w).alloc _)
 have HCK:=Za (fun (w':World) (hx:Ext (w.alloc (.cells #[.string ⟨nm.toArray⟩,.int .i64 g1,.int .i64 g2,.int .i64 g3,.int .i64 g4,.slice As ns cs,.slice Ac nc cc] 42)) w')=>za2 nm g1 g2 g3 g4 As ns cs st Ac nc cc se w' (HSV.out.ext (HW0.out.trans hx)) (HCV.out.ext (HW0.out.trans hx)) hnl hsl hcl hn1 hn2)
 obtain ⟨R,hR⟩:∃R,patE nm (gerr g1 g2 g3 g4) st se=R:=⟨_,rfl⟩
 have HR:=Za hR
 rw [hR] at HCK
 clear hs hc hsl hcl hR
 by_cases h0:R=0
 case neg =>
  have HN:=Za h0
  have p7:(R != 0)=true:=by simpa using h0
  clear h0
  go_enter Tryz.func24,Tryz.ntmps24
  go_wp2_with (first
   | (go_at_call 28;((with_reducible refine (HCK.out _ zx).mono ?_);rintro e w3 ⟨rfl,hq3⟩;obtain ⟨x0,x1,x2,x3,x4,x5,x6,xz⟩:=(HBX.out.ext (zx:Ext _ w3)).facts)))
  go_ret2
  exact GrmR.no HR.out HN.out (HW0.out.trans zx)
 subst h0
 have HP:=Za (zlR HR.out)
 go_enter Tryz.func24,Tryz.ntmps24
 go_wp2_with (first
  | (go_at_call 28;((with_reducible refine (HCK.out _ zx).mono ?_);rintro e w3 ⟨rfl,hq3⟩;obtain ⟨x0,x1,x2,x3,x4,x5,x6,xz⟩:=(HBX.out.ext (zx:Ext _ w3)).facts)))
 go_loopw [5,16] (fun u v wr=>∃k:Nat,v = .int .i64 (k:Int)∧u = .int .i64 (gramS st k)∧k≤ns∧Hid (Ext (w.alloc (.cells #[.string ⟨nm.toArray⟩,.int .i64 g1,.int .i64 g2,.int .i64 g3,.int .i64 g4,.slice As ns cs,.slice Ac nc cc] 42)) wr)) (fun u v _=>ns-(intOf v).toNat)
 case atStart=>exact ⟨0,rfl,rfl,Zu _,Za zx⟩
 case round =>
  obtain ⟨k,rfl,rfl,hk,HE⟩:=hrel
  obtain ⟨wa,rfl⟩:∃wa:World,wa=wr:=⟨_,rfl⟩
  obtain ⟨x0,x1,x2,x3,x4,x5,x6,xz⟩:=(HBX.out.ext HE.out).facts
  have q0:(0:Int)≤(k:Int):=by omega
  by_cases hlt:k<ns
  ·have q1:(k:Int)<(ns:Int):=by omega
   have hg1:=zkD k (ziG HP.out.1 (by rw [HLS.out];omega))
   have hg2:=ziG HP.out.1 (k:=k+1) (by rw [HLS.out];omega)
   rw [zcc,Zs,Zx] at hg2
   have hg3:=hg2.2
   obtain ⟨b',off,rfl,hb',c0,c1⟩:=Stf.at_ (HSV.out.ext (HW0.out.trans HE.out)) hlt
   generalize stN st k=Y at c0
   have HGS:=Za (show gramS st (k+1)=gramS st k+(st.getD k stf0).g from rfl)
   generalize (st.getD k stf0).g=gk at *
   generalize gramS st k=G at *
   have i1:=Zp (G+gk) (by omega)
   clear hg2
   go_wp2_with fail
   go_roundw
   case rel=>exact ⟨k+1,by go_num,by rw [HGS.out],by omega,Za (HE.out.trans zx)⟩
   case measure=>simp [intOf] <;> omega
  ·obtain rfl:ns=k:=by omega
   go_wp2_with fail
   go_ret2
   exact GrmR.yes HR.out (by rw [HLS.out]) (HW0.out.trans HE.out)
end Go.Proofs.YtkneghkbgingdaaGreatDoor
/- The contract of the reference's Join of charts. -/
namespace Go.Proofs.YtkneghkbgingdaaGreatDoor
set_option maxRecDepth 100000
open Go.RowKit Go.ChangeShapes Go.WideShapes Go.Joins

end Go.Proofs.YtkneghkbgingdaaGreatDoor
