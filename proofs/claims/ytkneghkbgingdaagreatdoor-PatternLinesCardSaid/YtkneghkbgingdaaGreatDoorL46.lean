/- Parse of the program. -/
import Derived.Test.YtkneghkbgingdaaGreatDoorL44
import Derived.Test.YtkneghkbgingdaaGreatDoorL45
import Derived.Test.YtkneghkbgingdaaGreatDoorL16
import Derived.Test.YtkneghkbgingdaaGreatDoorL37
import Derived.Test.YtkneghkbgingdaaGreatDoorL17
import Derived.Test.YtkneghkbgingdaaGreatDoorL18
set_option maxHeartbeats 16000000
namespace Go.Proofs.YtkneghkbgingdaaGreatDoor
set_option maxRecDepth 100000
open Go.RowKit Go.ChangeShapes Go.WideShapes Go.Joins
theorem znB {w:World} {g:Nat} {p:PSt} {V1 V2:Value} (h:CellsAt w g (pcells p V1 V2)) (v0 v1 v2 v3 v4 v5 v6:Value) :
  CellsAt (((((((w.setCell ⟨g,0,none⟩ v0).setCell ⟨g,1,none⟩ v1).setCell ⟨g,2,none⟩ v2).setCell ⟨g,3,none⟩ v3).setCell ⟨g,4,none⟩ v4).setCell ⟨g,5,none⟩ v5).setCell ⟨g,6,none⟩ v6) g [v0,v1,v2,v3,v4,v5,v6]:=by
 have h9:=((((((h.set (j:=0) (by simp [pcells]) v0).set (j:=1) (by simp [pcells]) v1).set (j:=2) (by simp [pcells]) v2).set (j:=3) (by simp [pcells]) v3).set (j:=4) (by simp [pcells]) v4).set (j:=5) (by simp [pcells]) v5).set (j:=6) (by simp [pcells]) v6
 simpa [pcells] using h9
theorem znA {w wr:World} {g:Nat} (h:Ext w wr) (hg:w.heap.size≤g) (v0 v1 v2 v3 v4 v5 v6:Value) :
  Ext w (((((((wr.setCell ⟨g,0,none⟩ v0).setCell ⟨g,1,none⟩ v1).setCell ⟨g,2,none⟩ v2).setCell ⟨g,3,none⟩ v3).setCell ⟨g,4,none⟩ v4).setCell ⟨g,5,none⟩ v5).setCell ⟨g,6,none⟩ v6) :=
 Below.setCell (Below.setCell (Below.setCell (Below.setCell (Below.setCell (Below.setCell (Below.setCell h hg _) hg _) hg _) hg _) hg _) hg _) hg _
theorem zi1 {w:World} {g:Nat} {v0 v1 v2 v3 v4 v5 v6:Value} (h:CellsAt w g [v0,v1,v2,v3,v4,v5,v6]):w.cell? ⟨g,0,none⟩=some v0∧w.cell? ⟨g,1,none⟩=some v1∧w.cell? ⟨g,2,none⟩=some v2∧w.cell? ⟨g,3,none⟩=some v3∧w.cell? ⟨g,4,none⟩=some v4∧w.cell? ⟨g,5,none⟩=some v5∧w.cell? ⟨g,6,none⟩=some v6 :=
 ⟨h 0 _ rfl,h 1 _ rfl,h 2 _ rfl,h 3 _ rfl,h 4 _ rfl,h 5 _ rfl,h 6 _ rfl⟩
theorem zmP {w:World} {a:Addr} {v:Value} (h:w.cell? a=some v):w.cell? a=some v:=h
structure PQ (g B:Nat) (W1 W wr:World) (p:PSt) (V1 V2:Value):Prop where
 e2:Ext W1 W
 e3:Ext W wr
 st:OwnV shStf W1 B 61 V1 p.st.length p.st
 se:SecO W1 W wr V2 p.se
 lt:g<B
 le:B≤W1.heap.size
theorem PQ.set {g B:Nat} {W1 W wr:World} {p:PSt} {V1 V2:Value} (h:PQ g B W1 W wr p V1 V2) (j:Nat) (u:Value):PQ g B (W1.setCell ⟨g,j,none⟩ u) (W.setCell ⟨g,j,none⟩ u) (wr.setCell ⟨g,j,none⟩ u) p V1 V2:=by
 have h1:=h.lt
 have h2:=h.le
 have h3:=Below.size h.e2
 exact ⟨h.e2.setq (by simp only;omega) _,h.e3.setq (by simp only;omega) _,h.st.setb (by simpa using h1) _,h.se.set (by simp only;omega) h3 _,h1,by simpa using h2⟩
theorem PQ.secs {g B:Nat} {W1 W wr:World} {p:PSt} {V1 V2:Value} (h:PQ g B W1 W wr p V1 V2) (hr:∀x∈p.se,x.rows.length≤1000000) (hl:p.se.length≤1000000):∃A c,V2 = .slice A p.se.length c∧Secs wr A p.se.length p.se∧p.se.length≤c:=by
 exact zZ9
theorem PQ.stfs {g B:Nat} {W1 W wr:World} {p:PSt} {V1 V2:Value} (h:PQ g B W1 W wr p V1 V2):∃A c,V1 = .slice A p.st.length c∧Vec shStf wr A p.st.length p.st:=by
 obtain ⟨A,c,rfl,hv⟩:=zbm h.st
 exact ⟨A,c,rfl,hv.ext (h.e2.trans h.e3)⟩
theorem PM.pq {gR gp:Nat} {w w0 W1 W wr:World} {p:PSt} {V1 V2:Value} (h:PM gR gp w w0 W1 W wr p V1 V2):PQ gR w0.heap.size W1 W wr p V1 V2 :=
 ⟨h.e2,h.e3,h.st,h.se,by have:=h.lt;omega,Below.size h.e1⟩
theorem zkn {at_:List UInt8→Option Int} {ge:Int→Int→Int→Int→Int} {s:List UInt8} (h:readAll at_ (linesOf s) 0 pst0=none):patP at_ ge s=none:=by
 rw [patP,h]
 split <;> rfl
theorem zko {at_:List UInt8→Option Int} {ge:Int→Int→Int→Int→Int} {s:List UInt8} {p:PSt} (hs:s.length≤60000) (h:readAll at_ (linesOf s) 0 pst0=some p) :
  patP at_ ge s=if ptxE p.nm (ge p.g1 p.g2 p.g3 p.g4) p.g1 p.g2 p.g3 p.g4 p.st p.se=0∧ptxV p.nm (ge p.g1 p.g2 p.g3 p.g4) p.g1 p.g2 p.g3 p.g4 p.st p.se=s then some p else none:=by
 rw [patP,if_neg (by omega),h,Option.bind_some]
 by_cases h1:ptxE p.nm (ge p.g1 p.g2 p.g3 p.g4) p.g1 p.g2 p.g3 p.g4 p.st p.se=0∧ptxV p.nm (ge p.g1 p.g2 p.g3 p.g4) p.g1 p.g2 p.g3 p.g4 p.st p.se=s
 ·rw [if_pos h1,if_pos (ziA.2 h1).2]
 ·rw [if_neg h1,if_neg (fun h2=>h1 (ziA.1 ⟨hs,h2⟩))]
def PparR (s:List UInt8) (w:World) (e:Ending) (w':World):Prop:=Ext w w'∧((patP atoiO gerr s=none∧e = .returned (.tuple #[.agg #[.string ⟨#[]⟩,.int .i64 0,.int .i64 0,.int .i64 0,.int .i64 0,.slice none 0 0,.slice none 0 0],.int .i64 12])) ∨
 ∃(p:PSt) (As Ac:Option Addr) (cs cc:Nat),patP atoiO gerr s=some p∧e = .returned (.tuple #[.agg #[.string ⟨p.nm.toArray⟩,.int .i64 p.g1,.int .i64 p.g2,.int .i64 p.g3,.int .i64 p.g4,.slice As p.st.length cs,.slice Ac p.se.length cc],.int .i64 0]) ∧
  Vec shStf w' As p.st.length p.st∧Secs w' Ac p.se.length p.se∧p.se.length≤cc)
theorem zgW (w:World):CellsAt (w.alloc (.cells #[.string ⟨#[]⟩,.int .i64 0,.int .i64 0,.int .i64 0,.int .i64 0,.slice none 0 0,.slice none 0 0] 42)) w.heap.size (pcells pst0 nilV nilV):=fun j v hv=>by
 rw [cell_of_row _ w.heap.size _ _ _ (0,0) (heap_alloc_new w _)]
 simpa [pcells,pst0,nilV] using hv
theorem zfp (s:List UInt8) (hs:60000<s.length) (hl:s.length≤1000000) (w:World):Calls Tryz.prog 18 #[.string ⟨s.toArray⟩] w (PparR s w):=by
 have hlen:(60000:Int)<(s.length:Int):=by omega
 have HN:=Lib.hid (show patP atoiO gerr s=none by rw [patP,if_pos hs])
 have HC:=Lib.hid (zgW w)
 have HW0:=Lib.hid (show Ext w (w.alloc (.cells #[.string ⟨#[]⟩,.int .i64 0,.int .i64 0,.int .i64 0,.int .i64 0,.slice none 0 0,.slice none 0 0] 42)) from (Ext.refl w).alloc _)
 go_enter Tryz.func18,Tryz.ntmps18
 go_wp2
 exact bodyPost_ret (v := .tuple #[.agg #[.string ⟨#[]⟩,.int .i64 0,.int .i64 0,.int .i64 0,.int .i64 0,.slice none 0 0,.slice none 0 0],.int .i64 12]) (by simp [results,Tryz.f18,go_sem]) rfl ⟨HW0.out,.inl ⟨HN.out,rfl⟩⟩
theorem zfq (s:List UInt8) (hs:s.length≤60000) (w:World) (hg:Glob w):Calls Tryz.prog 18 #[.string ⟨s.toArray⟩] w (PparR s w):=by
 have hlen:¬(60000:Int)<(s.length:Int):=by omega
 have HG:=Lib.hid hg
 have HW0:=Lib.hid (show Ext w ((w.alloc (.cells #[.string ⟨#[]⟩,.int .i64 0,.int .i64 0,.int .i64 0,.int .i64 0,.slice none 0 0,.slice none 0 0] 42)).alloc (.cells #[.string ⟨#[]⟩,.int .i64 0,.int .i64 0,.int .i64 0,.int .i64 0,.slice none 0 0,.slice none 0 0] 42)) from ((Ext.refl w).alloc _).alloc _)
 have HPM0:=Lib.hid (PM.start w)
 obtain ⟨s',hs'⟩:∃x,(if s.getLast?=some 10 then s.dropLast else s)=x:=⟨_,rfl⟩
 have HS':=Lib.hid hs'
 have HLE:=Lib.hid hs
 have hsl:s'.length≤s.length:=by rw [←hs'];split <;> simp
 have HTR:=Lib.hid (fun (w':World)=>(show Calls Tryz.prog 51 #[.string ⟨s.toArray⟩,.string ⟨#[10]⟩] w' fun e w''=>e = .returned (.string ⟨s'.toArray⟩)∧w''=w' from hs' ▸ zfH s (by omega) w'))
 have HLN:=Lib.hid (show linesOf s=spl 10 s' by rw [linesOf,hs'])
 have HSP:=Lib.hid (fun (w':World) (hb:Ext w w')=>zaT s' 10 (by omega) w' (hg.ext hb))
 have hwl:=zcr 10 s'
 have hpos:=za6 10 s'
 have HWL:=Lib.hid (fun k=>zas 10 s' k)
 have HSUM:=Lib.hid (zi4 10 s')
 have HVV:=Lib.hid (fun (w':World) (g k:Nat) (h:Vec shStr w' (some ⟨g,0,none⟩) (spl 10 s').length (spl 10 s')) (hk:k<(spl 10 s').length)=>(show w'.cell? ⟨g,k,none⟩=some (.string ⟨((spl 10 s').getD k []).toArray⟩) from by
  obtain ⟨b,off,e,_,h1⟩:=h.word hk
  cases e
  rw [Nat.zero_add] at h1
  exact h1))
 generalize spl 10 s'=L at *
 obtain ⟨nw,hnw⟩:∃nw,L.length=nw:=⟨_,rfl⟩
 have HNW:=Lib.hid hnw
 rw [hnw] at hwl hpos HSP HVV
 clear hs hg hs' hnw
 go_enter Tryz.func18,Tryz.ntmps18
 go_wp2_with (first
  | (go_at_call 51;((with_reducible refine (HTR.out _).mono ?_);rintro e w9 ⟨rfl,h9⟩;subst w9))
  | (go_at_call 50;((with_reducible refine (HSP.out _ zx).mono ?_);rintro e w1 ⟨g1,rfl,hq1,hv1,hg1⟩;have HQ1:=Lib.hid hq1;have HV1:=Lib.hid hv1;have HG1:=Lib.hid hg1;clear hq1 hv1 hg1)))
 have hv0:=HV1.out
 have hlt1:g1<w1.heap.size:=World.block_lt_of_cell? w1 _ (zmP (HVV.out w1 g1 0 hv0 (by omega)))
 have HPM1:=Lib.hid (HPM0.out.ext HQ1.out)
 have HWV:=Lib.hid (fun k (hk:k<nw)=>HVV.out w1 g1 k hv0 hk)
 clear hv0
 have HGP:=Lib.hid (show g1≠w.heap.size+1 by have h9:w.heap.size+1+1≤g1:=(by have h7:=HG1.out;simpa using h7);omega)
 go_loopw [17] (fun u wr=>∃(k:Nat) (p:PSt) (w0 W1 W:World) (V1 V2:Value),u = .int .i64 (k:Int)∧k≤nw∧Hid (PM w.heap.size (w.heap.size+1) w w0 W1 W wr p V1 V2)∧Hid (readAll atoiO (L.take k) 0 pst0=some p)∧Hid (PB (lsum (L.take k)) p) ∧
  Hid (g1<wr.heap.size∧(∀o,wr.cell? ⟨g1,o,none⟩=w1.cell? ⟨g1,o,none⟩)∧some g1≠V1.ownBlock∧some g1≠V2.ownBlock∧(p.se=[]∨g1<W.heap.size))) (fun u _=>nw-(intOf u).toNat)
 case atStart=>exact ⟨0,pst0,_,_,_,nilV,nilV,rfl,Nat.zero_le _,HPM1,Lib.hid rfl,Lib.hid PB.zero,Lib.hid ⟨hlt1,fun _=>rfl,(fun e=>by cases e),(fun e=>by cases e),.inl rfl⟩⟩
 case round =>
  obtain ⟨k,p,w0,W1,W,V1,V2,rfl,hk,HPM,HRA,HPB,HKP⟩:=hrel
  obtain ⟨wb,rfl⟩:∃wb:World,wb=wr:=⟨_,rfl⟩
  have q0:(0:Int)≤(k:Int):=by omega
  by_cases hlt:k<nw
  ·obtain ⟨b1,b2,b3,b4,b5⟩:=HKP.out
   have cw0:=(b2 k).trans (HWV.out k hlt)
   have hwk:=HWL.out k
   obtain ⟨X,hX⟩:∃X,L.getD k []=X:=⟨_,rfl⟩
   rw [hX] at cw0 hwk
   have HX:=Lib.hid hX
   have hpb:=HPB.out
   have hlk:=zcO L k
   have hsum:=HSUM.out
   have HRM:=Lib.hid (zez (by rw [HNW.out];exact hlt) HRA.out)
   have HRL:=Lib.hid (fun (w':World) (hb:Ext wb w')=>zkq w.heap.size (w.heap.size+1) w w0 W1 W w' p V1 V2 X (HPM.out.ext hb) HG.out (by omega) k (by have:=hpb.1;omega) (by have:=hpb.1;omega) (fun x hx=>(hpb.2.2.2 x hx).2))
   have HSL:=Lib.hid (show X.length≤60000 by omega)
   clear hpb hlk hsum hX b1 b2 b3 b4 b5
   go_wp2_with (first
    | (go_at_call 52;((with_reducible refine (HRL.out _ zx).mono ?_);intro e w2 hpl;rcases hpl with ⟨hn,rfl,hx,hc9,hf9,hl9⟩ | ⟨p9,w09,W19,W9,V19,V29,hn,rfl,hpm,hkp⟩;(focus (have HN9:=Lib.hid hn;have HX9:=Lib.hid hx;have HC9:=Lib.hid hc9;obtain ⟨y0,y1,y2,y3,y4,y5,y6⟩:=zal hc9;clear hn hx hc9)))))
   ·have HBD:=Lib.hid (zkn (ge:=gerr) (by rw [HLN.out];exact zft (by rw [HRM.out,HX.out];exact HN9.out)))
    have hz:=znB HC9.out (.string ⟨#[]⟩) (.int .i64 0) (.int .i64 0) (.int .i64 0) (.int .i64 0) (.slice none 0 0) (.slice none 0 0)
    obtain ⟨z0,z1,z2,z3,z4,z5,z6⟩:=zi1 hz
    exact bodyPost_ret (v := .tuple #[.agg #[.string ⟨#[]⟩,.int .i64 0,.int .i64 0,.int .i64 0,.int .i64 0,.slice none 0 0,.slice none 0 0],.int .i64 12]) (by simp [results,Tryz.f18,go_sem,z0,z1,z2,z3,z4,z5,z6]) rfl ⟨znA HX9.out (Nat.le_refl _) _ _ _ _ _ _ _,.inl ⟨HBD.out,rfl⟩⟩
   ·have HPM9:=Lib.hid hpm
    have HPB9:=Lib.hid (zkD hn HPB.out (by have:=HSL.out;omega))
    have HRA9:=Lib.hid (HRM.out.trans (show readL atoiO p k (L.getD k [])=some p9 by rw [HX.out];exact hn))
    obtain ⟨b1,b2,b3,b4,b5⟩:=HKP.out
    have HKP9:=Lib.hid (hkp g1 b1 HGP.out b3 b4 b5)
    have HKQ:=Lib.hid b2
    clear hn hpm hkp b1 b2 b3 b4 b5
    go_roundw
    case rel=>exact ⟨k+1,p9,w09,W19,W9,V19,V29,by go_num,by omega,HPM9,HRA9,Lib.hid (by rw [zig (by rw [HNW.out];exact hlt),HX.out];exact HPB9.out),Lib.hid ⟨HKP9.out.1,fun o=>(HKP9.out.2.1 o).trans (HKQ.out o),HKP9.out.2.2⟩⟩
    case measure=>simp [intOf];omega
  ·obtain rfl:k=nw:=by omega
   have hra:=HRA.out
   rw [List.take_of_length_le (by rw [HNW.out];exact Nat.le_refl _)] at hra
   have hpb:=HPB.out
   have hsum:=HSUM.out
   have hlk:=zcO L k
   obtain ⟨As,cs,rfl,hst⟩:=HPM.out.stfs
   obtain ⟨Ac,cc,rfl,hse,hcap⟩:=HPM.out.secs (fun x hx=>by have:=(hpb.2.2.2 x hx).2;omega) (by have:=hpb.1;omega)
   have HST:=Lib.hid hst
   have HSE:=Lib.hid hse
   have HFN:=Lib.hid (zko (ge:=gerr) HLE.out (by rw [HLN.out];exact hra))
   have HTX:=Lib.hid (fun (w':World) (hb:Ext wb w')=>zex p.nm p.g1 p.g2 p.g3 p.g4 As p.st.length cs p.st Ac p.se.length cc p.se w' (HST.out.ext hb) (HSE.out.ext hb) (by have:=hpb.2.1;omega) (fun i hi=>by
    have hm:p.st.getD i stf0∈p.st:=by rw [List.getD_eq_getElem?_getD,List.getElem?_eq_getElem hi];exact List.getElem_mem _
    have:=hpb.2.2.1 _ hm
    show (p.st.getD i stf0).nm.length≤100000
    omega) (fun i hi=>by
    have hm:p.se.getD i sec0∈p.se:=by rw [List.getD_eq_getElem?_getD,List.getElem?_eq_getElem hi];exact List.getElem_mem _
    have:=(hpb.2.2.2 _ hm).1
    show (p.se.getD i sec0).nm.length≤100000
    omega) (by have:=hpb.1;omega) (by have:=hpb.1;omega) (HG.out.ext (HPM.out.all.trans hb)) (zfd _ _ _ _))
   have HQ:=Lib.hid (fun (w':World) (hb:Ext wb w')=>(HPM.out.ext hb).at0 ((HPM.out.ext hb).b0))
   have HPQ:=Lib.hid (fun (w':World) (hb:Ext wb w')=>(HPM.out.ext hb).pq)
   have HBD:=Lib.hid hpb
   have HCP:=Lib.hid hcap
   unfold PtxR at HTX
   obtain ⟨E,hE⟩:∃E,ptxE p.nm (gerr p.g1 p.g2 p.g3 p.g4) p.g1 p.g2 p.g3 p.g4 p.st p.se=E:=⟨_,rfl⟩
   obtain ⟨T,hT⟩:∃T,ptxV p.nm (gerr p.g1 p.g2 p.g3 p.g4) p.g1 p.g2 p.g3 p.g4 p.st p.se=T:=⟨_,rfl⟩
   rw [hE,hT] at HTX HFN
   clear hra hpb hsum hlk hst hse hcap hE hT
   obtain ⟨a0,a1,a2,a3,a4,a5,a6⟩:=zal (HQ.out wb (Ext.refl _)).2.1
   have az:=(HQ.out wb (Ext.refl _)).2.2.2.2.2
   have hcase:(¬E=0)∨(E=0∧(T==s)=false)∨(E=0∧T=s):=by
    by_cases h1:E=0
    ·by_cases h2:T=s
     ·exact .inr (.inr ⟨h1,h2⟩)
     ·exact .inr (.inl ⟨h1,by simpa using h2⟩)
    ·exact .inl h1
   rcases hcase with h1 | ⟨rfl,h2⟩ | ⟨rfl,rfl⟩
   ·have hne:(E != 0)=true:=by simpa using h1
    have HNO:=Lib.hid (HFN.out.trans (if_neg (fun h9=>h1 h9.1)))
    clear h1
    go_wp2_with (first
     | (go_at_call 16;((with_reducible refine (HTX.out _ zx).mono ?_);rintro e w2 ⟨rfl,hq2⟩;have HE2:=Lib.hid (zx:Ext wb w2);obtain ⟨y0,y1,y2,y3,y4,y5,y6⟩:=zal (HQ.out w2 HE2.out).1;have yf:=(HQ.out w2 HE2.out).2.2.1;have yz:=(HQ.out w2 HE2.out).2.2.2.2.1)))
    have hz:=znB (HQ.out w2 HE2.out).1 (.string ⟨#[]⟩) (.int .i64 0) (.int .i64 0) (.int .i64 0) (.int .i64 0) (.slice none 0 0) (.slice none 0 0)
    obtain ⟨z0,z1,z2,z3,z4,z5,z6⟩:=zi1 hz
    exact bodyPost_ret (v := .tuple #[.agg #[.string ⟨#[]⟩,.int .i64 0,.int .i64 0,.int .i64 0,.int .i64 0,.slice none 0 0,.slice none 0 0],.int .i64 12]) (by simp [results,Tryz.f18,go_sem,z0,z1,z2,z3,z4,z5,z6]) rfl ⟨znA (HPM.out.all.trans HE2.out) (Nat.le_refl _) _ _ _ _ _ _ _,.inl ⟨HNO.out,rfl⟩⟩
   ·have HNO:=Lib.hid (HFN.out.trans (if_neg (fun h9=>by rw [h9.2] at h2;simp at h2)))
    go_wp2_with (first
     | (go_at_call 16;((with_reducible refine (HTX.out _ zx).mono ?_);rintro e w2 ⟨rfl,hq2⟩;have HE2:=Lib.hid (zx:Ext wb w2);obtain ⟨y0,y1,y2,y3,y4,y5,y6⟩:=zal (HQ.out w2 HE2.out).1;have yf:=(HQ.out w2 HE2.out).2.2.1;have yz:=(HQ.out w2 HE2.out).2.2.2.2.1)))
    have hz:=znB (HQ.out w2 HE2.out).1 (.string ⟨#[]⟩) (.int .i64 0) (.int .i64 0) (.int .i64 0) (.int .i64 0) (.slice none 0 0) (.slice none 0 0)
    obtain ⟨z0,z1,z2,z3,z4,z5,z6⟩:=zi1 hz
    exact bodyPost_ret (v := .tuple #[.agg #[.string ⟨#[]⟩,.int .i64 0,.int .i64 0,.int .i64 0,.int .i64 0,.slice none 0 0,.slice none 0 0],.int .i64 12]) (by simp [results,Tryz.f18,go_sem,z0,z1,z2,z3,z4,z5,z6]) rfl ⟨znA (HPM.out.all.trans HE2.out) (Nat.le_refl _) _ _ _ _ _ _ _,.inl ⟨HNO.out,rfl⟩⟩
   ·have HYES:=Lib.hid (HFN.out.trans (if_pos ⟨rfl,rfl⟩))
    go_wp2_with (first
     | (go_at_call 16;((with_reducible refine (HTX.out _ zx).mono ?_);rintro e w2 ⟨rfl,hq2⟩;have HE2:=Lib.hid (zx:Ext wb w2);obtain ⟨y0,y1,y2,y3,y4,y5,y6⟩:=zal (HQ.out w2 HE2.out).1;have yf:=(HQ.out w2 HE2.out).2.2.1;have yz:=(HQ.out w2 HE2.out).2.2.2.2.1;obtain ⟨x0,x1,x2,x3,x4,x5,x6⟩:=zal (HQ.out w2 HE2.out).2.1;have xz:=(HQ.out w2 HE2.out).2.2.2.2.2)))
    have hz:=znB (HQ.out w2 HE2.out).1 (.string ⟨p.nm.toArray⟩) (.int .i64 p.g1) (.int .i64 p.g2) (.int .i64 p.g3) (.int .i64 p.g4) (.slice As p.st.length cs) (.slice Ac p.se.length cc)
    obtain ⟨z0,z1,z2,z3,z4,z5,z6⟩:=zi1 hz
    have hq:=(((((((HPQ.out w2 HE2.out).set 0 (.string ⟨p.nm.toArray⟩)).set 1 (.int .i64 p.g1)).set 2 (.int .i64 p.g2)).set 3 (.int .i64 p.g3)).set 4 (.int .i64 p.g4)).set 5 (.slice As p.st.length cs)).set 6 (.slice Ac p.se.length cc)
    obtain ⟨A1,c1,e1,h1⟩:=hq.stfs
    obtain ⟨A2,c2,e2,h2, -⟩:=hq.secs (fun x hx=>by have:=(HBD.out.2.2.2 x hx).2;omega) (by have:=HBD.out.1;have:=zcO L k;have:=HSUM.out;omega)
    cases e1
    cases e2
    exact bodyPost_ret (v := .tuple #[.agg #[.string ⟨p.nm.toArray⟩,.int .i64 p.g1,.int .i64 p.g2,.int .i64 p.g3,.int .i64 p.g4,.slice As p.st.length cs,.slice Ac p.se.length cc],.int .i64 0]) (by simp [results,Tryz.f18,go_sem,z0,z1,z2,z3,z4,z5,z6]) rfl ⟨znA (HPM.out.all.trans HE2.out) (Nat.le_refl _) _ _ _ _ _ _ _,.inr ⟨p,As,Ac,cs,cc,HYES.out,rfl,h1,h2,HCP.out⟩⟩
theorem zgZ (s:List UInt8) (hs:s.length≤1000000) (w:World) (hg:Glob w):Calls Tryz.prog 18 #[.string ⟨s.toArray⟩] w (PparR s w):=by
 by_cases h:60000<s.length
 ·exact zfp s h hs w
 ·exact zfq s (by omega) w hg
end Go.Proofs.YtkneghkbgingdaaGreatDoor
/- Strings in memory;Index,Names,twice of the reference. -/
namespace Go.Proofs.YtkneghkbgingdaaGreatDoor
set_option maxRecDepth 100000
open Go.RowKit Go.ChangeShapes Go.WideShapes Go.Joins
def shStr1:Shp (List UInt8) where
 size:=1
 cells x:=[.string ⟨x.toArray⟩]
 pos:=by omega
 len _:=rfl
 one x u h:=by
  simp at h
  subst h
  rfl
theorem Str.at_ {w:World} {A:Option Addr} {n:Nat} {l:List (List UInt8)} (h:Vec shStr1 w A n l) {k:Nat} (hk:k<n) :
  ∃(b off:Nat),A=some ⟨b,off,none⟩∧b<w.heap.size∧w.cell? ⟨b,off+k,none⟩=some (.string ⟨(l.getD k []).toArray⟩):=by
 obtain ⟨b,off,e,hlt,hc⟩:=h.2 (by omega)
 have hx:l[k]?=some (l.getD k []):=by
  rw [List.getD_eq_getElem?_getD,List.getElem?_eq_getElem (by rw [h.1];exact hk)];rfl
 have h9:=hc k _ hx 0 _ rfl
 exact ⟨b,off,e,hlt,by simpa [shStr1] using h9⟩
end Go.Proofs.YtkneghkbgingdaaGreatDoor
/- Names and fine of the reference. -/
namespace Go.Proofs.YtkneghkbgingdaaGreatDoor
set_option maxRecDepth 100000
open Go.RowKit Go.ChangeShapes Go.WideShapes Go.Joins
end Go.Proofs.YtkneghkbgingdaaGreatDoor
/- The Check of patterns,the reference's. -/
namespace Go.Proofs.YtkneghkbgingdaaGreatDoor
set_option maxRecDepth 100000
open Go.RowKit Go.ChangeShapes Go.WideShapes Go.Joins
end Go.Proofs.YtkneghkbgingdaaGreatDoor
/- Grams: the program's and the reference's. -/
namespace Go.Proofs.YtkneghkbgingdaaGreatDoor
set_option maxRecDepth 100000
open Go.RowKit Go.ChangeShapes Go.WideShapes Go.Joins
theorem zhU {se:List Sec}:∀(n k:Nat),firstE se n k=0→∀j,k≤j→j<k+n→chkC (se.getD j sec0).s (se.getD j sec0).rows=0:=by
 intro n
 induction n with
 | zero=>intro k _ j h1 h2;omega
 | succ n ih =>
  intro k h j h1 h2
  by_cases h0:chkC (se.getD k sec0).s (se.getD k sec0).rows=0
  ·by_cases e:j=k
   ·subst e;exact h0
   ·exact ih (k+1) (by rw [←zf4 h0];exact h) j (by omega) (by omega)
  ·rw [zep h0] at h
   exact absurd h h0
theorem zlj {nm:List UInt8} {ge:Int} {st:List Stf} {se:List Sec} (h:patE nm ge st se=0):gramB st st.length=true∧st.length≤20∧∀j,j<se.length→chkC (se.getD j sec0).s (se.getD j sec0).rows=0:=by
 unfold patE at h
 split at h
 ·cases h
 ·rename_i h1
  split at h
  ·rename_i h2
   split at h
   ·cases h
   ·refine ⟨?_,by omega,fun j hj=>zhU _ _ h j (Nat.zero_le _) (by omega)⟩
    unfold fineP at h2
    simp only [Bool.and_eq_true] at h2
    exact h2.2
  ·cases h
theorem zh6 {st:List Stf} {n:Nat} (h:gramB st n=true) {k:Nat} (hk:k≤n):gramB st k=true:=by
 unfold gramB at h ⊢
 rw [List.all_eq_true] at h ⊢
 intro x hx
 exact h x (List.mem_range.2 (Nat.lt_of_lt_of_le (List.mem_range.1 hx) hk))
def GrmR (nm:List UInt8) (ge:Int) (st:List Stf) (se:List Sec) (w:World) (e:Ending) (w':World):Prop :=
 e = .returned (.tuple #[.int .i64 (if patE nm ge st se=0 then gramS st st.length else 0),.int .i64 (patE nm ge st se)])∧Ext w w'
theorem GrmR.no {nm:List UInt8} {ge x:Int} {st:List Stf} {se:List Sec} {w w':World} (h:patE nm ge st se=x) (h0:x≠0) (hb:Ext w w'):GrmR nm ge st se w (.returned (.tuple #[.int .i64 0,.int .i64 x])) w':=by
 refine ⟨?_,hb⟩
 rw [h,if_neg h0]
theorem GrmR.yes {nm:List UInt8} {ge x:Int} {st:List Stf} {se:List Sec} {w w':World} (h:patE nm ge st se=0) (hx:gramS st st.length=x) (hb:Ext w w'):GrmR nm ge st se w (.returned (.tuple #[.int .i64 x,.int .i64 0])) w':=by
 refine ⟨?_,hb⟩
 rw [h,if_pos rfl,hx]
theorem zgY (nm:List UInt8) (g1 g2 g3 g4:Int) (As:Option Addr) (ns cs:Nat) (st:List Stf) (Ac:Option Addr) (nc cc:Nat) (se:List Sec) (w:World) (hs:Vec shStf w As ns st) (hc:Secs w Ac nc se)
  (hnl:nm.length≤100000) (hsl:∀i,i<ns→(stN st i).length≤100000) (hcl:∀i,i<nc→(seN se i).length≤100000) (hn1:ns≤10000) (hn2:nc≤10000) :
  Calls Tryz.prog 24 #[.agg #[.string ⟨nm.toArray⟩,.int .i64 g1,.int .i64 g2,.int .i64 g3,.int .i64 g4,.slice As ns cs,.slice Ac nc cc]] w (GrmR nm (gerr g1 g2 g3 g4) st se w):=by
 have HLS:=Lib.hid hs.1
 have HSV:=Lib.hid hs
 have HCV:=Lib.hid hc
 have HBX:=Lib.hid (BoxP.start w nm g1 g2 g3 g4 As ns cs Ac nc cc)
 have HW0:=Lib.hid (show Ext w (w.alloc (.cells #[.string ⟨nm.toArray⟩,.int .i64 g1,.int .i64 g2,.int .i64 g3,.int .i64 g4,.slice As ns cs,.slice Ac nc cc] 42)) from (Ext.refl w).alloc _)
 have HCK:=Lib.hid (fun (w':World) (hx:Ext (w.alloc (.cells #[.string ⟨nm.toArray⟩,.int .i64 g1,.int .i64 g2,.int .i64 g3,.int .i64 g4,.slice As ns cs,.slice Ac nc cc] 42)) w')=>zbA nm g1 g2 g3 g4 As ns cs st Ac nc cc se w' (HSV.out.ext (HW0.out.trans hx)) (HCV.out.ext (HW0.out.trans hx)) hnl hsl hcl hn1 hn2)
 obtain ⟨R,hR⟩:∃R,patE nm (gerr g1 g2 g3 g4) st se=R:=⟨_,rfl⟩
 have HR:=Lib.hid hR
 rw [hR] at HCK
 clear hs hc hsl hcl hR
 by_cases h0:R=0
 case neg =>
  have HN:=Lib.hid h0
  have p7:(R != 0)=true:=by simpa using h0
  clear h0
  go_enter Tryz.func24,Tryz.ntmps24
  go_wp2_with (first
   | (go_at_call 28;((with_reducible refine (HCK.out _ zx).mono ?_);rintro e w3 ⟨rfl,hq3⟩;obtain ⟨x0,x1,x2,x3,x4,x5,x6,xz⟩:=(HBX.out.ext (zx:Ext _ w3)).facts)))
  go_ret2
  exact GrmR.no HR.out HN.out (HW0.out.trans zx)
 subst h0
 have HP:=Lib.hid (zlj HR.out)
 go_enter Tryz.func24,Tryz.ntmps24
 go_wp2_with (first
  | (go_at_call 28;((with_reducible refine (HCK.out _ zx).mono ?_);rintro e w3 ⟨rfl,hq3⟩;obtain ⟨x0,x1,x2,x3,x4,x5,x6,xz⟩:=(HBX.out.ext (zx:Ext _ w3)).facts)))
 go_loopw [5,16] (fun u v wr=>∃k:Nat,v = .int .i64 (k:Int)∧u = .int .i64 (gramS st k)∧k≤ns∧Hid (Ext (w.alloc (.cells #[.string ⟨nm.toArray⟩,.int .i64 g1,.int .i64 g2,.int .i64 g3,.int .i64 g4,.slice As ns cs,.slice Ac nc cc] 42)) wr)) (fun u v _=>ns-(intOf v).toNat)
 case atStart=>exact ⟨0,rfl,rfl,Nat.zero_le _,Lib.hid zx⟩
 case round =>
  obtain ⟨k,rfl,rfl,hk,HE⟩:=hrel
  obtain ⟨wa,rfl⟩:∃wa:World,wa=wr:=⟨_,rfl⟩
  obtain ⟨x0,x1,x2,x3,x4,x5,x6,xz⟩:=(HBX.out.ext HE.out).facts
  have q0:(0:Int)≤(k:Int):=by omega
  by_cases hlt:k<ns
  ·have q1:(k:Int)<(ns:Int):=by omega
   have hg1:=zj0 k (zh6 HP.out.1 (by rw [HLS.out];omega))
   have hg2:=zh6 HP.out.1 (k:=k+1) (by rw [HLS.out];omega)
   rw [zcM,Bool.and_eq_true,decide_eq_true_eq] at hg2
   have hg3:=hg2.2
   obtain ⟨b',off,rfl,hb',c0,c1⟩:=Stf.at_ (HSV.out.ext (HW0.out.trans HE.out)) hlt
   generalize stN st k=Y at c0
   have HGS:=Lib.hid (show gramS st (k+1)=gramS st k+(st.getD k stf0).g from rfl)
   generalize (st.getD k stf0).g=gk at *
   generalize gramS st k=G at *
   have i1:=IntWalk.i64_in (G+gk) (by omega)
   clear hg2
   go_wp2_with fail
   go_roundw
   case rel=>exact ⟨k+1,by go_num,by rw [HGS.out],by omega,Lib.hid (HE.out.trans zx)⟩
   case measure=>simp [intOf] <;> omega
  ·obtain rfl:ns=k:=by omega
   go_wp2_with fail
   go_ret2
   exact GrmR.yes HR.out (by rw [HLS.out]) (HW0.out.trans HE.out)
end Go.Proofs.YtkneghkbgingdaaGreatDoor
/- The contract of the reference's Join of charts. -/
namespace Go.Proofs.YtkneghkbgingdaaGreatDoor
set_option maxRecDepth 100000
open Go.RowKit Go.ChangeShapes Go.WideShapes Go.Joins

end Go.Proofs.YtkneghkbgingdaaGreatDoor
